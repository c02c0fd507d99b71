/- Texts laid together: TransRAp TransCk. -/
import Derived.Test.YtajldelodnjmoaaM13
import Derived.Test.YtajldelodnjmoaaM14
import Derived.Test.YtajldelodnjmoaaM15
import Derived.Test.YtajldelodnjmoaaM18
import Derived.Test.YtajldelodnjmoaaM20
import Derived.Test.YtajldelodnjmoaaM9
section
/- Items applied: the document's. -/
set_option linter.unusedSimpArgs false
set_option linter.unusedVariables false
namespace Go.Ofp
open Go.RowKit
theorem St.rowform {w0 w : World} {F : List Nat} {L : List Ch} {e size n k c : Nat} {a : Option Addr} {xs : List Value} (h : St w0 F L w) (i : Nat) (hi : L[i]? = some (Ch.row e size (.slice a n c) k xs)) : (a = none ∧ n = 0 ∧ c = 0) ∨ ∃ g, a = some ⟨g, 0, none⟩ := by
  rcases (h.get i hi).2 with ⟨e1, e2⟩ | ⟨g, cap, cur, e1, -⟩
  · cases e1; exact .inl ⟨rfl, rfl, rfl⟩
  · cases e1; exact .inr ⟨g, rfl⟩
end Go.Ofp
namespace Go.Proofs.Ytajldelodnjmoaa
open Go.RowKit Go.Ofp
set_option linter.unusedVariables false
set_option maxRecDepth 100000
set_option maxHeartbeats 4000000

theorem rapply_any (a b : Option Addr) (n c m d : Nat) (cs : List Cd) (l : List It) (w : World) (hc : Lst cdRow (fun x => x.f.length = 8) w a n c cs) (hl : Lst itRow (fun x => x.c.f.length = 8) w b m d l) (hk : ∀ x ∈ l, x.kind = 1 ∨ x.kind = 2 ∨ x.kind = 3) (hn : n + m ≤ 1000) :
    Calls Try.prog 20 #[.slice a n c, .slice b m d] w fun e w' => ApR Try.prog 41 cdRow (applyC cs l) e w w' := by
  have hS := St.start w
  have ec := elem_card
  have cO := Lib.hid fun (a : Option Addr) (n c : Nat) (M : List Cd) (x : It) (W : World) (hl : Lst cdRow (fun x => x.f.length = 8) W a n c M) (ha : (a = none ∧ n = 0 ∧ c = 0) ∨ ∃ g, a = some ⟨g, 0, none⟩) (hx : x.c.f.length = 8) (hk : x.kind = 1 ∨ x.kind = 2 ∨ x.kind = 3) (hn : n ≤ 1000) => rone23_any a n c M x W hl ha hx hk hn
  have hclen := Lib.hid hc.len
  have hllen := Lib.hid hl.len
  have hclens := Lib.hid (show ∀ y ∈ cs, (cdRow y).length = 27 from fun y hy => cdRow_lenT y (hc.mem y hy))
  have hllens := Lib.hid (show ∀ x ∈ l, (itRow x).length = 28 from fun x hx => itRow_len x (hl.mem x hx))
  have hlbase := Lib.hid (hl.base (by decide) hllens.out)
  have hcm := Lib.hid hc.mem
  have hlm := Lib.hid hl.mem
  have hcl : (cs.map cdRow).flatten.length = n * 27 := by
    rw [flat_len2 27 _ (by intro r hr; obtain ⟨y, hy, rfl⟩ := List.mem_map.1 hr; exact hclens.out y hy), List.length_map, hclen.out]
  have hco : ∀ u ∈ (cs.map cdRow).flatten, u.oneCell' = true := fun u hu => by
    obtain ⟨r, hr, hu⟩ := List.mem_flatten.1 hu
    obtain ⟨y, -, rfl⟩ := List.mem_map.1 hr
    exact List.all_eq_true.1 (cdRow_one y) u hu
  replace hc := Lib.hid hc
  replace hl := Lib.hid hl
  replace hcl := Lib.hid hcl
  replace hco := Lib.hid hco
  replace hk := Lib.hid hk
  obtain ⟨O, hO⟩ : ∃ O, applyC cs l = O := ⟨_, rfl⟩
  rw [hO]
  replace hO := Lib.hid hO
  go_enter Try.func20, Try.ntmps20
  go_wp2_with (first
    | ((with_reducible refine wpList_build0_st hS rfl rfl Try.underlying34 ec ?_); intro g2 w3 hS1; clear hS; have hS := hS1; clear hS1)
    | ((with_reducible refine wpList_app_st 0 hS rfl rfl rfl Try.underlying34 ec rfl (Src.slice Try.underlying34 (hS.sl hc.out.sl) hcl.out) rfl hco.out (by omega) (by unfold maxLen; omega) ?_); intro v5 w6 hS1; clear hS; simp only [List.set_cons_zero, Nat.zero_add, List.nil_append] at hS1; have hS := hS1; clear hS1; obtain ⟨a5, c5, rfl, -⟩ := hS.row 0 rfl))
  have hf0 := Lib.hid (hS.rowform 0 rfl)
  have e0 := hclen.out
  subst e0
  go_loopg [6, 7] m (fun gk vo vx wr => ∃ (q : Nat) (M : List Cd) (ao : Option Addr) (co : Nat), q + gk = m ∧ vx = .int .i64 q ∧ vo = .slice ao M.length co ∧ Hid (applyC cs (l.take q) = some M) ∧ Hid (∀ c ∈ M, c.f.length = 8) ∧ Hid ((ao = none ∧ M.length = 0 ∧ co = 0) ∨ ∃ g, ao = some ⟨g, 0, none⟩) ∧ Hid (M.length ≤ cs.length + q) ∧ St w [] [Ch.row 41 27 (.slice ao M.length co) M.length (M.map cdRow).flatten] wr)
  case atStart => exact ⟨0, cs, a5, c5, Nat.zero_add _, rfl, rfl, Lib.hid rfl, hcm, hf0, Lib.hid (Nat.le_refl _), hS⟩
  case round =>
    clear hS hf0
    obtain ⟨q, M, ao, co, hq, rfl, rfl, hM, hMf, hMa, hMl, hS⟩ := hrel
    by_cases hlt : q < m
    · have hql : q < l.length := by rw [hllen.out]; exact hlt
      obtain ⟨bl, ol, rfl⟩ := hlbase.out (by omega)
      have hrow := Lib.hid (hl.out.rowb hllens.out q hql)
      have hrl := hllens.out _ (List.getElem_mem hql)
      have hxo := hlm.out _ (List.getElem_mem hql)
      have hxk := hk.out _ (List.getElem_mem hql)
      have hstep := applyC_step (m := cs) hql
      rw [hM.out] at hstep
      change applyC cs (l.take (q + 1)) = oneC M l[q] at hstep
      have hML := hMl.out
      have hcO := fun (W : World) (h : Lst cdRow (fun x => x.f.length = 8) W ao M.length co M) => cO.out ao M.length co M l[q] W h hMa.out hxo hxk (by omega)
      have hall := fun M' (h : oneC M l[q] = some M') => And.intro (oneC_length h) (oneC_all (p := fun c => c.f.length = 8) h hMf.out hxo)
      cases ho : oneC M l[q] with
      | none =>
        have hno : O = none := hO.out.symm.trans (applyC_take_none (q + 1) (hstep.trans ho))
        rw [ho] at hcO
        replace hcO := Lib.hid hcO
        replace hno := Lib.hid hno
        clear hstep hall ho hM
        generalize itRow l[q] = RT at *
        go_wp2_with (first
          | (go_at_call 56; (with_reducible refine (hcO.out _ (hS.lst 0 rfl rfl hMf.out)).mono ?_); rintro _ w9 ⟨v9, rfl, hk9⟩; have hS1 := hS.keepB hk9; clear hk9 hS; have hS := hS1; clear hS1)
          | (with_reducible refine wpList_rangerow (n := 28) (range_old hS hrow.out) rfl rfl rfl (by kernel_rfl) (by kernel_rfl) hrl ?_))
        go_ret2
        rw [hno.out]
        exact ⟨rfl, hS.below⟩
      | some M' =>
        rw [ho] at hcO hstep
        obtain ⟨h1, h2⟩ := hall M' ho
        have hM2 := Lib.hid hstep
        replace hcO := Lib.hid hcO
        have h3 := Lib.hid (show M'.length ≤ cs.length + (q + 1) by omega)
        replace h2 := Lib.hid h2
        clear hstep hall ho hM h1
        generalize itRow l[q] = RT at *
        go_wp2_with (first
          | (go_at_call 56; (with_reducible refine (hcO.out _ (hS.lst 0 rfl rfl hMf.out)).mono ?_); rintro _ w9 ⟨a9, c9, rfl, hk9⟩; have hf9 := Lib.hid (hk9.rowform 0 rfl); have hS1 := hS.made hk9; clear hS hk9; have hS := hS1; clear hS1)
          | (with_reducible refine wpList_rangerow (n := 28) (range_old hS hrow.out) rfl rfl rfl (by kernel_rfl) (by kernel_rfl) hrl ?_))
        go_roundg (m - (q + 1))
        case measure => omega
        case rel => exact ⟨q + 1, M', a9, c9, by omega, by go_num, rfl, hM2, h2, hf9, h3, hS.one 0 rfl⟩
    · have e : l.take q = l := List.take_of_length_le (by rw [hllen.out]; omega)
      have hOM : O = some M := by rw [← hO.out]; have := hM.out; rwa [e] at this
      subst hOM
      clear hM e
      go_wp2_with fail
      go_ret2
      exact ⟨_, _, rfl, hS⟩
end Go.Proofs.Ytajldelodnjmoaa
end

section
/- Which items may be: the program's. -/
set_option linter.unusedSimpArgs false
set_option linter.unusedVariables false
namespace Go.Ofp
end Go.Ofp
namespace Go.Proofs.Ytajldelodnjmoaa
open Go.RowKit Go.Ofp
set_option linter.unusedVariables false
set_option maxRecDepth 100000
set_option maxHeartbeats 4000000

end Go.Proofs.Ytajldelodnjmoaa
end
