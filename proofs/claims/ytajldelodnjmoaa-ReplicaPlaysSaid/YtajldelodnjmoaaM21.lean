/- Texts laid together: TransRAp TransCk. -/
import Derived.Test.YtajldelodnjmoaaM13
import Derived.Test.YtajldelodnjmoaaM14
import Derived.Test.YtajldelodnjmoaaM15
import Derived.Test.YtajldelodnjmoaaM18
import Derived.Test.YtajldelodnjmoaaM20
import Derived.Test.YtajldelodnjmoaaM9
section
/- Items applied: the document's. -/
set_option linter.unusedSimpArgs false
set_option linter.unusedVariables false
namespace Go.Ofp
open Go.RowKit
theorem St.rowform {w0 w : World} {F : List Nat} {L : List Ch} {e size n k c : Nat} {a : Option Addr} {xs : List Value} (h : St w0 F L w) (i : Nat) (hi : L[i]? = some (Ch.row e size (.slice a n c) k xs)) : (a = none ∧ n = 0 ∧ c = 0) ∨ ∃ g, a = some ⟨g, 0, none⟩ := by
  rcases (h.get i hi).2 with ⟨e1, e2⟩ | ⟨g, cap, cur, e1, -⟩
  · cases e1; exact .inl ⟨rfl, rfl, rfl⟩
  · cases e1; exact .inr ⟨g, rfl⟩
end Go.Ofp
namespace Go.Proofs.Ytajldelodnjmoaa
open Go.RowKit Go.Ofp
set_option linter.unusedVariables false
set_option maxRecDepth 100000
set_option maxHeartbeats 4000000

theorem rapply_any (a b : Option Addr) (n c m d : Nat) (cs : List Cd) (l : List It) (w : World) (hc : Lst cdRow (fun x => x.f.length = 8) w a n c cs) (hl : Lst itRow (fun x => x.c.f.length = 8) w b m d l) (hk : ∀ x ∈ l, x.kind = 1 ∨ x.kind = 2 ∨ x.kind = 3) (hn : n + m ≤ 50000) :
    Calls Try.prog 20 #[.slice a n c, .slice b m d] w fun e w' => ApR Try.prog 41 cdRow (applyC cs l) e w w' := by
  have hS := St.start w
  have ec := elem_card
  have cO := Lib.hid fun (a : Option Addr) (n c : Nat) (M : List Cd) (x : It) (W : World) (hl : Lst cdRow (fun x => x.f.length = 8) W a n c M) (ha : (a = none ∧ n = 0 ∧ c = 0) ∨ ∃ g, a = some ⟨g, 0, none⟩) (hx : x.c.f.length = 8) (hk : x.kind = 1 ∨ x.kind = 2 ∨ x.kind = 3) (hn : n ≤ 50000) => rone23_any a n c M x W hl ha hx hk hn
  have hclen := Lib.hid hc.len
  have hllen := Lib.hid hl.len
  have hclens := Lib.hid (show ∀ y ∈ cs, (cdRow y).length = 27 from fun y hy => cdRow_lenT y (hc.mem y hy))
  have hllens := Lib.hid (show ∀ x ∈ l, (itRow x).length = 28 from fun x hx => itRow_len x (hl.mem x hx))
  have hlbase := Lib.hid (hl.base (by decide) hllens.out)
  have hcm := Lib.hid hc.mem
  have hlm := Lib.hid hl.mem
  have hcl : (cs.map cdRow).flatten.length = n * 27 := by
    rw [flat_len2 27 _ (by intro r hr; obtain ⟨y, hy, rfl⟩ := List.mem_map.1 hr; exact hclens.out y hy), List.length_map, hclen.out]
  have hco : ∀ u ∈ (cs.map cdRow).flatten, u.oneCell' = true := fun u hu => by
    obtain ⟨r, hr, hu⟩ := List.mem_flatten.1 hu
    obtain ⟨y, -, rfl⟩ := List.mem_map.1 hr
    exact List.all_eq_true.1 (cdRow_one y) u hu
  replace hc := Lib.hid hc
  replace hl := Lib.hid hl
  replace hcl := Lib.hid hcl
  replace hco := Lib.hid hco
  replace hk := Lib.hid hk
  obtain ⟨O, hO⟩ : ∃ O, applyC cs l = O := ⟨_, rfl⟩
  rw [hO]
  replace hO := Lib.hid hO
  go_enter Try.func20, Try.ntmps20
  go_wp2_with (first
    | ((with_reducible refine wpList_build0_st hS rfl rfl Try.underlying34 ec ?_); intro g2 w3 hS1; clear hS; have hS := hS1; clear hS1)
    | ((with_reducible refine wpList_app_st 0 hS rfl rfl rfl Try.underlying34 ec rfl (Src.slice Try.underlying34 (hS.sl hc.out.sl) hcl.out) rfl hco.out (by omega) (by unfold maxLen; omega) ?_); intro v5 w6 hS1; clear hS; simp only [List.set_cons_zero, Nat.zero_add, List.nil_append] at hS1; have hS := hS1; clear hS1; obtain ⟨a5, c5, rfl, -⟩ := hS.row 0 rfl))
  have hf0 := Lib.hid (hS.rowform 0 rfl)
  have e0 := hclen.out
  subst e0
  go_loopg [6, 7] m (fun gk vo vx wr => ∃ (q : Nat) (M : List Cd) (ao : Option Addr) (co : Nat), q + gk = m ∧ vx = .int .i64 q ∧ vo = .slice ao M.length co ∧ Hid (applyC cs (l.take q) = some M) ∧ Hid (∀ c ∈ M, c.f.length = 8) ∧ Hid ((ao = none ∧ M.length = 0 ∧ co = 0) ∨ ∃ g, ao = some ⟨g, 0, none⟩) ∧ Hid (M.length ≤ cs.length + q) ∧ St w [] [Ch.row 41 27 (.slice ao M.length co) M.length (M.map cdRow).flatten] wr)
  case atStart => exact ⟨0, cs, a5, c5, Nat.zero_add _, rfl, rfl, Lib.hid rfl, hcm, hf0, Lib.hid (Nat.le_refl _), hS⟩
  case round =>
    clear hS hf0
    obtain ⟨q, M, ao, co, hq, rfl, rfl, hM, hMf, hMa, hMl, hS⟩ := hrel
    by_cases hlt : q < m
    · have hql : q < l.length := by rw [hllen.out]; exact hlt
      obtain ⟨bl, ol, rfl⟩ := hlbase.out (by omega)
      have hrow := Lib.hid (hl.out.rowb hllens.out q hql)
      have hrl := hllens.out _ (List.getElem_mem hql)
      have hxo := hlm.out _ (List.getElem_mem hql)
      have hxk := hk.out _ (List.getElem_mem hql)
      have hstep := applyC_step (m := cs) hql
      rw [hM.out] at hstep
      change applyC cs (l.take (q + 1)) = oneC M l[q] at hstep
      have hML := hMl.out
      have hcO := fun (W : World) (h : Lst cdRow (fun x => x.f.length = 8) W ao M.length co M) => cO.out ao M.length co M l[q] W h hMa.out hxo hxk (by omega)
      have hall := fun M' (h : oneC M l[q] = some M') => And.intro (oneC_length h) (oneC_all (p := fun c => c.f.length = 8) h hMf.out hxo)
      cases ho : oneC M l[q] with
      | none =>
        have hno : O = none := hO.out.symm.trans (applyC_take_none (q + 1) (hstep.trans ho))
        rw [ho] at hcO
        replace hcO := Lib.hid hcO
        replace hno := Lib.hid hno
        clear hstep hall ho hM
        generalize itRow l[q] = RT at *
        go_wp2_with (first
          | (go_at_call 56; (with_reducible refine (hcO.out _ (hS.lst 0 rfl rfl hMf.out)).mono ?_); rintro _ w9 ⟨v9, rfl, hk9⟩; have hS1 := hS.keepB hk9; clear hk9 hS; have hS := hS1; clear hS1)
          | (with_reducible refine wpList_rangerow (n := 28) (range_old hS hrow.out) rfl rfl rfl (by kernel_rfl) (by kernel_rfl) hrl ?_))
        go_ret2
        rw [hno.out]
        exact ⟨rfl, hS.below⟩
      | some M' =>
        rw [ho] at hcO hstep
        obtain ⟨h1, h2⟩ := hall M' ho
        have hM2 := Lib.hid hstep
        replace hcO := Lib.hid hcO
        have h3 := Lib.hid (show M'.length ≤ cs.length + (q + 1) by omega)
        replace h2 := Lib.hid h2
        clear hstep hall ho hM h1
        generalize itRow l[q] = RT at *
        go_wp2_with (first
          | (go_at_call 56; (with_reducible refine (hcO.out _ (hS.lst 0 rfl rfl hMf.out)).mono ?_); rintro _ w9 ⟨a9, c9, rfl, hk9⟩; have hf9 := Lib.hid (hk9.rowform 0 rfl); have hS1 := hS.made hk9; clear hS hk9; have hS := hS1; clear hS1)
          | (with_reducible refine wpList_rangerow (n := 28) (range_old hS hrow.out) rfl rfl rfl (by kernel_rfl) (by kernel_rfl) hrl ?_))
        go_roundg (m - (q + 1))
        case measure => omega
        case rel => exact ⟨q + 1, M', a9, c9, by omega, by go_num, rfl, hM2, h2, hf9, h3, hS.one 0 rfl⟩
    · have e : l.take q = l := List.take_of_length_le (by rw [hllen.out]; omega)
      have hOM : O = some M := by rw [← hO.out]; have := hM.out; rwa [e] at this
      subst hOM
      clear hM e
      go_wp2_with fail
      go_ret2
      exact ⟨_, _, rfl, hS⟩
end Go.Proofs.Ytajldelodnjmoaa
end

section
/- Which items may be: the program's. -/
set_option linter.unusedSimpArgs false
set_option linter.unusedVariables false
namespace Go.Ofp
theorem itsMay_snoc_false {ok : Cd → Bool} {last : Int} {x : It} {r : List It} (h : (decide (last < x.c.id) && decide (x.c.id < 1073741824) && x.may ok) = false) : itsMay ok last (x :: r) = false := by
  unfold itsMay
  rw [h, Bool.false_and]
theorem itsMay_snoc_true {ok : Cd → Bool} {last : Int} {x : It} {r : List It} (h : (decide (last < x.c.id) && decide (x.c.id < 1073741824) && x.may ok) = true) : itsMay ok last (x :: r) = itsMay ok x.c.id r := by
  rw [itsMay, h, Bool.true_and]
end Go.Ofp
namespace Go.Proofs.Ytajldelodnjmoaa
open Go.RowKit Go.Ofp
set_option linter.unusedVariables false
set_option maxRecDepth 100000
set_option maxHeartbeats 4000000

theorem tcki_any (a : Option Addr) (n c : Nat) (l : List It) (w : World) (hl : Lst itRow ItIn w a n c l) (hn : n ≤ 1000) :
    Calls Try.prog 32 #[.slice a n c] w fun e w' => e = .returned (.bool (itsMay Cd.ok 0 l)) ∧ Below w.heap.size w w' := by
  have hS := St.start w
  have ei := elem_item
  have cC := Lib.hid fun (c : Cd) (hf : c.f.length = 8) (W : World) => ckc_any c hf W
  have hG := guard_cd
  have hlen := Lib.hid hl.len
  have hlens := Lib.hid (show ∀ x ∈ l, (itRow x).length = 28 from fun x hx => itRow_len x (hl.mem x hx).c.len)
  have hbase := Lib.hid (hl.base (by decide) hlens.out)
  have hmem := Lib.hid hl.mem
  replace hl := Lib.hid hl
  obtain ⟨R, hR⟩ : ∃ R, itsMay Cd.ok 0 l = R := ⟨_, rfl⟩
  rw [hR]
  replace hR := Lib.hid hR
  go_enter Try.func32, Try.ntmps32
  go_wp2_with fail
  go_loopg [3, 8] n (fun gk vs vx wr => ∃ (j : Nat) (y : Int), j + gk = n ∧ vx = .int .i64 j ∧ vs = .int .i64 y ∧ Hid (R = itsMay Cd.ok y (l.drop j)) ∧ St w [] [] wr)
  case atStart => exact ⟨0, 0, Nat.zero_add _, rfl, rfl, Lib.hid hR.out.symm, hS⟩
  case round =>
    clear hS
    obtain ⟨j, y, hj, rfl, rfl, hg, hS⟩ := hrel
    by_cases hlt : j < n
    · have hjl : j < l.length := by rw [hlen.out]; exact hlt
      obtain ⟨b, off, rfl⟩ := hbase.out (by omega)
      have hrow := hl.out.rowb hlens.out j hjl
      have hrl := hlens.out _ (List.getElem_mem hjl)
      have hone := itRow_one l[j]
      have hin := hmem.out _ (List.getElem_mem hjl)
      have hg2 := hg.out
      rw [List.drop_eq_getElem_cons hjl] at hg2
      have hcC := cC.out l[j].c hin.c.len
      have hE := fun W : World => neq_cd l[j].c (Cd.none l[j].c.id) hin.c.len rfl W
      have hnz : (cdRow (Cd.none l[j].c.id)).toArray = #[.int .i64 l[j].c.id, .int .i64 0, .int .u32 0, .int .i64 0, .int .i64 0, .string ⟨#[]⟩, .int .i64 0, .int .i64 0, .string ⟨#[]⟩, .int .i64 0, .int .i64 0, .string ⟨#[]⟩, .int .i64 0, .int .i64 0, .string ⟨#[]⟩, .int .i64 0, .int .i64 0, .string ⟨#[]⟩, .int .i64 0, .int .i64 0, .string ⟨#[]⟩, .int .i64 0, .int .i64 0, .string ⟨#[]⟩, .int .i64 0, .int .i64 0, .string ⟨#[]⟩] := rfl
      rw [hnz] at hE
      clear hnz
      have hmf : l[j].may Cd.ok = if l[j].kind = 1 ∨ l[j].kind = 3 then l[j].c.ok else if l[j].kind = 2 then decide (l[j].c = Cd.none l[j].c.id) else false := rfl
      have hfl := fun (h : (decide (y < l[j].c.id) && decide (l[j].c.id < 1073741824) && l[j].may Cd.ok) = false) => hg2.trans (itsMay_snoc_false (r := l.drop (j + 1)) h)
      have htr := fun (h : (decide (y < l[j].c.id) && decide (l[j].c.id < 1073741824) && l[j].may Cd.ok) = true) => hg2.trans (itsMay_snoc_true (r := l.drop (j + 1)) h)
      have hcl := cdRow_lenT _ hin.c.len
      have hcells : itRow l[j] = .int .i64 l[j].kind :: cdRow l[j].c := rfl
      have hcid : cdRow l[j].c = .int .i64 l[j].c.id :: .int .i64 l[j].c.ver :: .int .u32 l[j].c.lab :: flRow l[j].c.f := rfl
      rw [hcells] at hrow hrl hone
      rw [hcid] at hrow hrl hone hcl hcC hE
      clear hcells hcid hg2 hin
      replace hrow := Lib.hid hrow
      generalize hmy : l[j].may Cd.ok = my at *
      clear hmy
      generalize hzb : decide (l[j].c = Cd.none l[j].c.id) = zb at *
      clear hzb
      generalize l[j].c.ok = ob at *
      generalize hD : l.drop (j + 1) = D at *
      generalize l[j] = x at *
      obtain ⟨kind, id, ver, lab, f⟩ := x
      dsimp only at *
      generalize flRow f = RF at *
      have hd1 : ((Value.int .i64 kind :: .int .i64 id :: .int .i64 ver :: .int .u32 lab :: RF).toArray.toList.drop 1).take 27 = (Value.int .i64 id :: .int .i64 ver :: .int .u32 lab :: RF) := List.take_of_length_le (Nat.le_of_eq hcl)
      replace hcC := Lib.hid hcC
      by_cases h1 : id ≤ y
      · have hRf := hfl (by rw [decide_eq_false (by omega)]; rfl)
        have d1 : decide (id ≤ y) = true := decide_eq_true h1
        clear hfl htr h1 hmf
        replace hRf := Lib.hid hRf
        go_wp2_with (first
          | (go_at_call 63; (with_reducible refine (hcC.out _).mono ?_); rintro _ w9 ⟨rfl, hk9⟩; have hS1 := hS.keepB hk9; clear hk9 hS; have hS := hS1; clear hS1)
          | (with_reducible refine wpList_rangerow (n := 28) (range_old hS hrow.out) rfl rfl rfl (by kernel_rfl) (by kernel_rfl) hrl ?_)
          | ((with_reducible refine wpList_alloc_st (L := []) hS rfl rfl ei ?_); intro gX w1 hS1; clear hS; have hS := hS1; clear hS1)
          | ((with_reducible refine wpList_storerow_st (n := 28) (vs := .int .i64 kind :: .int .i64 id :: .int .i64 ver :: .int .u32 lab :: RF) 0 hS rfl rfl rfl rfl (by kernel_rfl) rfl hrl hone (by kernel_rfl) ?_); intro w1 hS1; clear hS; have hS := hS1; clear hS1; try simp only [List.set_cons_zero, List.set_cons_succ, List.setIfInBounds_toArray, List.take_succ_cons, List.take_zero, List.drop_succ_cons, List.drop_zero, List.nil_append, List.cons_append, List.append_nil, List.drop_nil, List.take_nil, List.length_cons, List.length_nil, Nat.zero_add, Nat.add_zero, Nat.reduceAdd] at hS)
          | ((with_reducible refine wpList_loadrow_st (n := 27) 0 hS rfl rfl rfl rfl ?_ (by kernel_rfl) hd1 hcl ?_); focus (simp [rowB, go_sem]; done))
          | ((with_reducible refine wpList_gload_st 0 hS rfl (by with_unfolding_all rfl) rfl rfl ?_ rfl ?_); focus (simp [scalarB, go_sem]; done))
          | (with_reducible refine wpList_box_st hS rfl rfl rfl ?_; intro g1 w1 hS1; clear hS; replace hS := hS1; clear hS1) | (with_reducible refine wpList_box1_st hS rfl rfl rfl ?_; intro g1 w1 hS1; clear hS; replace hS := hS1; clear hS1) | (with_reducible refine wpList_alloc_st hS rfl rfl (by assumption) ?_; intro g1 w1 hS1; clear hS; replace hS := hS1; clear hS1) | (with_reducible refine wpList_alloc1_st hS rfl rfl (by assumption) rfl ?_; intro g1 w1 hS1; clear hS; replace hS := hS1; clear hS1) | ((with_reducible refine wpList_load_st 0 hS rfl rfl rfl rfl ?_ rfl ?_); focus (simp [scalarB, go_sem]; done)) | ((with_reducible refine wpList_loadall_st 0 hS rfl rfl rfl rfl ?_ (by kernel_rfl) ?_); focus (simp [rowB, go_sem]; done)) | ((with_reducible refine wpList_store_st 0 hS rfl rfl rfl rfl (by kernel_rfl) rfl rfl ?_); intro w1 hS1; clear hS; replace hS := hS1; clear hS1; try simp only [List.set_cons_zero, List.set_cons_succ, List.setIfInBounds_toArray, List.take_succ_cons, List.take_zero, List.drop_succ_cons, List.drop_zero, List.nil_append, List.cons_append, List.append_nil, List.drop_nil, List.take_nil, List.length_cons, List.length_nil, Nat.zero_add, Nat.add_zero, Nat.reduceAdd] at hS) | ((with_reducible refine wpList_storerow_st 0 hS rfl rfl rfl rfl (by kernel_rfl) rfl rfl rfl rfl ?_); intro w1 hS1; clear hS; replace hS := hS1; clear hS1; try simp only [List.set_cons_zero, List.set_cons_succ, List.setIfInBounds_toArray, List.take_succ_cons, List.take_zero, List.drop_succ_cons, List.drop_zero, List.nil_append, List.cons_append, List.append_nil, List.drop_nil, List.take_nil, List.length_cons, List.length_nil, Nat.zero_add, Nat.add_zero, Nat.reduceAdd] at hS))
        go_ret
        exact ⟨by rw [hRf.out]; rfl, hS.below⟩
      have d1 : decide (id ≤ y) = false := decide_eq_false h1
      by_cases h2 : 1073741824 ≤ id
      · have hRf := hfl (by rw [decide_eq_false (show ¬ id < 1073741824 by omega), Bool.and_false]; rfl)
        have d2 : decide (1073741824 ≤ id) = true := decide_eq_true h2
        clear hfl htr h1 h2 hmf
        replace hRf := Lib.hid hRf
        go_wp2_with (first
          | (go_at_call 63; (with_reducible refine (hcC.out _).mono ?_); rintro _ w9 ⟨rfl, hk9⟩; have hS1 := hS.keepB hk9; clear hk9 hS; have hS := hS1; clear hS1)
          | (with_reducible refine wpList_rangerow (n := 28) (range_old hS hrow.out) rfl rfl rfl (by kernel_rfl) (by kernel_rfl) hrl ?_)
          | ((with_reducible refine wpList_alloc_st (L := []) hS rfl rfl ei ?_); intro gX w1 hS1; clear hS; have hS := hS1; clear hS1)
          | ((with_reducible refine wpList_storerow_st (n := 28) (vs := .int .i64 kind :: .int .i64 id :: .int .i64 ver :: .int .u32 lab :: RF) 0 hS rfl rfl rfl rfl (by kernel_rfl) rfl hrl hone (by kernel_rfl) ?_); intro w1 hS1; clear hS; have hS := hS1; clear hS1; try simp only [List.set_cons_zero, List.set_cons_succ, List.setIfInBounds_toArray, List.take_succ_cons, List.take_zero, List.drop_succ_cons, List.drop_zero, List.nil_append, List.cons_append, List.append_nil, List.drop_nil, List.take_nil, List.length_cons, List.length_nil, Nat.zero_add, Nat.add_zero, Nat.reduceAdd] at hS)
          | ((with_reducible refine wpList_loadrow_st (n := 27) 0 hS rfl rfl rfl rfl ?_ (by kernel_rfl) hd1 hcl ?_); focus (simp [rowB, go_sem]; done))
          | ((with_reducible refine wpList_gload_st 0 hS rfl (by with_unfolding_all rfl) rfl rfl ?_ rfl ?_); focus (simp [scalarB, go_sem]; done))
          | (with_reducible refine wpList_box_st hS rfl rfl rfl ?_; intro g1 w1 hS1; clear hS; replace hS := hS1; clear hS1) | (with_reducible refine wpList_box1_st hS rfl rfl rfl ?_; intro g1 w1 hS1; clear hS; replace hS := hS1; clear hS1) | (with_reducible refine wpList_alloc_st hS rfl rfl (by assumption) ?_; intro g1 w1 hS1; clear hS; replace hS := hS1; clear hS1) | (with_reducible refine wpList_alloc1_st hS rfl rfl (by assumption) rfl ?_; intro g1 w1 hS1; clear hS; replace hS := hS1; clear hS1) | ((with_reducible refine wpList_load_st 0 hS rfl rfl rfl rfl ?_ rfl ?_); focus (simp [scalarB, go_sem]; done)) | ((with_reducible refine wpList_loadall_st 0 hS rfl rfl rfl rfl ?_ (by kernel_rfl) ?_); focus (simp [rowB, go_sem]; done)) | ((with_reducible refine wpList_store_st 0 hS rfl rfl rfl rfl (by kernel_rfl) rfl rfl ?_); intro w1 hS1; clear hS; replace hS := hS1; clear hS1; try simp only [List.set_cons_zero, List.set_cons_succ, List.setIfInBounds_toArray, List.take_succ_cons, List.take_zero, List.drop_succ_cons, List.drop_zero, List.nil_append, List.cons_append, List.append_nil, List.drop_nil, List.take_nil, List.length_cons, List.length_nil, Nat.zero_add, Nat.add_zero, Nat.reduceAdd] at hS) | ((with_reducible refine wpList_storerow_st 0 hS rfl rfl rfl rfl (by kernel_rfl) rfl rfl rfl rfl ?_); intro w1 hS1; clear hS; replace hS := hS1; clear hS1; try simp only [List.set_cons_zero, List.set_cons_succ, List.setIfInBounds_toArray, List.take_succ_cons, List.take_zero, List.drop_succ_cons, List.drop_zero, List.nil_append, List.cons_append, List.append_nil, List.drop_nil, List.take_nil, List.length_cons, List.length_nil, Nat.zero_add, Nat.add_zero, Nat.reduceAdd] at hS))
        go_ret
        exact ⟨by rw [hRf.out]; rfl, hS.below⟩
      have d2 : decide (1073741824 ≤ id) = false := decide_eq_false h2
      rw [decide_eq_true (show y < id by omega), decide_eq_true (show id < 1073741824 by omega), Bool.true_and, Bool.true_and] at hfl htr
      clear h1 h2
      by_cases k1 : kind = 1
      · rw [if_pos (Or.inl k1)] at hmf
        have dk1 : (kind == 1) = true := by simpa using k1
        subst hmf
        clear k1
        cases my
        · have hRf := hfl rfl
          clear hfl htr
          replace hRf := Lib.hid hRf
          go_wp2_with (first
            | (go_at_call 63; (with_reducible refine (hcC.out _).mono ?_); rintro _ w9 ⟨rfl, hk9⟩; have hS1 := hS.keepB hk9; clear hk9 hS; have hS := hS1; clear hS1)
            | (with_reducible refine wpList_rangerow (n := 28) (range_old hS hrow.out) rfl rfl rfl (by kernel_rfl) (by kernel_rfl) hrl ?_)
            | ((with_reducible refine wpList_alloc_st (L := []) hS rfl rfl ei ?_); intro gX w1 hS1; clear hS; have hS := hS1; clear hS1)
            | ((with_reducible refine wpList_storerow_st (n := 28) (vs := .int .i64 kind :: .int .i64 id :: .int .i64 ver :: .int .u32 lab :: RF) 0 hS rfl rfl rfl rfl (by kernel_rfl) rfl hrl hone (by kernel_rfl) ?_); intro w1 hS1; clear hS; have hS := hS1; clear hS1; try simp only [List.set_cons_zero, List.set_cons_succ, List.setIfInBounds_toArray, List.take_succ_cons, List.take_zero, List.drop_succ_cons, List.drop_zero, List.nil_append, List.cons_append, List.append_nil, List.drop_nil, List.take_nil, List.length_cons, List.length_nil, Nat.zero_add, Nat.add_zero, Nat.reduceAdd] at hS)
            | ((with_reducible refine wpList_loadrow_st (n := 27) 0 hS rfl rfl rfl rfl ?_ (by kernel_rfl) hd1 hcl ?_); focus (simp [rowB, go_sem]; done))
            | ((with_reducible refine wpList_gload_st 0 hS rfl (by with_unfolding_all rfl) rfl rfl ?_ rfl ?_); focus (simp [scalarB, go_sem]; done))
            | (with_reducible refine wpList_box_st hS rfl rfl rfl ?_; intro g1 w1 hS1; clear hS; replace hS := hS1; clear hS1) | (with_reducible refine wpList_box1_st hS rfl rfl rfl ?_; intro g1 w1 hS1; clear hS; replace hS := hS1; clear hS1) | (with_reducible refine wpList_alloc_st hS rfl rfl (by assumption) ?_; intro g1 w1 hS1; clear hS; replace hS := hS1; clear hS1) | (with_reducible refine wpList_alloc1_st hS rfl rfl (by assumption) rfl ?_; intro g1 w1 hS1; clear hS; replace hS := hS1; clear hS1) | ((with_reducible refine wpList_load_st 0 hS rfl rfl rfl rfl ?_ rfl ?_); focus (simp [scalarB, go_sem]; done)) | ((with_reducible refine wpList_loadall_st 0 hS rfl rfl rfl rfl ?_ (by kernel_rfl) ?_); focus (simp [rowB, go_sem]; done)) | ((with_reducible refine wpList_store_st 0 hS rfl rfl rfl rfl (by kernel_rfl) rfl rfl ?_); intro w1 hS1; clear hS; replace hS := hS1; clear hS1; try simp only [List.set_cons_zero, List.set_cons_succ, List.setIfInBounds_toArray, List.take_succ_cons, List.take_zero, List.drop_succ_cons, List.drop_zero, List.nil_append, List.cons_append, List.append_nil, List.drop_nil, List.take_nil, List.length_cons, List.length_nil, Nat.zero_add, Nat.add_zero, Nat.reduceAdd] at hS) | ((with_reducible refine wpList_storerow_st 0 hS rfl rfl rfl rfl (by kernel_rfl) rfl rfl rfl rfl ?_); intro w1 hS1; clear hS; replace hS := hS1; clear hS1; try simp only [List.set_cons_zero, List.set_cons_succ, List.setIfInBounds_toArray, List.take_succ_cons, List.take_zero, List.drop_succ_cons, List.drop_zero, List.nil_append, List.cons_append, List.append_nil, List.drop_nil, List.take_nil, List.length_cons, List.length_nil, Nat.zero_add, Nat.add_zero, Nat.reduceAdd] at hS))
          go_ret
          exact ⟨by rw [hRf.out]; rfl, hS.below⟩
        · have hRt := htr rfl
          clear hfl htr
          replace hRt := Lib.hid hRt
          go_wp2_with (first
            | (go_at_call 63; (with_reducible refine (hcC.out _).mono ?_); rintro _ w9 ⟨rfl, hk9⟩; have hS1 := hS.keepB hk9; clear hk9 hS; have hS := hS1; clear hS1)
            | (with_reducible refine wpList_rangerow (n := 28) (range_old hS hrow.out) rfl rfl rfl (by kernel_rfl) (by kernel_rfl) hrl ?_)
            | ((with_reducible refine wpList_alloc_st (L := []) hS rfl rfl ei ?_); intro gX w1 hS1; clear hS; have hS := hS1; clear hS1)
            | ((with_reducible refine wpList_storerow_st (n := 28) (vs := .int .i64 kind :: .int .i64 id :: .int .i64 ver :: .int .u32 lab :: RF) 0 hS rfl rfl rfl rfl (by kernel_rfl) rfl hrl hone (by kernel_rfl) ?_); intro w1 hS1; clear hS; have hS := hS1; clear hS1; try simp only [List.set_cons_zero, List.set_cons_succ, List.setIfInBounds_toArray, List.take_succ_cons, List.take_zero, List.drop_succ_cons, List.drop_zero, List.nil_append, List.cons_append, List.append_nil, List.drop_nil, List.take_nil, List.length_cons, List.length_nil, Nat.zero_add, Nat.add_zero, Nat.reduceAdd] at hS)
            | ((with_reducible refine wpList_loadrow_st (n := 27) 0 hS rfl rfl rfl rfl ?_ (by kernel_rfl) hd1 hcl ?_); focus (simp [rowB, go_sem]; done))
            | ((with_reducible refine wpList_gload_st 0 hS rfl (by with_unfolding_all rfl) rfl rfl ?_ rfl ?_); focus (simp [scalarB, go_sem]; done))
            | (with_reducible refine wpList_box_st hS rfl rfl rfl ?_; intro g1 w1 hS1; clear hS; replace hS := hS1; clear hS1) | (with_reducible refine wpList_box1_st hS rfl rfl rfl ?_; intro g1 w1 hS1; clear hS; replace hS := hS1; clear hS1) | (with_reducible refine wpList_alloc_st hS rfl rfl (by assumption) ?_; intro g1 w1 hS1; clear hS; replace hS := hS1; clear hS1) | (with_reducible refine wpList_alloc1_st hS rfl rfl (by assumption) rfl ?_; intro g1 w1 hS1; clear hS; replace hS := hS1; clear hS1) | ((with_reducible refine wpList_load_st 0 hS rfl rfl rfl rfl ?_ rfl ?_); focus (simp [scalarB, go_sem]; done)) | ((with_reducible refine wpList_loadall_st 0 hS rfl rfl rfl rfl ?_ (by kernel_rfl) ?_); focus (simp [rowB, go_sem]; done)) | ((with_reducible refine wpList_store_st 0 hS rfl rfl rfl rfl (by kernel_rfl) rfl rfl ?_); intro w1 hS1; clear hS; replace hS := hS1; clear hS1; try simp only [List.set_cons_zero, List.set_cons_succ, List.setIfInBounds_toArray, List.take_succ_cons, List.take_zero, List.drop_succ_cons, List.drop_zero, List.nil_append, List.cons_append, List.append_nil, List.drop_nil, List.take_nil, List.length_cons, List.length_nil, Nat.zero_add, Nat.add_zero, Nat.reduceAdd] at hS) | ((with_reducible refine wpList_storerow_st 0 hS rfl rfl rfl rfl (by kernel_rfl) rfl rfl rfl rfl ?_); intro w1 hS1; clear hS; replace hS := hS1; clear hS1; try simp only [List.set_cons_zero, List.set_cons_succ, List.setIfInBounds_toArray, List.take_succ_cons, List.take_zero, List.drop_succ_cons, List.drop_zero, List.nil_append, List.cons_append, List.append_nil, List.drop_nil, List.take_nil, List.length_cons, List.length_nil, Nat.zero_add, Nat.add_zero, Nat.reduceAdd] at hS))
          go_roundg (n - (j + 1))
          case measure => omega
          case rel => exact ⟨j + 1, id, by omega, by go_num, rfl, by rw [hD]; exact hRt, hS.empty⟩
      have dk1 : (kind == 1) = false := by simpa using k1
      by_cases k3 : kind = 3
      · rw [if_pos (Or.inr k3)] at hmf
        have dk3 : (kind == 3) = true := by simpa using k3
        subst hmf
        clear k1 k3
        cases my
        · have hRf := hfl rfl
          clear hfl htr
          replace hRf := Lib.hid hRf
          go_wp2_with (first
            | (go_at_call 63; (with_reducible refine (hcC.out _).mono ?_); rintro _ w9 ⟨rfl, hk9⟩; have hS1 := hS.keepB hk9; clear hk9 hS; have hS := hS1; clear hS1)
            | (with_reducible refine wpList_rangerow (n := 28) (range_old hS hrow.out) rfl rfl rfl (by kernel_rfl) (by kernel_rfl) hrl ?_)
            | ((with_reducible refine wpList_alloc_st (L := []) hS rfl rfl ei ?_); intro gX w1 hS1; clear hS; have hS := hS1; clear hS1)
            | ((with_reducible refine wpList_storerow_st (n := 28) (vs := .int .i64 kind :: .int .i64 id :: .int .i64 ver :: .int .u32 lab :: RF) 0 hS rfl rfl rfl rfl (by kernel_rfl) rfl hrl hone (by kernel_rfl) ?_); intro w1 hS1; clear hS; have hS := hS1; clear hS1; try simp only [List.set_cons_zero, List.set_cons_succ, List.setIfInBounds_toArray, List.take_succ_cons, List.take_zero, List.drop_succ_cons, List.drop_zero, List.nil_append, List.cons_append, List.append_nil, List.drop_nil, List.take_nil, List.length_cons, List.length_nil, Nat.zero_add, Nat.add_zero, Nat.reduceAdd] at hS)
            | ((with_reducible refine wpList_loadrow_st (n := 27) 0 hS rfl rfl rfl rfl ?_ (by kernel_rfl) hd1 hcl ?_); focus (simp [rowB, go_sem]; done))
            | ((with_reducible refine wpList_gload_st 0 hS rfl (by with_unfolding_all rfl) rfl rfl ?_ rfl ?_); focus (simp [scalarB, go_sem]; done))
            | (with_reducible refine wpList_box_st hS rfl rfl rfl ?_; intro g1 w1 hS1; clear hS; replace hS := hS1; clear hS1) | (with_reducible refine wpList_box1_st hS rfl rfl rfl ?_; intro g1 w1 hS1; clear hS; replace hS := hS1; clear hS1) | (with_reducible refine wpList_alloc_st hS rfl rfl (by assumption) ?_; intro g1 w1 hS1; clear hS; replace hS := hS1; clear hS1) | (with_reducible refine wpList_alloc1_st hS rfl rfl (by assumption) rfl ?_; intro g1 w1 hS1; clear hS; replace hS := hS1; clear hS1) | ((with_reducible refine wpList_load_st 0 hS rfl rfl rfl rfl ?_ rfl ?_); focus (simp [scalarB, go_sem]; done)) | ((with_reducible refine wpList_loadall_st 0 hS rfl rfl rfl rfl ?_ (by kernel_rfl) ?_); focus (simp [rowB, go_sem]; done)) | ((with_reducible refine wpList_store_st 0 hS rfl rfl rfl rfl (by kernel_rfl) rfl rfl ?_); intro w1 hS1; clear hS; replace hS := hS1; clear hS1; try simp only [List.set_cons_zero, List.set_cons_succ, List.setIfInBounds_toArray, List.take_succ_cons, List.take_zero, List.drop_succ_cons, List.drop_zero, List.nil_append, List.cons_append, List.append_nil, List.drop_nil, List.take_nil, List.length_cons, List.length_nil, Nat.zero_add, Nat.add_zero, Nat.reduceAdd] at hS) | ((with_reducible refine wpList_storerow_st 0 hS rfl rfl rfl rfl (by kernel_rfl) rfl rfl rfl rfl ?_); intro w1 hS1; clear hS; replace hS := hS1; clear hS1; try simp only [List.set_cons_zero, List.set_cons_succ, List.setIfInBounds_toArray, List.take_succ_cons, List.take_zero, List.drop_succ_cons, List.drop_zero, List.nil_append, List.cons_append, List.append_nil, List.drop_nil, List.take_nil, List.length_cons, List.length_nil, Nat.zero_add, Nat.add_zero, Nat.reduceAdd] at hS))
          go_ret
          exact ⟨by rw [hRf.out]; rfl, hS.below⟩
        · have hRt := htr rfl
          clear hfl htr
          replace hRt := Lib.hid hRt
          go_wp2_with (first
            | (go_at_call 63; (with_reducible refine (hcC.out _).mono ?_); rintro _ w9 ⟨rfl, hk9⟩; have hS1 := hS.keepB hk9; clear hk9 hS; have hS := hS1; clear hS1)
            | (with_reducible refine wpList_rangerow (n := 28) (range_old hS hrow.out) rfl rfl rfl (by kernel_rfl) (by kernel_rfl) hrl ?_)
            | ((with_reducible refine wpList_alloc_st (L := []) hS rfl rfl ei ?_); intro gX w1 hS1; clear hS; have hS := hS1; clear hS1)
            | ((with_reducible refine wpList_storerow_st (n := 28) (vs := .int .i64 kind :: .int .i64 id :: .int .i64 ver :: .int .u32 lab :: RF) 0 hS rfl rfl rfl rfl (by kernel_rfl) rfl hrl hone (by kernel_rfl) ?_); intro w1 hS1; clear hS; have hS := hS1; clear hS1; try simp only [List.set_cons_zero, List.set_cons_succ, List.setIfInBounds_toArray, List.take_succ_cons, List.take_zero, List.drop_succ_cons, List.drop_zero, List.nil_append, List.cons_append, List.append_nil, List.drop_nil, List.take_nil, List.length_cons, List.length_nil, Nat.zero_add, Nat.add_zero, Nat.reduceAdd] at hS)
            | ((with_reducible refine wpList_loadrow_st (n := 27) 0 hS rfl rfl rfl rfl ?_ (by kernel_rfl) hd1 hcl ?_); focus (simp [rowB, go_sem]; done))
            | ((with_reducible refine wpList_gload_st 0 hS rfl (by with_unfolding_all rfl) rfl rfl ?_ rfl ?_); focus (simp [scalarB, go_sem]; done))
            | (with_reducible refine wpList_box_st hS rfl rfl rfl ?_; intro g1 w1 hS1; clear hS; replace hS := hS1; clear hS1) | (with_reducible refine wpList_box1_st hS rfl rfl rfl ?_; intro g1 w1 hS1; clear hS; replace hS := hS1; clear hS1) | (with_reducible refine wpList_alloc_st hS rfl rfl (by assumption) ?_; intro g1 w1 hS1; clear hS; replace hS := hS1; clear hS1) | (with_reducible refine wpList_alloc1_st hS rfl rfl (by assumption) rfl ?_; intro g1 w1 hS1; clear hS; replace hS := hS1; clear hS1) | ((with_reducible refine wpList_load_st 0 hS rfl rfl rfl rfl ?_ rfl ?_); focus (simp [scalarB, go_sem]; done)) | ((with_reducible refine wpList_loadall_st 0 hS rfl rfl rfl rfl ?_ (by kernel_rfl) ?_); focus (simp [rowB, go_sem]; done)) | ((with_reducible refine wpList_store_st 0 hS rfl rfl rfl rfl (by kernel_rfl) rfl rfl ?_); intro w1 hS1; clear hS; replace hS := hS1; clear hS1; try simp only [List.set_cons_zero, List.set_cons_succ, List.setIfInBounds_toArray, List.take_succ_cons, List.take_zero, List.drop_succ_cons, List.drop_zero, List.nil_append, List.cons_append, List.append_nil, List.drop_nil, List.take_nil, List.length_cons, List.length_nil, Nat.zero_add, Nat.add_zero, Nat.reduceAdd] at hS) | ((with_reducible refine wpList_storerow_st 0 hS rfl rfl rfl rfl (by kernel_rfl) rfl rfl rfl rfl ?_); intro w1 hS1; clear hS; replace hS := hS1; clear hS1; try simp only [List.set_cons_zero, List.set_cons_succ, List.setIfInBounds_toArray, List.take_succ_cons, List.take_zero, List.drop_succ_cons, List.drop_zero, List.nil_append, List.cons_append, List.append_nil, List.drop_nil, List.take_nil, List.length_cons, List.length_nil, Nat.zero_add, Nat.add_zero, Nat.reduceAdd] at hS))
          go_roundg (n - (j + 1))
          case measure => omega
          case rel => exact ⟨j + 1, id, by omega, by go_num, rfl, by rw [hD]; exact hRt, hS.empty⟩
      have dk3 : (kind == 3) = false := by simpa using k3
      rw [if_neg (by omega)] at hmf
      by_cases k2 : kind = 2
      · rw [if_pos k2] at hmf
        have dk2 : (kind == 2) = true := by simpa using k2
        subst hmf
        clear k1 k3 k2
        cases my
        · have hRf := hfl rfl
          simp only [Bool.not_false] at hE
          clear hfl htr
          replace hRf := Lib.hid hRf
          go_wp2_with (first
            | (go_at_call 63; (with_reducible refine (hcC.out _).mono ?_); rintro _ w9 ⟨rfl, hk9⟩; have hS1 := hS.keepB hk9; clear hk9 hS; have hS := hS1; clear hS1)
            | (with_reducible refine wpList_rangerow (n := 28) (range_old hS hrow.out) rfl rfl rfl (by kernel_rfl) (by kernel_rfl) hrl ?_)
            | ((with_reducible refine wpList_alloc_st (L := []) hS rfl rfl ei ?_); intro gX w1 hS1; clear hS; have hS := hS1; clear hS1)
            | ((with_reducible refine wpList_storerow_st (n := 28) (vs := .int .i64 kind :: .int .i64 id :: .int .i64 ver :: .int .u32 lab :: RF) 0 hS rfl rfl rfl rfl (by kernel_rfl) rfl hrl hone (by kernel_rfl) ?_); intro w1 hS1; clear hS; have hS := hS1; clear hS1; try simp only [List.set_cons_zero, List.set_cons_succ, List.setIfInBounds_toArray, List.take_succ_cons, List.take_zero, List.drop_succ_cons, List.drop_zero, List.nil_append, List.cons_append, List.append_nil, List.drop_nil, List.take_nil, List.length_cons, List.length_nil, Nat.zero_add, Nat.add_zero, Nat.reduceAdd] at hS)
            | ((with_reducible refine wpList_loadrow_st (n := 27) 0 hS rfl rfl rfl rfl ?_ (by kernel_rfl) hd1 hcl ?_); focus (simp [rowB, go_sem]; done))
            | ((with_reducible refine wpList_gload_st 0 hS rfl (by with_unfolding_all rfl) rfl rfl ?_ rfl ?_); focus (simp [scalarB, go_sem]; done))
            | (with_reducible refine wpList_box_st hS rfl rfl rfl ?_; intro g1 w1 hS1; clear hS; replace hS := hS1; clear hS1) | (with_reducible refine wpList_box1_st hS rfl rfl rfl ?_; intro g1 w1 hS1; clear hS; replace hS := hS1; clear hS1) | (with_reducible refine wpList_alloc_st hS rfl rfl (by assumption) ?_; intro g1 w1 hS1; clear hS; replace hS := hS1; clear hS1) | (with_reducible refine wpList_alloc1_st hS rfl rfl (by assumption) rfl ?_; intro g1 w1 hS1; clear hS; replace hS := hS1; clear hS1) | ((with_reducible refine wpList_load_st 0 hS rfl rfl rfl rfl ?_ rfl ?_); focus (simp [scalarB, go_sem]; done)) | ((with_reducible refine wpList_loadall_st 0 hS rfl rfl rfl rfl ?_ (by kernel_rfl) ?_); focus (simp [rowB, go_sem]; done)) | ((with_reducible refine wpList_store_st 0 hS rfl rfl rfl rfl (by kernel_rfl) rfl rfl ?_); intro w1 hS1; clear hS; replace hS := hS1; clear hS1; try simp only [List.set_cons_zero, List.set_cons_succ, List.setIfInBounds_toArray, List.take_succ_cons, List.take_zero, List.drop_succ_cons, List.drop_zero, List.nil_append, List.cons_append, List.append_nil, List.drop_nil, List.take_nil, List.length_cons, List.length_nil, Nat.zero_add, Nat.add_zero, Nat.reduceAdd] at hS) | ((with_reducible refine wpList_storerow_st 0 hS rfl rfl rfl rfl (by kernel_rfl) rfl rfl rfl rfl ?_); intro w1 hS1; clear hS; replace hS := hS1; clear hS1; try simp only [List.set_cons_zero, List.set_cons_succ, List.setIfInBounds_toArray, List.take_succ_cons, List.take_zero, List.drop_succ_cons, List.drop_zero, List.nil_append, List.cons_append, List.append_nil, List.drop_nil, List.take_nil, List.length_cons, List.length_nil, Nat.zero_add, Nat.add_zero, Nat.reduceAdd] at hS))
          go_ret
          exact ⟨by rw [hRf.out]; rfl, hS.below⟩
        · have hRt := htr rfl
          simp only [Bool.not_true] at hE
          clear hfl htr
          replace hRt := Lib.hid hRt
          go_wp2_with (first
            | (go_at_call 63; (with_reducible refine (hcC.out _).mono ?_); rintro _ w9 ⟨rfl, hk9⟩; have hS1 := hS.keepB hk9; clear hk9 hS; have hS := hS1; clear hS1)
            | (with_reducible refine wpList_rangerow (n := 28) (range_old hS hrow.out) rfl rfl rfl (by kernel_rfl) (by kernel_rfl) hrl ?_)
            | ((with_reducible refine wpList_alloc_st (L := []) hS rfl rfl ei ?_); intro gX w1 hS1; clear hS; have hS := hS1; clear hS1)
            | ((with_reducible refine wpList_storerow_st (n := 28) (vs := .int .i64 kind :: .int .i64 id :: .int .i64 ver :: .int .u32 lab :: RF) 0 hS rfl rfl rfl rfl (by kernel_rfl) rfl hrl hone (by kernel_rfl) ?_); intro w1 hS1; clear hS; have hS := hS1; clear hS1; try simp only [List.set_cons_zero, List.set_cons_succ, List.setIfInBounds_toArray, List.take_succ_cons, List.take_zero, List.drop_succ_cons, List.drop_zero, List.nil_append, List.cons_append, List.append_nil, List.drop_nil, List.take_nil, List.length_cons, List.length_nil, Nat.zero_add, Nat.add_zero, Nat.reduceAdd] at hS)
            | ((with_reducible refine wpList_loadrow_st (n := 27) 0 hS rfl rfl rfl rfl ?_ (by kernel_rfl) hd1 hcl ?_); focus (simp [rowB, go_sem]; done))
            | ((with_reducible refine wpList_gload_st 0 hS rfl (by with_unfolding_all rfl) rfl rfl ?_ rfl ?_); focus (simp [scalarB, go_sem]; done))
            | (with_reducible refine wpList_box_st hS rfl rfl rfl ?_; intro g1 w1 hS1; clear hS; replace hS := hS1; clear hS1) | (with_reducible refine wpList_box1_st hS rfl rfl rfl ?_; intro g1 w1 hS1; clear hS; replace hS := hS1; clear hS1) | (with_reducible refine wpList_alloc_st hS rfl rfl (by assumption) ?_; intro g1 w1 hS1; clear hS; replace hS := hS1; clear hS1) | (with_reducible refine wpList_alloc1_st hS rfl rfl (by assumption) rfl ?_; intro g1 w1 hS1; clear hS; replace hS := hS1; clear hS1) | ((with_reducible refine wpList_load_st 0 hS rfl rfl rfl rfl ?_ rfl ?_); focus (simp [scalarB, go_sem]; done)) | ((with_reducible refine wpList_loadall_st 0 hS rfl rfl rfl rfl ?_ (by kernel_rfl) ?_); focus (simp [rowB, go_sem]; done)) | ((with_reducible refine wpList_store_st 0 hS rfl rfl rfl rfl (by kernel_rfl) rfl rfl ?_); intro w1 hS1; clear hS; replace hS := hS1; clear hS1; try simp only [List.set_cons_zero, List.set_cons_succ, List.setIfInBounds_toArray, List.take_succ_cons, List.take_zero, List.drop_succ_cons, List.drop_zero, List.nil_append, List.cons_append, List.append_nil, List.drop_nil, List.take_nil, List.length_cons, List.length_nil, Nat.zero_add, Nat.add_zero, Nat.reduceAdd] at hS) | ((with_reducible refine wpList_storerow_st 0 hS rfl rfl rfl rfl (by kernel_rfl) rfl rfl rfl rfl ?_); intro w1 hS1; clear hS; replace hS := hS1; clear hS1; try simp only [List.set_cons_zero, List.set_cons_succ, List.setIfInBounds_toArray, List.take_succ_cons, List.take_zero, List.drop_succ_cons, List.drop_zero, List.nil_append, List.cons_append, List.append_nil, List.drop_nil, List.take_nil, List.length_cons, List.length_nil, Nat.zero_add, Nat.add_zero, Nat.reduceAdd] at hS))
          go_roundg (n - (j + 1))
          case measure => omega
          case rel => exact ⟨j + 1, id, by omega, by go_num, rfl, by rw [hD]; exact hRt, hS.empty⟩
      have dk2 : (kind == 2) = false := by simpa using k2
      rw [if_neg k2] at hmf
      have hRf := hfl hmf
      clear hfl htr k1 k2 k3 hmf
      replace hRf := Lib.hid hRf
      go_wp2_with (first
        | (go_at_call 63; (with_reducible refine (hcC.out _).mono ?_); rintro _ w9 ⟨rfl, hk9⟩; have hS1 := hS.keepB hk9; clear hk9 hS; have hS := hS1; clear hS1)
        | (with_reducible refine wpList_rangerow (n := 28) (range_old hS hrow.out) rfl rfl rfl (by kernel_rfl) (by kernel_rfl) hrl ?_)
        | ((with_reducible refine wpList_alloc_st (L := []) hS rfl rfl ei ?_); intro gX w1 hS1; clear hS; have hS := hS1; clear hS1)
        | ((with_reducible refine wpList_storerow_st (n := 28) (vs := .int .i64 kind :: .int .i64 id :: .int .i64 ver :: .int .u32 lab :: RF) 0 hS rfl rfl rfl rfl (by kernel_rfl) rfl hrl hone (by kernel_rfl) ?_); intro w1 hS1; clear hS; have hS := hS1; clear hS1; try simp only [List.set_cons_zero, List.set_cons_succ, List.setIfInBounds_toArray, List.take_succ_cons, List.take_zero, List.drop_succ_cons, List.drop_zero, List.nil_append, List.cons_append, List.append_nil, List.drop_nil, List.take_nil, List.length_cons, List.length_nil, Nat.zero_add, Nat.add_zero, Nat.reduceAdd] at hS)
        | ((with_reducible refine wpList_loadrow_st (n := 27) 0 hS rfl rfl rfl rfl ?_ (by kernel_rfl) hd1 hcl ?_); focus (simp [rowB, go_sem]; done))
        | ((with_reducible refine wpList_gload_st 0 hS rfl (by with_unfolding_all rfl) rfl rfl ?_ rfl ?_); focus (simp [scalarB, go_sem]; done))
        | (with_reducible refine wpList_box_st hS rfl rfl rfl ?_; intro g1 w1 hS1; clear hS; replace hS := hS1; clear hS1) | (with_reducible refine wpList_box1_st hS rfl rfl rfl ?_; intro g1 w1 hS1; clear hS; replace hS := hS1; clear hS1) | (with_reducible refine wpList_alloc_st hS rfl rfl (by assumption) ?_; intro g1 w1 hS1; clear hS; replace hS := hS1; clear hS1) | (with_reducible refine wpList_alloc1_st hS rfl rfl (by assumption) rfl ?_; intro g1 w1 hS1; clear hS; replace hS := hS1; clear hS1) | ((with_reducible refine wpList_load_st 0 hS rfl rfl rfl rfl ?_ rfl ?_); focus (simp [scalarB, go_sem]; done)) | ((with_reducible refine wpList_loadall_st 0 hS rfl rfl rfl rfl ?_ (by kernel_rfl) ?_); focus (simp [rowB, go_sem]; done)) | ((with_reducible refine wpList_store_st 0 hS rfl rfl rfl rfl (by kernel_rfl) rfl rfl ?_); intro w1 hS1; clear hS; replace hS := hS1; clear hS1; try simp only [List.set_cons_zero, List.set_cons_succ, List.setIfInBounds_toArray, List.take_succ_cons, List.take_zero, List.drop_succ_cons, List.drop_zero, List.nil_append, List.cons_append, List.append_nil, List.drop_nil, List.take_nil, List.length_cons, List.length_nil, Nat.zero_add, Nat.add_zero, Nat.reduceAdd] at hS) | ((with_reducible refine wpList_storerow_st 0 hS rfl rfl rfl rfl (by kernel_rfl) rfl rfl rfl rfl ?_); intro w1 hS1; clear hS; replace hS := hS1; clear hS1; try simp only [List.set_cons_zero, List.set_cons_succ, List.setIfInBounds_toArray, List.take_succ_cons, List.take_zero, List.drop_succ_cons, List.drop_zero, List.nil_append, List.cons_append, List.append_nil, List.drop_nil, List.take_nil, List.length_cons, List.length_nil, Nat.zero_add, Nat.add_zero, Nat.reduceAdd] at hS))
      go_ret
      exact ⟨by rw [hRf.out]; rfl, hS.below⟩
    · have : itsMay Cd.ok y (l.drop j) = true := by rw [List.drop_of_length_le (by rw [hlen.out]; omega)]; rfl
      rw [this] at hg
      go_wp2_with fail
      go_ret
      exact ⟨by rw [hg.out]; rfl, hS.below⟩
end Go.Proofs.Ytajldelodnjmoaa
end
