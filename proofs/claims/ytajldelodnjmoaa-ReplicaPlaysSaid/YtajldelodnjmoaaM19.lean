/- Texts laid together: TransAp. -/
import Derived.Test.YtajldelodnjmoaaM13
section
/- Cards behind items: the program's. -/
set_option linter.unusedSimpArgs false
set_option linter.unusedVariables false
namespace Go.Ofp
open Go.RowKit
theorem applyC_append : ∀ (m : List Cd) (a b : List It), applyC m (a ++ b) = (applyC m a).bind fun m' => applyC m' b
  | m, [], b => rfl
  | m, x :: a, b => by
    simp only [List.cons_append, applyC]
    cases oneC m x with
    | none => rfl
    | some m' => exact applyC_append m' a b
theorem applyC_take_none {m : List Cd} {l : List It} (j : Nat) (h : applyC m (l.take j) = none) : applyC m l = none := by
  have := applyC_append m (l.take j) (l.drop j)
  rw [List.take_append_drop, h] at this
  exact this
theorem applyC_step {m : List Cd} {l : List It} {j : Nat} (hj : j < l.length) : applyC m (l.take (j + 1)) = (applyC m (l.take j)).bind fun m' => oneC m' l[j] := by
  rw [List.take_succ_eq_append_getElem hj, applyC_snoc]
theorem oneC_length {m m' : List Cd} {x : It} (h : oneC m x = some m') : m'.length ≤ m.length + 1 := by
  unfold oneC at h
  split at h
  · split at h
    · cases h
    · cases h
      simp only [List.length_append, List.length_take, List.length_cons, List.length_drop]
      omega
  · split at h
    · split at h
      · cases h
        simp only [List.length_append, List.length_take, List.length_cons, List.length_drop]
        omega
      · cases h
        simp only [List.length_append, List.length_take, List.length_drop]
        omega
    · cases h
theorem oneC_all {p : Cd → Prop} {m m' : List Cd} {x : It} (h : oneC m x = some m') (hm : ∀ c ∈ m, p c) (hx : p x.c) : ∀ c ∈ m', p c := by
  intro c hc
  unfold oneC at h
  have key : c ∈ m.take (aheadC m x.c.id) ∨ c = x.c ∨ (∃ k, c ∈ m.drop k) := by
    split at h
    · split at h
      · cases h
      · cases h
        rcases List.mem_append.1 hc with h | h
        · exact .inl h
        · rcases List.mem_cons.1 h with h | h
          · exact .inr (.inl h)
          · exact .inr (.inr ⟨_, h⟩)
    · split at h
      · split at h
        · cases h
          rcases List.mem_append.1 hc with h | h
          · exact .inl h
          · rcases List.mem_cons.1 h with h | h
            · exact .inr (.inl h)
            · exact .inr (.inr ⟨_, h⟩)
        · cases h
          rcases List.mem_append.1 hc with h | h
          · exact .inl h
          · exact .inr (.inr ⟨_, h⟩)
      · cases h
  rcases key with h | h | ⟨k, h⟩
  · exact hm c (List.mem_of_mem_take h)
  · rw [h]; exact hx
  · exact hm c (List.mem_of_mem_drop h)
/-- What is known of cards in memory. -/
structure CdOk (c : Cd) : Prop where
  f : c.f.length = 8
  id : -9223372036854775808 ≤ c.id ∧ c.id ≤ 9223372036854775807
structure ItOk (x : It) : Prop where
  c : CdOk x.c
  kind : x.kind = 1 ∨ x.kind = 2 ∨ x.kind = 3
/-- What Apply answers. -/
def ApR (P : Program) (T : TypeId) (row : Cd → List Value) (o : Option (List Cd)) (e : Ending) (w w' : World) : Prop := match o with
  | some m => ∃ a c, e = .returned (.tuple #[.slice a m.length c, .bool true]) ∧ St w [] [Ch.row T 27 (.slice a m.length c) m.length (m.map row).flatten] w'
  | none => e = .returned (.tuple #[.slice none 0 0, .bool false]) ∧ Below w.heap.size w w'
end Go.Ofp
namespace Go.Proofs.Ytajldelodnjmoaa
open Go.RowKit Go.Ofp
set_option linter.unusedVariables false
set_option maxRecDepth 100000
set_option maxHeartbeats 4000000

theorem cdRow_oneT (c : Cd) : (cdRow c).all Value.oneCell' = true := by
  simp only [cdRow, List.all_cons, fl_one]
  rfl
theorem zero_card (W : World) : (zeroValue 41).run Try.prog W = .ok (.agg (cdRow (Cd.none 0)).toArray) W := by kernel_rfl
theorem ckeys_st (mb : Option Nat) (W : World) : Calls Try.prog 62 #[.map mb] W fun e w' => ∃ B, e = .returned (.func (.func 74) #[] #[.pointer (some ⟨B, 0, none⟩)]) ∧ St W [] [Ch.blk B 95 #[.map mb]] w' :=
  (ckeys_any mb W).mono fun e w' ⟨h1, h2⟩ => ⟨_, h1, h2 ▸ (St.start W).alloc _ _⟩
theorem csorted_st {w0 w : World} {F : List Nat} {L : List Ch} (i k : Nat) {B b n : Nat} {f : Int → Option Value} (hS : St w0 F L w) (hi : L[i]? = some (Ch.blk B 95 #[.map (some b)])) (hk : L[k]? = some (Ch.map Try.prog 3 b n f)) (hn : n ≤ 100000) :
    Calls Try.prog 57 #[.func (.func 74) #[] #[.pointer (some ⟨B, 0, none⟩)]] w fun e w' => ∃ v ks, e = .returned v ∧ Hid (IsKeys f ks) ∧ Hid (ks.length ≤ n) ∧ St w [] [Ch.row 3 1 v ks.length (ks.map vi)] w' :=
  (csorted_any B b n f w (by rw [hS.cell i hi]; rfl) (hS.get k hk) hn).mono fun e w' ⟨v, ks, h1, h2, h3, h4, h5⟩ => ⟨v, ks, h1, Lib.hid h2, Lib.hid h3, (St.start w).freshB h4 h5⟩
theorem cd_lens {In : Cd → Prop} {w : World} {a : Option Addr} {n c : Nat} {l : List Cd} (h : Lst cdRow In w a n c l) (hI : ∀ x, In x → x.f.length = 8) : ∀ x ∈ l, (cdRow x).length = 27 := fun x hx => cdRow_lenT x (hI x (h.mem x hx))

theorem tapply_any (a b : Option Addr) (n c m d : Nat) (cs : List Cd) (l : List It) (w : World) (hc : Lst cdRow CdOk w a n c cs) (hl : Lst itRow ItOk w b m d l) (hr : RisC cs) (hn : n ≤ 50000) (hm : m ≤ 1000) :
    Calls Try.prog 31 #[.slice a n c, .slice b m d] w fun e w' => ApR Try.prog 41 cdRow (applyC cs l) e w w' := by
  have hS := St.start w
  have ec := elem_card
  have ei := elem_item
  have cK := Lib.hid fun (mb : Option Nat) (W : World) => ckeys_st mb W
  have hclen := Lib.hid hc.len
  have hllen := Lib.hid hl.len
  have hclens := Lib.hid (cd_lens hc fun x h => h.f)
  have hllens := Lib.hid (show ∀ x ∈ l, (itRow x).length = 28 from fun x hx => itRow_len x (hl.mem x hx).c.f)
  have hcbase := Lib.hid (hc.base (by decide) hclens.out)
  have hlbase := Lib.hid (hl.base (by decide) hllens.out)
  have hcm := Lib.hid hc.mem
  have hlm := Lib.hid hl.mem
  replace hc := Lib.hid hc
  replace hl := Lib.hid hl
  replace hr := Lib.hid hr
  obtain ⟨O, hO⟩ : ∃ O, applyC cs l = O := ⟨_, rfl⟩
  rw [hO]
  replace hO := Lib.hid hO
  go_enter Try.func31, Try.ntmps31
  go_wp2_with (first
    | ((with_reducible refine wpList_makemap_st (k := 3) hS rfl rfl Try.underlying95 ?_); intro gm w1 hS1; clear hS; have hS := hS1; clear hS1))
  rw [← cdM_nil (row := cdRow)] at hS
  go_loopg [19] n (fun gk vx wr => ∃ j : Nat, j + gk = n ∧ vx = .int .i64 j ∧ St w [] [Ch.map Try.prog 3 gm j (cdM cdRow (cs.take j))] wr)
  case atStart => exact ⟨0, Nat.zero_add _, rfl, hS⟩
  case round =>
    clear hS
    obtain ⟨j, hj, rfl, hS⟩ := hrel
    by_cases hlt : j < n
    · have hjl : j < cs.length := by rw [hclen.out]; exact hlt
      obtain ⟨bc, oc, rfl⟩ := hcbase.out (by omega)
      have hrow := hc.out.rowb hclens.out j hjl
      have hrl := hclens.out _ (List.getElem_mem hjl)
      have hone := cdRow_oneT cs[j]
      have hsz : sizeB Try.prog 41 (cdRow cs[j]).toArray.size = true := by rw [List.size_toArray, hrl]; kernel_rfl
      have hwf := wf_of_i64 (hcm.out _ (List.getElem_mem hjl)).id
      have hn2 : j < maxLen := by unfold maxLen; omega
      have hps : putM (cdM cdRow (cs.take j)) cs[j].id (.agg (cdRow cs[j]).toArray) = cdM cdRow (cs.take (j + 1)) := by
        rw [List.take_succ_eq_append_getElem hjl]
        refine (cdM_snoc fun e he => ?_).symm
        obtain ⟨i, hi, rfl⟩ := List.getElem_of_mem he
        rw [List.length_take] at hi
        rw [List.getElem_take]
        have := List.pairwise_iff_getElem.1 hr.out i j (by omega) hjl (by omega)
        omega
      generalize cdM cdRow (cs.take j) = M at *
      have hcells : cdRow cs[j] = .int .i64 cs[j].id :: .int .i64 cs[j].ver :: .int .u32 cs[j].lab :: flRow cs[j].f := rfl
      rw [hcells] at hrow hrl hone hsz hps
      clear hcells
      replace hps := Lib.hid hps
      replace hrow := Lib.hid hrow
      generalize cs[j] = t at *
      obtain ⟨id, ver, lab, f⟩ := t
      dsimp only at *
      generalize flRow f = R at *
      go_wp2_with (first
        | (with_reducible refine wpList_rangerow (n := 27) (range_old hS hrow.out) rfl rfl rfl (by kernel_rfl) (by kernel_rfl) hrl ?_)
        | ((with_reducible refine wpList_alloc_st (L := [_]) hS rfl rfl ec ?_); intro gT w1 hS1; clear hS; have hS := hS1; clear hS1)
        | ((with_reducible refine wpList_storerow_st (n := 27) (vs := .int .i64 id :: .int .i64 ver :: .int .u32 lab :: R) 0 hS rfl rfl rfl rfl (by kernel_rfl) rfl hrl hone (by kernel_rfl) ?_); intro w1 hS1; clear hS; have hS := hS1; clear hS1; try simp only [List.set_cons_zero, List.set_cons_succ, List.setIfInBounds_toArray, List.take_succ_cons, List.take_zero, List.drop_succ_cons, List.drop_zero, List.nil_append, List.cons_append, List.append_nil, List.drop_nil, List.take_nil, List.length_cons, List.length_nil, Nat.zero_add, Nat.add_zero, Nat.reduceAdd] at hS)
        | ((with_reducible refine wpList_loadall_st 0 hS rfl rfl rfl rfl ?_ hsz ?_); focus (simp [rowB, go_sem]; done))
        | ((with_reducible refine wpList_mapput_st (u := .agg (Value.int .i64 id :: .int .i64 ver :: .int .u32 lab :: R).toArray) (k := 3) 1 hS rfl rfl rfl rfl rfl rfl Try.underlying3 Try.underlying95 hn2 hwf ?_); intro w6 hS1; clear hS; have hS := hS1; clear hS1; simp only [List.set_cons_zero, List.set_cons_succ] at hS)
        | (with_reducible refine wpList_box_st hS rfl rfl rfl ?_; intro g1 w1 hS1; clear hS; replace hS := hS1; clear hS1) | (with_reducible refine wpList_box1_st hS rfl rfl rfl ?_; intro g1 w1 hS1; clear hS; replace hS := hS1; clear hS1) | (with_reducible refine wpList_alloc_st hS rfl rfl (by assumption) ?_; intro g1 w1 hS1; clear hS; replace hS := hS1; clear hS1) | (with_reducible refine wpList_alloc1_st hS rfl rfl (by assumption) rfl ?_; intro g1 w1 hS1; clear hS; replace hS := hS1; clear hS1) | ((with_reducible refine wpList_load_st 0 hS rfl rfl rfl rfl ?_ rfl ?_); focus (simp [scalarB, go_sem]; done)) | ((with_reducible refine wpList_loadall_st 0 hS rfl rfl rfl rfl ?_ (by kernel_rfl) ?_); focus (simp [rowB, go_sem]; done)) | ((with_reducible refine wpList_store_st 0 hS rfl rfl rfl rfl (by kernel_rfl) rfl rfl ?_); intro w1 hS1; clear hS; replace hS := hS1; clear hS1; try simp only [List.set_cons_zero, List.set_cons_succ, List.setIfInBounds_toArray, List.take_succ_cons, List.take_zero, List.drop_succ_cons, List.drop_zero, List.nil_append, List.cons_append, List.append_nil, List.drop_nil, List.take_nil, List.length_cons, List.length_nil, Nat.zero_add, Nat.add_zero, Nat.reduceAdd] at hS) | ((with_reducible refine wpList_storerow_st 0 hS rfl rfl rfl rfl (by kernel_rfl) rfl rfl rfl rfl ?_); intro w1 hS1; clear hS; replace hS := hS1; clear hS1; try simp only [List.set_cons_zero, List.set_cons_succ, List.setIfInBounds_toArray, List.take_succ_cons, List.take_zero, List.drop_succ_cons, List.drop_zero, List.nil_append, List.cons_append, List.append_nil, List.drop_nil, List.take_nil, List.length_cons, List.length_nil, Nat.zero_add, Nat.add_zero, Nat.reduceAdd] at hS))
      go_roundg (n - (j + 1))
      case measure => omega
      case rel => exact ⟨j + 1, by omega, by go_num, by rw [← hps.out]; exact hS.drop⟩
    · have htl : cs.take j = cs := List.take_of_length_le (by rw [hclen.out]; omega)
      rw [htl] at hS
      have hS1 := hS.mapmono 0 rfl (show j ≤ n by omega)
      clear htl hS
      have hS := hS1
      clear hS1
      simp only [List.set_cons_zero] at hS
      have hok0 := Lib.hid (And.intro hr.out hcm.out)
      clear hc hclen hclens hcbase
      go_wp2_with fail
      clear hlt
      go_loopg [30] m (fun gk vx wr => ∃ (q : Nat) (M : List Cd), q + gk = m ∧ vx = .int .i64 q ∧ Hid (applyC cs (l.take q) = some M) ∧ Hid (RisC M ∧ ∀ c ∈ M, CdOk c) ∧ St w [] [Ch.map Try.prog 3 gm (n + q) (cdM cdRow M)] wr)
      case atStart => exact ⟨0, cs, Nat.zero_add _, rfl, Lib.hid rfl, hok0, hS⟩
      case round =>
        clear hS hok0
        obtain ⟨q, M, hq, rfl, hM, hok, hS⟩ := hrel
        by_cases hlt : q < m
        · have hql : q < l.length := by rw [hllen.out]; exact hlt
          obtain ⟨bl, ol, rfl⟩ := hlbase.out (by omega)
          have hrow := hl.out.rowb hllens.out q hql
          have hrl := hllens.out _ (List.getElem_mem hql)
          have hone := itRow_one l[q]
          have hxo := hlm.out _ (List.getElem_mem hql)
          have hwf := wf_of_i64 hxo.c.id
          have hstep := applyC_step (m := cs) hql
          rw [hM.out] at hstep
          change applyC cs (l.take (q + 1)) = oneC M l[q] at hstep
          have hput := fun M' (h : oneC M l[q] = some M') => cdM_put (row := cdRow) (m' := M') hok.out.1 h hxo.kind
          have hdel := fun M' (h : oneC M l[q] = some M') => cdM_del (row := cdRow) (m' := M') hok.out.1 h
          have hall := fun M' (h : oneC M l[q] = some M') => And.intro (oneC_spec hok.out.1 h hxo.kind).1 (oneC_all (p := CdOk) h hok.out.2 hxo.c)
          have hsome := cdM_some (row := cdRow) hok.out.1 l[q].c.id
          have hnn : n + q < maxLen := by unfold maxLen; omega
          obtain ⟨R0, hR0l, hR0o, hR0⟩ : ∃ R0 : List Value, R0.length = 27 ∧ R0.all Value.oneCell' = true ∧ (cdM cdRow M l[q].c.id).getD (.agg (cdRow (Cd.none 0)).toArray) = .agg R0.toArray := by
            cases hlk : lookC M l[q].c.id with
            | none => exact ⟨cdRow (Cd.none 0), rfl, cdRow_oneT _, by unfold cdM; rw [hlk]; rfl⟩
            | some c0 => exact ⟨cdRow c0, cdRow_lenT _ (hok.out.2 c0 ((lookC_iff hok.out.1 _ c0).1 hlk).1).f, cdRow_oneT _, by unfold cdM; rw [hlk]; rfl⟩
          have hcl : (cdRow l[q].c).length = 27 := cdRow_lenT _ hxo.c.f
          generalize cdM cdRow M = M2 at *
          have hcells : itRow l[q] = .int .i64 l[q].kind :: cdRow l[q].c := rfl
          have hcid : cdRow l[q].c = .int .i64 l[q].c.id :: .int .i64 l[q].c.ver :: .int .u32 l[q].c.lab :: flRow l[q].c.f := rfl
          rw [hcells] at hrow hrl hone
          rw [hcid] at hrow hrl hone hcl hput
          clear hcells hcid
          replace hrow := Lib.hid hrow
          have hkd := hxo.kind
          clear hxo
          generalize l[q] = x at *
          obtain ⟨kind, id, ver, lab, f⟩ := x
          dsimp only at *
          generalize flRow f = RF at *
          have hd1 : ((Value.int .i64 kind :: .int .i64 id :: .int .i64 ver :: .int .u32 lab :: RF).toArray.toList.drop 1).take 27 = (Value.int .i64 id :: .int .i64 ver :: .int .u32 lab :: RF) := List.take_of_length_le (Nat.le_of_eq hcl)
          cases hth : thereC M id
          · rw [hth] at hsome
            by_cases hk1 : kind = 1
            · have dk1 : (kind == 1) = true := by simpa using hk1
              have dk2 : (kind == 2) = false := by rw [hk1]; rfl
              obtain ⟨M', hM'⟩ := oneC_some (m := M) (x := ⟨kind, id, ver, lab, f⟩) ⟨fun _ => hth, fun _ => hk1⟩
              have hp2 : cdM cdRow M' = putM M2 id (.agg (Value.int .i64 id :: .int .i64 ver :: .int .u32 lab :: RF).toArray) := hput M' hM' (by show kind ≠ 2; omega)
              replace hp2 := Lib.hid hp2
              have hM2 := Lib.hid (hstep.trans hM')
              have hok2 := Lib.hid (hall M' hM')
              clear hput hdel hall hstep hth hkd hk1 hM hok hM'
              go_wp2_with (first
                | (with_reducible refine wpList_rangerow (n := 28) (range_old hS hrow.out) rfl rfl rfl (by kernel_rfl) (by kernel_rfl) hrl ?_)
                | ((with_reducible refine wpList_alloc_st (L := [_]) hS rfl rfl ei ?_); intro gX w1 hS1; clear hS; have hS := hS1; clear hS1)
                | ((with_reducible refine wpList_storerow_st (n := 28) (vs := .int .i64 kind :: .int .i64 id :: .int .i64 ver :: .int .u32 lab :: RF) 0 hS rfl rfl rfl rfl (by kernel_rfl) rfl hrl hone (by kernel_rfl) ?_); intro w1 hS1; clear hS; have hS := hS1; clear hS1; try simp only [List.set_cons_zero, List.set_cons_succ, List.setIfInBounds_toArray, List.take_succ_cons, List.take_zero, List.drop_succ_cons, List.drop_zero, List.nil_append, List.cons_append, List.append_nil, List.drop_nil, List.take_nil, List.length_cons, List.length_nil, Nat.zero_add, Nat.add_zero, Nat.reduceAdd] at hS)
                | ((with_reducible refine wpList_lookok_st (k := 3) 1 hS rfl rfl rfl rfl rfl Try.underlying3 Try.underlying95 zero_card hwf ?_); rw [hR0, hsome])
                | ((with_reducible refine wpList_alloc_st (L := [_, _]) hS rfl rfl ec ?_); intro gV w1 hS1; clear hS; have hS := hS1; clear hS1)
                | ((with_reducible refine wpList_storerow_st (n := 27) (vs := R0) 0 hS rfl rfl rfl rfl (by kernel_rfl) rfl hR0l hR0o (by kernel_rfl) ?_); intro w1 hS1; clear hS; have hS := hS1; clear hS1; try simp only [List.set_cons_zero, List.set_cons_succ, List.setIfInBounds_toArray, List.take_succ_cons, List.take_zero, List.drop_succ_cons, List.drop_zero, List.nil_append, List.cons_append, List.append_nil, List.drop_nil, List.take_nil, List.length_cons, List.length_nil, Nat.zero_add, Nat.add_zero, Nat.reduceAdd] at hS)
                | ((with_reducible refine wpList_loadrow_st (n := 27) 1 hS rfl rfl rfl rfl ?_ (by kernel_rfl) hd1 hcl ?_); focus (simp [rowB, go_sem]; done))
                | ((with_reducible refine wpList_mapdel_st (k := 3) 2 hS rfl rfl rfl rfl rfl Try.underlying3 Try.underlying95 hwf ?_); intro w6 hS1; clear hS; have hS := hS1; clear hS1; simp only [List.set_cons_zero, List.set_cons_succ] at hS)
                | ((with_reducible refine wpList_mapput_st (u := .agg (Value.int .i64 id :: .int .i64 ver :: .int .u32 lab :: RF).toArray) (k := 3) 2 hS rfl rfl rfl rfl rfl rfl Try.underlying3 Try.underlying95 hnn hwf ?_); intro w6 hS1; clear hS; have hS := hS1; clear hS1; simp only [List.set_cons_zero, List.set_cons_succ] at hS)
                | (with_reducible refine wpList_box_st hS rfl rfl rfl ?_; intro g1 w1 hS1; clear hS; replace hS := hS1; clear hS1) | (with_reducible refine wpList_box1_st hS rfl rfl rfl ?_; intro g1 w1 hS1; clear hS; replace hS := hS1; clear hS1) | (with_reducible refine wpList_alloc_st hS rfl rfl (by assumption) ?_; intro g1 w1 hS1; clear hS; replace hS := hS1; clear hS1) | (with_reducible refine wpList_alloc1_st hS rfl rfl (by assumption) rfl ?_; intro g1 w1 hS1; clear hS; replace hS := hS1; clear hS1) | ((with_reducible refine wpList_load_st 0 hS rfl rfl rfl rfl ?_ rfl ?_); focus (simp [scalarB, go_sem]; done)) | ((with_reducible refine wpList_loadall_st 0 hS rfl rfl rfl rfl ?_ (by kernel_rfl) ?_); focus (simp [rowB, go_sem]; done)) | ((with_reducible refine wpList_store_st 0 hS rfl rfl rfl rfl (by kernel_rfl) rfl rfl ?_); intro w1 hS1; clear hS; replace hS := hS1; clear hS1; try simp only [List.set_cons_zero, List.set_cons_succ, List.setIfInBounds_toArray, List.take_succ_cons, List.take_zero, List.drop_succ_cons, List.drop_zero, List.nil_append, List.cons_append, List.append_nil, List.drop_nil, List.take_nil, List.length_cons, List.length_nil, Nat.zero_add, Nat.add_zero, Nat.reduceAdd] at hS) | ((with_reducible refine wpList_storerow_st 0 hS rfl rfl rfl rfl (by kernel_rfl) rfl rfl rfl rfl ?_); intro w1 hS1; clear hS; replace hS := hS1; clear hS1; try simp only [List.set_cons_zero, List.set_cons_succ, List.setIfInBounds_toArray, List.take_succ_cons, List.take_zero, List.drop_succ_cons, List.drop_zero, List.nil_append, List.cons_append, List.append_nil, List.drop_nil, List.take_nil, List.length_cons, List.length_nil, Nat.zero_add, Nat.add_zero, Nat.reduceAdd] at hS) | ((with_reducible refine wpList_load_st 1 hS rfl rfl rfl rfl ?_ rfl ?_); focus (simp [scalarB, go_sem]; done)) | ((with_reducible refine wpList_loadall_st 1 hS rfl rfl rfl rfl ?_ (by kernel_rfl) ?_); focus (simp [rowB, go_sem]; done)) | ((with_reducible refine wpList_store_st 1 hS rfl rfl rfl rfl (by kernel_rfl) rfl rfl ?_); intro w1 hS1; clear hS; replace hS := hS1; clear hS1; try simp only [List.set_cons_zero, List.set_cons_succ, List.setIfInBounds_toArray, List.take_succ_cons, List.take_zero, List.drop_succ_cons, List.drop_zero, List.nil_append, List.cons_append, List.append_nil, List.drop_nil, List.take_nil, List.length_cons, List.length_nil, Nat.zero_add, Nat.add_zero, Nat.reduceAdd] at hS) | ((with_reducible refine wpList_storerow_st 1 hS rfl rfl rfl rfl (by kernel_rfl) rfl rfl rfl rfl ?_); intro w1 hS1; clear hS; replace hS := hS1; clear hS1; try simp only [List.set_cons_zero, List.set_cons_succ, List.setIfInBounds_toArray, List.take_succ_cons, List.take_zero, List.drop_succ_cons, List.drop_zero, List.nil_append, List.cons_append, List.append_nil, List.drop_nil, List.take_nil, List.length_cons, List.length_nil, Nat.zero_add, Nat.add_zero, Nat.reduceAdd] at hS))
              go_roundg (m - (q + 1))
              case measure => omega
              case rel => exact ⟨q + 1, M', by omega, by go_num, hM2, hok2, by rw [hp2.out]; exact hS.drop.drop⟩
            · have dk1 : (kind == 1) = false := by simpa using hk1
              have hno : applyC cs l = none := applyC_take_none (q + 1) (hstep.trans (oneC_none (fun h => hk1 (h.2 hth))))
              have hOn : O = none := hO.out.symm.trans hno
              replace hOn := Lib.hid hOn
              clear hput hdel hall hstep hth hkd hk1 hM hok hno
              go_wp2_with (first
                | (with_reducible refine wpList_rangerow (n := 28) (range_old hS hrow.out) rfl rfl rfl (by kernel_rfl) (by kernel_rfl) hrl ?_)
                | ((with_reducible refine wpList_alloc_st (L := [_]) hS rfl rfl ei ?_); intro gX w1 hS1; clear hS; have hS := hS1; clear hS1)
                | ((with_reducible refine wpList_storerow_st (n := 28) (vs := .int .i64 kind :: .int .i64 id :: .int .i64 ver :: .int .u32 lab :: RF) 0 hS rfl rfl rfl rfl (by kernel_rfl) rfl hrl hone (by kernel_rfl) ?_); intro w1 hS1; clear hS; have hS := hS1; clear hS1; try simp only [List.set_cons_zero, List.set_cons_succ, List.setIfInBounds_toArray, List.take_succ_cons, List.take_zero, List.drop_succ_cons, List.drop_zero, List.nil_append, List.cons_append, List.append_nil, List.drop_nil, List.take_nil, List.length_cons, List.length_nil, Nat.zero_add, Nat.add_zero, Nat.reduceAdd] at hS)
                | ((with_reducible refine wpList_lookok_st (k := 3) 1 hS rfl rfl rfl rfl rfl Try.underlying3 Try.underlying95 zero_card hwf ?_); rw [hR0, hsome])
                | ((with_reducible refine wpList_alloc_st (L := [_, _]) hS rfl rfl ec ?_); intro gV w1 hS1; clear hS; have hS := hS1; clear hS1)
                | ((with_reducible refine wpList_storerow_st (n := 27) (vs := R0) 0 hS rfl rfl rfl rfl (by kernel_rfl) rfl hR0l hR0o (by kernel_rfl) ?_); intro w1 hS1; clear hS; have hS := hS1; clear hS1; try simp only [List.set_cons_zero, List.set_cons_succ, List.setIfInBounds_toArray, List.take_succ_cons, List.take_zero, List.drop_succ_cons, List.drop_zero, List.nil_append, List.cons_append, List.append_nil, List.drop_nil, List.take_nil, List.length_cons, List.length_nil, Nat.zero_add, Nat.add_zero, Nat.reduceAdd] at hS)
                | ((with_reducible refine wpList_loadrow_st (n := 27) 1 hS rfl rfl rfl rfl ?_ (by kernel_rfl) hd1 hcl ?_); focus (simp [rowB, go_sem]; done))
                | ((with_reducible refine wpList_mapdel_st (k := 3) 2 hS rfl rfl rfl rfl rfl Try.underlying3 Try.underlying95 hwf ?_); intro w6 hS1; clear hS; have hS := hS1; clear hS1; simp only [List.set_cons_zero, List.set_cons_succ] at hS)
                | ((with_reducible refine wpList_mapput_st (u := .agg (Value.int .i64 id :: .int .i64 ver :: .int .u32 lab :: RF).toArray) (k := 3) 2 hS rfl rfl rfl rfl rfl rfl Try.underlying3 Try.underlying95 hnn hwf ?_); intro w6 hS1; clear hS; have hS := hS1; clear hS1; simp only [List.set_cons_zero, List.set_cons_succ] at hS)
                | (with_reducible refine wpList_box_st hS rfl rfl rfl ?_; intro g1 w1 hS1; clear hS; replace hS := hS1; clear hS1) | (with_reducible refine wpList_box1_st hS rfl rfl rfl ?_; intro g1 w1 hS1; clear hS; replace hS := hS1; clear hS1) | (with_reducible refine wpList_alloc_st hS rfl rfl (by assumption) ?_; intro g1 w1 hS1; clear hS; replace hS := hS1; clear hS1) | (with_reducible refine wpList_alloc1_st hS rfl rfl (by assumption) rfl ?_; intro g1 w1 hS1; clear hS; replace hS := hS1; clear hS1) | ((with_reducible refine wpList_load_st 0 hS rfl rfl rfl rfl ?_ rfl ?_); focus (simp [scalarB, go_sem]; done)) | ((with_reducible refine wpList_loadall_st 0 hS rfl rfl rfl rfl ?_ (by kernel_rfl) ?_); focus (simp [rowB, go_sem]; done)) | ((with_reducible refine wpList_store_st 0 hS rfl rfl rfl rfl (by kernel_rfl) rfl rfl ?_); intro w1 hS1; clear hS; replace hS := hS1; clear hS1; try simp only [List.set_cons_zero, List.set_cons_succ, List.setIfInBounds_toArray, List.take_succ_cons, List.take_zero, List.drop_succ_cons, List.drop_zero, List.nil_append, List.cons_append, List.append_nil, List.drop_nil, List.take_nil, List.length_cons, List.length_nil, Nat.zero_add, Nat.add_zero, Nat.reduceAdd] at hS) | ((with_reducible refine wpList_storerow_st 0 hS rfl rfl rfl rfl (by kernel_rfl) rfl rfl rfl rfl ?_); intro w1 hS1; clear hS; replace hS := hS1; clear hS1; try simp only [List.set_cons_zero, List.set_cons_succ, List.setIfInBounds_toArray, List.take_succ_cons, List.take_zero, List.drop_succ_cons, List.drop_zero, List.nil_append, List.cons_append, List.append_nil, List.drop_nil, List.take_nil, List.length_cons, List.length_nil, Nat.zero_add, Nat.add_zero, Nat.reduceAdd] at hS) | ((with_reducible refine wpList_load_st 1 hS rfl rfl rfl rfl ?_ rfl ?_); focus (simp [scalarB, go_sem]; done)) | ((with_reducible refine wpList_loadall_st 1 hS rfl rfl rfl rfl ?_ (by kernel_rfl) ?_); focus (simp [rowB, go_sem]; done)) | ((with_reducible refine wpList_store_st 1 hS rfl rfl rfl rfl (by kernel_rfl) rfl rfl ?_); intro w1 hS1; clear hS; replace hS := hS1; clear hS1; try simp only [List.set_cons_zero, List.set_cons_succ, List.setIfInBounds_toArray, List.take_succ_cons, List.take_zero, List.drop_succ_cons, List.drop_zero, List.nil_append, List.cons_append, List.append_nil, List.drop_nil, List.take_nil, List.length_cons, List.length_nil, Nat.zero_add, Nat.add_zero, Nat.reduceAdd] at hS) | ((with_reducible refine wpList_storerow_st 1 hS rfl rfl rfl rfl (by kernel_rfl) rfl rfl rfl rfl ?_); intro w1 hS1; clear hS; replace hS := hS1; clear hS1; try simp only [List.set_cons_zero, List.set_cons_succ, List.setIfInBounds_toArray, List.take_succ_cons, List.take_zero, List.drop_succ_cons, List.drop_zero, List.nil_append, List.cons_append, List.append_nil, List.drop_nil, List.take_nil, List.length_cons, List.length_nil, Nat.zero_add, Nat.add_zero, Nat.reduceAdd] at hS))
              go_ret2
              rw [hOn.out]
              exact ⟨rfl, hS.below⟩
          · rw [hth] at hsome
            by_cases hk1 : kind = 1
            · have dk1 : (kind == 1) = true := by simpa using hk1
              have hno : applyC cs l = none := applyC_take_none (q + 1) (hstep.trans (oneC_none (fun h => by have := h.1 hk1; change thereC M id = false at this; rw [hth] at this; cases this)))
              have hOn : O = none := hO.out.symm.trans hno
              replace hOn := Lib.hid hOn
              clear hput hdel hall hstep hth hkd hk1 hM hok hno
              go_wp2_with (first
                | (with_reducible refine wpList_rangerow (n := 28) (range_old hS hrow.out) rfl rfl rfl (by kernel_rfl) (by kernel_rfl) hrl ?_)
                | ((with_reducible refine wpList_alloc_st (L := [_]) hS rfl rfl ei ?_); intro gX w1 hS1; clear hS; have hS := hS1; clear hS1)
                | ((with_reducible refine wpList_storerow_st (n := 28) (vs := .int .i64 kind :: .int .i64 id :: .int .i64 ver :: .int .u32 lab :: RF) 0 hS rfl rfl rfl rfl (by kernel_rfl) rfl hrl hone (by kernel_rfl) ?_); intro w1 hS1; clear hS; have hS := hS1; clear hS1; try simp only [List.set_cons_zero, List.set_cons_succ, List.setIfInBounds_toArray, List.take_succ_cons, List.take_zero, List.drop_succ_cons, List.drop_zero, List.nil_append, List.cons_append, List.append_nil, List.drop_nil, List.take_nil, List.length_cons, List.length_nil, Nat.zero_add, Nat.add_zero, Nat.reduceAdd] at hS)
                | ((with_reducible refine wpList_lookok_st (k := 3) 1 hS rfl rfl rfl rfl rfl Try.underlying3 Try.underlying95 zero_card hwf ?_); rw [hR0, hsome])
                | ((with_reducible refine wpList_alloc_st (L := [_, _]) hS rfl rfl ec ?_); intro gV w1 hS1; clear hS; have hS := hS1; clear hS1)
                | ((with_reducible refine wpList_storerow_st (n := 27) (vs := R0) 0 hS rfl rfl rfl rfl (by kernel_rfl) rfl hR0l hR0o (by kernel_rfl) ?_); intro w1 hS1; clear hS; have hS := hS1; clear hS1; try simp only [List.set_cons_zero, List.set_cons_succ, List.setIfInBounds_toArray, List.take_succ_cons, List.take_zero, List.drop_succ_cons, List.drop_zero, List.nil_append, List.cons_append, List.append_nil, List.drop_nil, List.take_nil, List.length_cons, List.length_nil, Nat.zero_add, Nat.add_zero, Nat.reduceAdd] at hS)
                | ((with_reducible refine wpList_loadrow_st (n := 27) 1 hS rfl rfl rfl rfl ?_ (by kernel_rfl) hd1 hcl ?_); focus (simp [rowB, go_sem]; done))
                | ((with_reducible refine wpList_mapdel_st (k := 3) 2 hS rfl rfl rfl rfl rfl Try.underlying3 Try.underlying95 hwf ?_); intro w6 hS1; clear hS; have hS := hS1; clear hS1; simp only [List.set_cons_zero, List.set_cons_succ] at hS)
                | ((with_reducible refine wpList_mapput_st (u := .agg (Value.int .i64 id :: .int .i64 ver :: .int .u32 lab :: RF).toArray) (k := 3) 2 hS rfl rfl rfl rfl rfl rfl Try.underlying3 Try.underlying95 hnn hwf ?_); intro w6 hS1; clear hS; have hS := hS1; clear hS1; simp only [List.set_cons_zero, List.set_cons_succ] at hS)
                | (with_reducible refine wpList_box_st hS rfl rfl rfl ?_; intro g1 w1 hS1; clear hS; replace hS := hS1; clear hS1) | (with_reducible refine wpList_box1_st hS rfl rfl rfl ?_; intro g1 w1 hS1; clear hS; replace hS := hS1; clear hS1) | (with_reducible refine wpList_alloc_st hS rfl rfl (by assumption) ?_; intro g1 w1 hS1; clear hS; replace hS := hS1; clear hS1) | (with_reducible refine wpList_alloc1_st hS rfl rfl (by assumption) rfl ?_; intro g1 w1 hS1; clear hS; replace hS := hS1; clear hS1) | ((with_reducible refine wpList_load_st 0 hS rfl rfl rfl rfl ?_ rfl ?_); focus (simp [scalarB, go_sem]; done)) | ((with_reducible refine wpList_loadall_st 0 hS rfl rfl rfl rfl ?_ (by kernel_rfl) ?_); focus (simp [rowB, go_sem]; done)) | ((with_reducible refine wpList_store_st 0 hS rfl rfl rfl rfl (by kernel_rfl) rfl rfl ?_); intro w1 hS1; clear hS; replace hS := hS1; clear hS1; try simp only [List.set_cons_zero, List.set_cons_succ, List.setIfInBounds_toArray, List.take_succ_cons, List.take_zero, List.drop_succ_cons, List.drop_zero, List.nil_append, List.cons_append, List.append_nil, List.drop_nil, List.take_nil, List.length_cons, List.length_nil, Nat.zero_add, Nat.add_zero, Nat.reduceAdd] at hS) | ((with_reducible refine wpList_storerow_st 0 hS rfl rfl rfl rfl (by kernel_rfl) rfl rfl rfl rfl ?_); intro w1 hS1; clear hS; replace hS := hS1; clear hS1; try simp only [List.set_cons_zero, List.set_cons_succ, List.setIfInBounds_toArray, List.take_succ_cons, List.take_zero, List.drop_succ_cons, List.drop_zero, List.nil_append, List.cons_append, List.append_nil, List.drop_nil, List.take_nil, List.length_cons, List.length_nil, Nat.zero_add, Nat.add_zero, Nat.reduceAdd] at hS) | ((with_reducible refine wpList_load_st 1 hS rfl rfl rfl rfl ?_ rfl ?_); focus (simp [scalarB, go_sem]; done)) | ((with_reducible refine wpList_loadall_st 1 hS rfl rfl rfl rfl ?_ (by kernel_rfl) ?_); focus (simp [rowB, go_sem]; done)) | ((with_reducible refine wpList_store_st 1 hS rfl rfl rfl rfl (by kernel_rfl) rfl rfl ?_); intro w1 hS1; clear hS; replace hS := hS1; clear hS1; try simp only [List.set_cons_zero, List.set_cons_succ, List.setIfInBounds_toArray, List.take_succ_cons, List.take_zero, List.drop_succ_cons, List.drop_zero, List.nil_append, List.cons_append, List.append_nil, List.drop_nil, List.take_nil, List.length_cons, List.length_nil, Nat.zero_add, Nat.add_zero, Nat.reduceAdd] at hS) | ((with_reducible refine wpList_storerow_st 1 hS rfl rfl rfl rfl (by kernel_rfl) rfl rfl rfl rfl ?_); intro w1 hS1; clear hS; replace hS := hS1; clear hS1; try simp only [List.set_cons_zero, List.set_cons_succ, List.setIfInBounds_toArray, List.take_succ_cons, List.take_zero, List.drop_succ_cons, List.drop_zero, List.nil_append, List.cons_append, List.append_nil, List.drop_nil, List.take_nil, List.length_cons, List.length_nil, Nat.zero_add, Nat.add_zero, Nat.reduceAdd] at hS))
              go_ret2
              rw [hOn.out]
              exact ⟨rfl, hS.below⟩
            · have dk1 : (kind == 1) = false := by simpa using hk1
              obtain ⟨M', hM'⟩ := oneC_some (m := M) (x := ⟨kind, id, ver, lab, f⟩) ⟨fun h => absurd h hk1, fun h => by change thereC M id = false at h; rw [hth] at h; cases h⟩
              have hM2 := Lib.hid (hstep.trans hM')
              have hok2 := Lib.hid (hall M' hM')
              by_cases hk2 : kind = 2
              · have dk2 : (kind == 2) = true := by simpa using hk2
                have hp2 : cdM cdRow M' = delM M2 id := hdel M' hM' hk2
                replace hp2 := Lib.hid hp2
                clear hput hdel hall hstep hth hkd hk1 hk2 hM hok hM'
                go_wp2_with (first
                  | (with_reducible refine wpList_rangerow (n := 28) (range_old hS hrow.out) rfl rfl rfl (by kernel_rfl) (by kernel_rfl) hrl ?_)
                  | ((with_reducible refine wpList_alloc_st (L := [_]) hS rfl rfl ei ?_); intro gX w1 hS1; clear hS; have hS := hS1; clear hS1)
                  | ((with_reducible refine wpList_storerow_st (n := 28) (vs := .int .i64 kind :: .int .i64 id :: .int .i64 ver :: .int .u32 lab :: RF) 0 hS rfl rfl rfl rfl (by kernel_rfl) rfl hrl hone (by kernel_rfl) ?_); intro w1 hS1; clear hS; have hS := hS1; clear hS1; try simp only [List.set_cons_zero, List.set_cons_succ, List.setIfInBounds_toArray, List.take_succ_cons, List.take_zero, List.drop_succ_cons, List.drop_zero, List.nil_append, List.cons_append, List.append_nil, List.drop_nil, List.take_nil, List.length_cons, List.length_nil, Nat.zero_add, Nat.add_zero, Nat.reduceAdd] at hS)
                  | ((with_reducible refine wpList_lookok_st (k := 3) 1 hS rfl rfl rfl rfl rfl Try.underlying3 Try.underlying95 zero_card hwf ?_); rw [hR0, hsome])
                  | ((with_reducible refine wpList_alloc_st (L := [_, _]) hS rfl rfl ec ?_); intro gV w1 hS1; clear hS; have hS := hS1; clear hS1)
                  | ((with_reducible refine wpList_storerow_st (n := 27) (vs := R0) 0 hS rfl rfl rfl rfl (by kernel_rfl) rfl hR0l hR0o (by kernel_rfl) ?_); intro w1 hS1; clear hS; have hS := hS1; clear hS1; try simp only [List.set_cons_zero, List.set_cons_succ, List.setIfInBounds_toArray, List.take_succ_cons, List.take_zero, List.drop_succ_cons, List.drop_zero, List.nil_append, List.cons_append, List.append_nil, List.drop_nil, List.take_nil, List.length_cons, List.length_nil, Nat.zero_add, Nat.add_zero, Nat.reduceAdd] at hS)
                  | ((with_reducible refine wpList_loadrow_st (n := 27) 1 hS rfl rfl rfl rfl ?_ (by kernel_rfl) hd1 hcl ?_); focus (simp [rowB, go_sem]; done))
                  | ((with_reducible refine wpList_mapdel_st (k := 3) 2 hS rfl rfl rfl rfl rfl Try.underlying3 Try.underlying95 hwf ?_); intro w6 hS1; clear hS; have hS := hS1; clear hS1; simp only [List.set_cons_zero, List.set_cons_succ] at hS)
                  | ((with_reducible refine wpList_mapput_st (u := .agg (Value.int .i64 id :: .int .i64 ver :: .int .u32 lab :: RF).toArray) (k := 3) 2 hS rfl rfl rfl rfl rfl rfl Try.underlying3 Try.underlying95 hnn hwf ?_); intro w6 hS1; clear hS; have hS := hS1; clear hS1; simp only [List.set_cons_zero, List.set_cons_succ] at hS)
                  | (with_reducible refine wpList_box_st hS rfl rfl rfl ?_; intro g1 w1 hS1; clear hS; replace hS := hS1; clear hS1) | (with_reducible refine wpList_box1_st hS rfl rfl rfl ?_; intro g1 w1 hS1; clear hS; replace hS := hS1; clear hS1) | (with_reducible refine wpList_alloc_st hS rfl rfl (by assumption) ?_; intro g1 w1 hS1; clear hS; replace hS := hS1; clear hS1) | (with_reducible refine wpList_alloc1_st hS rfl rfl (by assumption) rfl ?_; intro g1 w1 hS1; clear hS; replace hS := hS1; clear hS1) | ((with_reducible refine wpList_load_st 0 hS rfl rfl rfl rfl ?_ rfl ?_); focus (simp [scalarB, go_sem]; done)) | ((with_reducible refine wpList_loadall_st 0 hS rfl rfl rfl rfl ?_ (by kernel_rfl) ?_); focus (simp [rowB, go_sem]; done)) | ((with_reducible refine wpList_store_st 0 hS rfl rfl rfl rfl (by kernel_rfl) rfl rfl ?_); intro w1 hS1; clear hS; replace hS := hS1; clear hS1; try simp only [List.set_cons_zero, List.set_cons_succ, List.setIfInBounds_toArray, List.take_succ_cons, List.take_zero, List.drop_succ_cons, List.drop_zero, List.nil_append, List.cons_append, List.append_nil, List.drop_nil, List.take_nil, List.length_cons, List.length_nil, Nat.zero_add, Nat.add_zero, Nat.reduceAdd] at hS) | ((with_reducible refine wpList_storerow_st 0 hS rfl rfl rfl rfl (by kernel_rfl) rfl rfl rfl rfl ?_); intro w1 hS1; clear hS; replace hS := hS1; clear hS1; try simp only [List.set_cons_zero, List.set_cons_succ, List.setIfInBounds_toArray, List.take_succ_cons, List.take_zero, List.drop_succ_cons, List.drop_zero, List.nil_append, List.cons_append, List.append_nil, List.drop_nil, List.take_nil, List.length_cons, List.length_nil, Nat.zero_add, Nat.add_zero, Nat.reduceAdd] at hS) | ((with_reducible refine wpList_load_st 1 hS rfl rfl rfl rfl ?_ rfl ?_); focus (simp [scalarB, go_sem]; done)) | ((with_reducible refine wpList_loadall_st 1 hS rfl rfl rfl rfl ?_ (by kernel_rfl) ?_); focus (simp [rowB, go_sem]; done)) | ((with_reducible refine wpList_store_st 1 hS rfl rfl rfl rfl (by kernel_rfl) rfl rfl ?_); intro w1 hS1; clear hS; replace hS := hS1; clear hS1; try simp only [List.set_cons_zero, List.set_cons_succ, List.setIfInBounds_toArray, List.take_succ_cons, List.take_zero, List.drop_succ_cons, List.drop_zero, List.nil_append, List.cons_append, List.append_nil, List.drop_nil, List.take_nil, List.length_cons, List.length_nil, Nat.zero_add, Nat.add_zero, Nat.reduceAdd] at hS) | ((with_reducible refine wpList_storerow_st 1 hS rfl rfl rfl rfl (by kernel_rfl) rfl rfl rfl rfl ?_); intro w1 hS1; clear hS; replace hS := hS1; clear hS1; try simp only [List.set_cons_zero, List.set_cons_succ, List.setIfInBounds_toArray, List.take_succ_cons, List.take_zero, List.drop_succ_cons, List.drop_zero, List.nil_append, List.cons_append, List.append_nil, List.drop_nil, List.take_nil, List.length_cons, List.length_nil, Nat.zero_add, Nat.add_zero, Nat.reduceAdd] at hS))
                go_roundg (m - (q + 1))
                case measure => omega
                case rel => exact ⟨q + 1, M', by omega, by go_num, hM2, hok2, by rw [hp2.out]; exact hS.drop.drop.mapmono 0 rfl (by omega)⟩
              · have dk2 : (kind == 2) = false := by simpa using hk2
                have hp2 : cdM cdRow M' = putM M2 id (.agg (Value.int .i64 id :: .int .i64 ver :: .int .u32 lab :: RF).toArray) := hput M' hM' hk2
                replace hp2 := Lib.hid hp2
                clear hput hdel hall hstep hth hkd hk1 hk2 hM hok hM'
                go_wp2_with (first
                  | (with_reducible refine wpList_rangerow (n := 28) (range_old hS hrow.out) rfl rfl rfl (by kernel_rfl) (by kernel_rfl) hrl ?_)
                  | ((with_reducible refine wpList_alloc_st (L := [_]) hS rfl rfl ei ?_); intro gX w1 hS1; clear hS; have hS := hS1; clear hS1)
                  | ((with_reducible refine wpList_storerow_st (n := 28) (vs := .int .i64 kind :: .int .i64 id :: .int .i64 ver :: .int .u32 lab :: RF) 0 hS rfl rfl rfl rfl (by kernel_rfl) rfl hrl hone (by kernel_rfl) ?_); intro w1 hS1; clear hS; have hS := hS1; clear hS1; try simp only [List.set_cons_zero, List.set_cons_succ, List.setIfInBounds_toArray, List.take_succ_cons, List.take_zero, List.drop_succ_cons, List.drop_zero, List.nil_append, List.cons_append, List.append_nil, List.drop_nil, List.take_nil, List.length_cons, List.length_nil, Nat.zero_add, Nat.add_zero, Nat.reduceAdd] at hS)
                  | ((with_reducible refine wpList_lookok_st (k := 3) 1 hS rfl rfl rfl rfl rfl Try.underlying3 Try.underlying95 zero_card hwf ?_); rw [hR0, hsome])
                  | ((with_reducible refine wpList_alloc_st (L := [_, _]) hS rfl rfl ec ?_); intro gV w1 hS1; clear hS; have hS := hS1; clear hS1)
                  | ((with_reducible refine wpList_storerow_st (n := 27) (vs := R0) 0 hS rfl rfl rfl rfl (by kernel_rfl) rfl hR0l hR0o (by kernel_rfl) ?_); intro w1 hS1; clear hS; have hS := hS1; clear hS1; try simp only [List.set_cons_zero, List.set_cons_succ, List.setIfInBounds_toArray, List.take_succ_cons, List.take_zero, List.drop_succ_cons, List.drop_zero, List.nil_append, List.cons_append, List.append_nil, List.drop_nil, List.take_nil, List.length_cons, List.length_nil, Nat.zero_add, Nat.add_zero, Nat.reduceAdd] at hS)
                  | ((with_reducible refine wpList_loadrow_st (n := 27) 1 hS rfl rfl rfl rfl ?_ (by kernel_rfl) hd1 hcl ?_); focus (simp [rowB, go_sem]; done))
                  | ((with_reducible refine wpList_mapdel_st (k := 3) 2 hS rfl rfl rfl rfl rfl Try.underlying3 Try.underlying95 hwf ?_); intro w6 hS1; clear hS; have hS := hS1; clear hS1; simp only [List.set_cons_zero, List.set_cons_succ] at hS)
                  | ((with_reducible refine wpList_mapput_st (u := .agg (Value.int .i64 id :: .int .i64 ver :: .int .u32 lab :: RF).toArray) (k := 3) 2 hS rfl rfl rfl rfl rfl rfl Try.underlying3 Try.underlying95 hnn hwf ?_); intro w6 hS1; clear hS; have hS := hS1; clear hS1; simp only [List.set_cons_zero, List.set_cons_succ] at hS)
                  | (with_reducible refine wpList_box_st hS rfl rfl rfl ?_; intro g1 w1 hS1; clear hS; replace hS := hS1; clear hS1) | (with_reducible refine wpList_box1_st hS rfl rfl rfl ?_; intro g1 w1 hS1; clear hS; replace hS := hS1; clear hS1) | (with_reducible refine wpList_alloc_st hS rfl rfl (by assumption) ?_; intro g1 w1 hS1; clear hS; replace hS := hS1; clear hS1) | (with_reducible refine wpList_alloc1_st hS rfl rfl (by assumption) rfl ?_; intro g1 w1 hS1; clear hS; replace hS := hS1; clear hS1) | ((with_reducible refine wpList_load_st 0 hS rfl rfl rfl rfl ?_ rfl ?_); focus (simp [scalarB, go_sem]; done)) | ((with_reducible refine wpList_loadall_st 0 hS rfl rfl rfl rfl ?_ (by kernel_rfl) ?_); focus (simp [rowB, go_sem]; done)) | ((with_reducible refine wpList_store_st 0 hS rfl rfl rfl rfl (by kernel_rfl) rfl rfl ?_); intro w1 hS1; clear hS; replace hS := hS1; clear hS1; try simp only [List.set_cons_zero, List.set_cons_succ, List.setIfInBounds_toArray, List.take_succ_cons, List.take_zero, List.drop_succ_cons, List.drop_zero, List.nil_append, List.cons_append, List.append_nil, List.drop_nil, List.take_nil, List.length_cons, List.length_nil, Nat.zero_add, Nat.add_zero, Nat.reduceAdd] at hS) | ((with_reducible refine wpList_storerow_st 0 hS rfl rfl rfl rfl (by kernel_rfl) rfl rfl rfl rfl ?_); intro w1 hS1; clear hS; replace hS := hS1; clear hS1; try simp only [List.set_cons_zero, List.set_cons_succ, List.setIfInBounds_toArray, List.take_succ_cons, List.take_zero, List.drop_succ_cons, List.drop_zero, List.nil_append, List.cons_append, List.append_nil, List.drop_nil, List.take_nil, List.length_cons, List.length_nil, Nat.zero_add, Nat.add_zero, Nat.reduceAdd] at hS) | ((with_reducible refine wpList_load_st 1 hS rfl rfl rfl rfl ?_ rfl ?_); focus (simp [scalarB, go_sem]; done)) | ((with_reducible refine wpList_loadall_st 1 hS rfl rfl rfl rfl ?_ (by kernel_rfl) ?_); focus (simp [rowB, go_sem]; done)) | ((with_reducible refine wpList_store_st 1 hS rfl rfl rfl rfl (by kernel_rfl) rfl rfl ?_); intro w1 hS1; clear hS; replace hS := hS1; clear hS1; try simp only [List.set_cons_zero, List.set_cons_succ, List.setIfInBounds_toArray, List.take_succ_cons, List.take_zero, List.drop_succ_cons, List.drop_zero, List.nil_append, List.cons_append, List.append_nil, List.drop_nil, List.take_nil, List.length_cons, List.length_nil, Nat.zero_add, Nat.add_zero, Nat.reduceAdd] at hS) | ((with_reducible refine wpList_storerow_st 1 hS rfl rfl rfl rfl (by kernel_rfl) rfl rfl rfl rfl ?_); intro w1 hS1; clear hS; replace hS := hS1; clear hS1; try simp only [List.set_cons_zero, List.set_cons_succ, List.setIfInBounds_toArray, List.take_succ_cons, List.take_zero, List.drop_succ_cons, List.drop_zero, List.nil_append, List.cons_append, List.append_nil, List.drop_nil, List.take_nil, List.length_cons, List.length_nil, Nat.zero_add, Nat.add_zero, Nat.reduceAdd] at hS))
                go_roundg (m - (q + 1))
                case measure => omega
                case rel => exact ⟨q + 1, M', by omega, by go_num, hM2, hok2, by rw [hp2.out]; exact hS.drop.drop⟩
        · have e : l.take q = l := List.take_of_length_le (by rw [hllen.out]; omega)
          have hOM : O = some M := by rw [← hO.out]; have := hM.out; rwa [e] at this
          subst hOM
          have hq2 : n + q ≤ 100000 := by omega
          clear hM e
          go_wp2_with (first
            | (go_at_call 62; (with_reducible refine (cK.out _ _).mono ?_); rintro _ w3 ⟨B, rfl, hk3⟩; have hS1 := hS.made hk3; clear hS hk3; have hS : St w [] [Ch.blk B 95 #[.map (some gm)], Ch.map Try.prog 3 gm (n + q) (cdM cdRow M)] w3 := hS1; clear hS1)
            | (go_at_call 57; (with_reducible refine (csorted_st 0 1 hS rfl rfl hq2).mono ?_); rintro _ w4 ⟨vk, ks, rfl, hks, hkl, hk4⟩; obtain ⟨ak, ck, rfl, -⟩ := hk4.row 0 rfl; have hS1 := hS.made hk4; clear hS hk4; have hS : St w [] [Ch.row 3 1 (.slice ak ks.length ck) ks.length (ks.map vi), Ch.blk B 95 #[.map (some gm)], Ch.map Try.prog 3 gm (n + q) (cdM cdRow M)] w4 := hS1; clear hS1))
          have hki := Lib.hid (cdM_keys hok.out.1 (fun c hc => wf_of_i64 (hok.out.2 c hc).id) hks.out)
          have hkM := Lib.hid (show ks.length = M.length by rw [hki.out, List.length_map])
          have hS1 := hS.drop1.nilrow 41 27
          clear hS hlt
          have hS := hS1
          clear hS1
          go_loopg [13, 67] ks.length (fun gk vo vx wr => ∃ (z : Nat) (ao : Option Addr) (co : Nat), z + gk = ks.length ∧ vx = .int .i64 z ∧ vo = .slice ao z co ∧ St w [] [Ch.row 41 27 (.slice ao z co) z ((M.take z).map cdRow).flatten, Ch.row 3 1 (.slice ak ks.length ck) ks.length (ks.map vi), Ch.map Try.prog 3 gm (n + q) (cdM cdRow M)] wr)
          case atStart => exact ⟨0, none, 0, Nat.zero_add _, rfl, rfl, hS⟩
          case round =>
            clear hS
            obtain ⟨z, ao, co, hz, rfl, rfl, hS⟩ := hrel
            by_cases hlt : z < ks.length
            · obtain ⟨bk, ok, rfl, hck⟩ := sl_int (hS.rowsl 1 rfl) z hlt
              have hzM : z < M.length := by rw [← hkM.out]; exact hlt
              have hkz : ks[z] = M[z].id := by
                have := hki.out
                subst this
                simp
              have he1 := cdM_at (row := cdRow) hok.out.1 (List.getElem_mem hzM)
              rw [← hkz] at he1
              have hwk : (Lit.int .i64 ks[z]).wf = true := by rw [hkz]; exact wf_of_i64 (hok.out.2 _ (List.getElem_mem hzM)).id
              have hil : (cdRow M[z]).length = 27 := cdRow_lenT _ (hok.out.2 _ (List.getElem_mem hzM)).f
              have hio1 := cdRow_oneT M[z]
              have hz1 : z ≤ 60000 := by have := hkl.out; omega
              have hnx : ((M.take (z + 1)).map cdRow).flatten = ((M.take z).map cdRow).flatten ++ cdRow M[z] := by rw [List.take_succ_eq_append_getElem hzM, List.map_append, List.flatten_append]; rw [List.map_cons, List.map_nil, List.flatten_cons, List.flatten_nil, List.append_nil]
              replace hnx := Lib.hid hnx
              generalize cdM cdRow M = M1 at *
              clear hkz
              generalize cdRow M[z] = RI at *
              go_wp2_with (first
                | ((with_reducible refine wpList_look_st (k := 3) 2 hS rfl rfl rfl rfl rfl Try.underlying3 Try.underlying95 zero_card hwk ?_); rw [he1]; simp only [Option.getD_some])
                | (refine wpList_of_op fun K hK => op_build1_st (by with_unfolding_all rfl) hS rfl Try.underlying34 ec (cs := RI.toArray) rfl (by simp [hil]) (by decide) ?_; intro g3 w3 hS1; refine hK _ _ ?_; clear hK hS; have hS := hS1; clear hS1)
                | ((with_reducible refine wpList_app_st (news := RI) (m := 1) 1 hS rfl rfl rfl Try.underlying34 ec rfl (Src.slice Try.underlying34 (hS.blksl2 0 rfl) (by simp [hil])) rfl (fun u hu => List.all_eq_true.1 hio1 u hu) (by omega) (by unfold maxLen; omega) ?_); intro v6 w6 hS1; clear hS; simp only [List.set_cons_zero, List.set_cons_succ] at hS1; obtain ⟨a6, c6, rfl, -⟩ := hS1.row 1 rfl; have hS := hS1; clear hS1)
                | (with_reducible refine wpList_box_st hS rfl rfl rfl ?_; intro g1 w1 hS1; clear hS; replace hS := hS1; clear hS1) | (with_reducible refine wpList_box1_st hS rfl rfl rfl ?_; intro g1 w1 hS1; clear hS; replace hS := hS1; clear hS1) | (with_reducible refine wpList_alloc_st hS rfl rfl (by assumption) ?_; intro g1 w1 hS1; clear hS; replace hS := hS1; clear hS1) | (with_reducible refine wpList_alloc1_st hS rfl rfl (by assumption) rfl ?_; intro g1 w1 hS1; clear hS; replace hS := hS1; clear hS1) | ((with_reducible refine wpList_load_st 0 hS rfl rfl rfl rfl ?_ rfl ?_); focus (simp [scalarB, go_sem]; done)) | ((with_reducible refine wpList_loadall_st 0 hS rfl rfl rfl rfl ?_ (by kernel_rfl) ?_); focus (simp [rowB, go_sem]; done)) | ((with_reducible refine wpList_store_st 0 hS rfl rfl rfl rfl (by kernel_rfl) rfl rfl ?_); intro w1 hS1; clear hS; replace hS := hS1; clear hS1; try simp only [List.set_cons_zero, List.set_cons_succ, List.setIfInBounds_toArray, List.take_succ_cons, List.take_zero, List.drop_succ_cons, List.drop_zero, List.nil_append, List.cons_append, List.append_nil, List.drop_nil, List.take_nil, List.length_cons, List.length_nil, Nat.zero_add, Nat.add_zero, Nat.reduceAdd] at hS) | ((with_reducible refine wpList_storerow_st 0 hS rfl rfl rfl rfl (by kernel_rfl) rfl rfl rfl rfl ?_); intro w1 hS1; clear hS; replace hS := hS1; clear hS1; try simp only [List.set_cons_zero, List.set_cons_succ, List.setIfInBounds_toArray, List.take_succ_cons, List.take_zero, List.drop_succ_cons, List.drop_zero, List.nil_append, List.cons_append, List.append_nil, List.drop_nil, List.take_nil, List.length_cons, List.length_nil, Nat.zero_add, Nat.add_zero, Nat.reduceAdd] at hS))
              go_roundg (ks.length - (z + 1))
              case measure => omega
              case rel => exact ⟨z + 1, a6, c6, by omega, by go_num, rfl, by rw [hnx.out]; exact hS.drop⟩
            · have hzk : z = M.length := by rw [← hkM.out]; omega
              have e : M.take z = M := List.take_of_length_le (by omega)
              rw [e] at hS
              go_wp2_with fail
              go_ret2
              rw [hzk] at hS ⊢
              exact ⟨_, _, rfl, hS.one 0 rfl⟩
end Go.Proofs.Ytajldelodnjmoaa
end
