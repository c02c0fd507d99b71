import Derived.Test.YtneolmnpebiifaaGreatDoorM19
set_option linter.unusedVariables false
set_option linter.unusedSimpArgs false
set_option maxRecDepth 100000
section
namespace Go.Ofp
theorem St.rl3 {w0 w : World} {F : List Nat} {a b c : Ch} (h : St w0 F [a, b, c] w) : St w0 F [b, c, a] w := by
 refine h.pick (fun i => if i = 0 then 1 else if i = 1 then 2 else 0) ?_ ?_
 · intro i x hx
   match i with
   | 0 => exact hx
   | 1 => exact hx
   | 2 => exact hx
   | i + 3 => simp at hx
 · intro i j hi hj hij
   simp only [List.length_cons, List.length_nil] at hi hj
   split <;> split <;> (repeat' split) <;> omega
end Go.Ofp
namespace Go.Proofs.YtneolmnpebiifaaGreatDoor
open Go.RowKit Go.Ofp
set_option maxHeartbeats 4000000
theorem elem_dd : Elem Tryz.prog 91 (.agg #[.int .i64 0, .int .i64 0, .int .i64 0]) 3 24 := Elem.mk (by kernel_rfl) (by rfl) (by decide)
def shRow (s : ShS) (gm : Nat) (da : Option Addr) (dc : Nat) : List Value := [.int .i64 s.next, .map (some gm), .slice da s.dead.length dc]
abbrev dRow (l : List Dd) : List Value := (l.map ddRow).flatten
abbrev shA (g gm : Nat) (s : ShS) (da : Option Addr) (dc : Nat) : List Ch := [Ch.blk g 101 (shRow s gm da dc).toArray, Ch.map Tryz.prog 3 gm s.m.length (cdM cdRow s.m), Ch.row 91 3 (.slice da s.dead.length dc) s.dead.length (dRow s.dead)]
theorem snew_any (w : World) : Calls Tryz.prog 33 #[] w fun e w' => ∃ g gm, e = .returned (.pointer (some ⟨g, 0, none⟩)) ∧ St w [] (shA g gm ShS.new none 0) w' := by
 have hS := St.start w
 have e0 : ∀ gm, shRow ShS.new gm none 0 = [.int .i64 1, .map (some gm), .slice none 0 0] := fun _ => rfl
 have e1 : cdM cdRow ShS.new.m = noM := rfl
 unfold shA
 rw [e1]
 simp only [e0]
 clear e0 e1
 go_enter Tryz.func33, Tryz.ntmps33
 go_wp2_with (first | ((with_reducible refine wpList_makemap_st (k := 3) hS rfl rfl Tryz.underlying99 ?_); clear hS; intro gm w1 hS) | (with_reducible refine wpList_box_st hS rfl rfl rfl ?_; clear hS; intro g1 w1 hS))
 go_ret
 exact ⟨_, _, rfl, (hS.nilrow 91 3).rl3⟩
theorem snext_any (g : Nat) (n : Int) (w : World) (h : w.cell? ⟨g, 0, none⟩ = some (.int .i64 n)) : Calls Tryz.prog 34 #[.pointer (some ⟨g, 0, none⟩)] w fun e w' => e = .returned (.int .i64 n) ∧ Below w.heap.size w w' := by
 have hS := St.start w
 go_enter Tryz.func34, Tryz.ntmps34
 go_wp2_with fail
 go_ret
 exact ⟨rfl, hS.below⟩
theorem sget1_any (d : Dd) (B : Nat) (id : Int) (w : World) (hb : Boxed w B 3 (.int .i64 id)) :
 Calls Tryz.prog 91 #[.agg (ddRow d).toArray, .pointer (some ⟨B, 0, none⟩)] w fun e w' => e = .returned (.bool (d.id == id)) ∧ Below w.heap.size w w' := by
 have hS := St.start w
 have hc := hb.cell
 obtain ⟨di, dv, dq⟩ := d
 simp only [ddRow]
 go_enter Tryz.func91, Tryz.ntmps91
 go_wp2_with (first | (with_reducible refine wpList_box_st (L := []) hS rfl rfl rfl ?_; clear hS; intro g w1 hS; have hc2 := hS.old hc (by simp); clear hc) | ((with_reducible refine wpList_load_st 0 hS rfl rfl rfl rfl ?_ rfl ?_); focus (simp [scalarB, go_sem]; done)))
 go_ret
 exact ⟨rfl, hS.below⟩
theorem dRow_len (l : List Dd) : (dRow l).length = l.length * 3 := by
 induction l with
 | nil => rfl
 | cons d r ih => simp only [dRow, List.map_cons, List.flatten_cons, List.length_append, ddRow_len, List.length_cons] at *; omega
theorem dRow_at (l : List Dd) (k : Nat) (h : k < l.length) : ((dRow l).drop (k * 3)).take 3 = ddRow l[k] := by
 induction l generalizing k with
 | nil => simp at h
 | cons d r ih =>
  cases k with
  | zero => simp [dRow, ddRow]
  | succ k =>
   have := ih k (by simpa using h)
   rw [show (k + 1) * 3 = 3 + k * 3 by omega, ← List.drop_drop]
   simpa [dRow, ddRow] using this
theorem idxd_any (l : List Dd) (a : Option Addr) (n cap : Nat) (id : Int) (B : Nat) (hn : l.length = n) (hn1 : n ≤ 1000) (w : World) (hs : Sl w a (dRow l)) (hb : Boxed w B 3 (.int .i64 id)) :
 Calls Tryz.prog 138 #[.slice a n cap, .func (.func 91) #[] #[.pointer (some ⟨B, 0, none⟩)]] w fun e w' => (∃ r : Int, e = .returned (.int .i64 r) ∧ decide (0 ≤ r) = l.any (fun d => decide (d.id = id))) ∧ Below w.heap.size w w' := by
 have hS := St.start w
 have cD := Lib.hid (fun (q : Dd) (W : World) (h : Boxed W B 3 (.int .i64 id)) => sget1_any q B id W h)
 have lt := (Array.getElem?_eq_some_iff.1 hb).1
 replace hb := Lib.hid hb
 replace hs := Lib.hid hs
 replace hn := Lib.hid hn
 go_enter Tryz.func138, Tryz.ntmps138
 go_wp2_with fail
 go_loopg [8] n (fun gk vx wr => ∃ k : Nat, k + gk = n ∧ vx = .int .i64 k ∧ Hid (∀ q ∈ l.take k, q.id ≠ id) ∧ St w [] [] wr)
 case atStart => exact ⟨0, Nat.zero_add _, rfl, Lib.hid (by simp), hS⟩
 case round =>
  clear hS
  obtain ⟨k, hkn, rfl, hr, hS⟩ := hrel
  by_cases hlt : k < n
  · have hkl : k < l.length := by rw [hn.out]; exact hlt
    have q1 := dRow_at l k hkl
    have q8 := ddRow_len l[k]
    obtain ⟨g2, o2, ha⟩ := Sl.cells hs.out (by intro e; have := congrArg List.length e; rw [dRow_len l] at this; simp at this; omega)
    subst ha
    have hrg := sl_range (hS.sl hs.out) q1
    have hbr : Boxed wr B 3 (.int .i64 id) := (hS.below.block B lt).trans hb.out
    have cX := Lib.hid (cD.out l[k] wr hbr)
    by_cases he : l[k].id = id
    · have hib : (l[k].id == id) = true := by rw [beq_iff_eq]; exact he
      rw [hib] at cX
      have hany : l.any (fun d => decide (d.id = id)) = true := List.any_eq_true.2 ⟨l[k], List.getElem_mem hkl, by simp [he]⟩
      replace hany := Lib.hid hany
      generalize ddRow l[k] = RW at *
      clear he
      go_wp2_with (first | (go_at_call 91; (with_reducible refine cX.out.mono ?_); rintro _ w9 ⟨rfl, hk9⟩; replace hS := hS.keepB hk9; clear hk9) | ((with_reducible refine wpList_rangerow (t := 91) (n := 3) hrg rfl rfl rfl (by kernel_rfl) (by kernel_rfl) q8 ?_)))
      go_ret
      exact ⟨⟨k, rfl, by rw [hany.out]; simp⟩, hS.below⟩
    · have hib : (l[k].id == id) = false := by rw [beq_eq_false_iff_ne]; exact he
      rw [hib] at cX
      have hnx : ∀ q ∈ l.take (k + 1), q.id ≠ id := by
       intro q hq
       rw [List.take_succ_eq_append_getElem hkl, List.mem_append] at hq
       rcases hq with hq | hq
       · exact hr.out q hq
       · simp at hq; subst hq; exact he
      replace hnx := Lib.hid hnx
      generalize ddRow l[k] = RW at *
      clear he
      go_wp2_with (first | (go_at_call 91; (with_reducible refine cX.out.mono ?_); rintro _ w9 ⟨rfl, hk9⟩; replace hS := hS.keepB hk9; clear hk9) | ((with_reducible refine wpList_rangerow (t := 91) (n := 3) hrg rfl rfl rfl (by kernel_rfl) (by kernel_rfl) q8 ?_)))
      go_roundg (n - (k + 1))
      case measure => omega
      case rel => exact ⟨k + 1, by omega, by go_num, hnx, hS⟩
  · obtain rfl : k = n := by omega
    have hr2 := hr.out
    rw [List.take_of_length_le (by rw [hn.out]; exact Nat.le_refl _)] at hr2
    have hany : l.any (fun d => decide (d.id = id)) = false := List.any_eq_false.2 fun d hd => by simpa using hr2 d hd
    replace hany := Lib.hid hany
    clear hr2 hr
    go_wp2_with fail
    go_ret
    exact ⟨⟨-1, rfl, by rw [hany.out]; rfl⟩, hS.below⟩
theorem contd_any (l : List Dd) (a : Option Addr) (n cap : Nat) (id : Int) (B : Nat) (hn : l.length = n) (hn1 : n ≤ 1000) (w : World) (hs : Sl w a (dRow l)) (hb : Boxed w B 3 (.int .i64 id)) :
 Calls Tryz.prog 90 #[.slice a n cap, .func (.func 91) #[] #[.pointer (some ⟨B, 0, none⟩)]] w fun e w' => e = .returned (.bool (l.any (fun d => decide (d.id = id)))) ∧ Below w.heap.size w w' := by
 have hS := St.start w
 have cI := idxd_any l a n cap id B hn hn1 w hs hb
 generalize (l.any (fun d => decide (d.id = id))) = r at cI ⊢
 replace cI := Lib.hid cI
 clear hs hb
 go_enter Tryz.func90, Tryz.ntmps90
 go_wp2_with ((go_at_call 138; (with_reducible refine cI.out.mono ?_); rintro _ w9 ⟨⟨q, rfl, hq⟩, hk9⟩; replace hS := hS.keepB hk9; clear hk9))
 go_ret
 exact ⟨rfl, hS.below⟩
def sgV (r : Cd × Int) : Value := .tuple #[.agg (cdRow r.1).toArray, .int .i64 r.2]
theorem sgV_eq (r : Cd × Int) : sgV r = .tuple #[.agg (cdRow r.1).toArray, .int .i64 r.2] := rfl
theorem dRow_one (l : List Dd) : ∀ u ∈ dRow l, u.oneCell' = true := by
 intro u hu
 simp only [dRow, List.mem_flatten, List.mem_map] at hu
 obtain ⟨_, ⟨d, _, rfl⟩, h⟩ := hu
 simp only [ddRow, List.mem_cons, List.not_mem_nil, or_false] at h
 rcases h with rfl | rfl | rfl <;> rfl
structure ShAt (w : World) (g gm : Nat) (s : ShS) (da : Option Addr) (dc : Nat) : Prop where
 c1 : w.cell? ⟨g, 1, none⟩ = some (.map (some gm))
 c2 : w.cell? ⟨g, 2, none⟩ = some (.slice da s.dead.length dc)
 im : IMap Tryz.prog 3 w gm s.m.length (cdM cdRow s.m)
 dl : Lst ddRow (fun _ => True) w da s.dead.length dc s.dead
theorem sget_any (g gm : Nat) (s : ShS) (da : Option Addr) (dc : Nat) (id : Int) (hid : I64 id) (w : World) (hA : ShAt w g gm s da dc) (hok : ShOk s) :
 Calls Tryz.prog 49 #[.pointer (some ⟨g, 0, none⟩), .int .i64 id] w fun e w' => e = .returned (sgV (s.get id)) ∧ Below w.heap.size w w' := by
 have hS := St.start w
 have ec := elem_card
 have hwk := wf_of_i64 hid
 obtain ⟨h1, h2, him, hdl⟩ := hA
 have cC := Lib.hid fun (B : Nat) (W : World) (hb : Below w.heap.size w W) (h : Boxed W B 3 (.int .i64 id)) => contd_any s.dead da s.dead.length dc id B rfl (by have := hok.dlen; omega) W (hdl.below hb).sl h
 have he : (cdM cdRow s.m id).getD (.agg (cdRow (Cd.none 0)).toArray) = .agg (cdRow (s.get id).1).toArray ∧ (cdM cdRow s.m id).isSome = decide ((s.get id).2 = 0) := by
  unfold cdM
  cases h : lookC s.m id with
  | none =>
   rw [get_none h]
   refine ⟨rfl, ?_⟩
   dsimp only
   split <;> rfl
  | some c =>
   rw [get_some h]
   exact ⟨rfl, rfl⟩
 obtain ⟨he1, he2⟩ := he
 have hE : (s.get id).2 = if decide ((s.get id).2 = 0) = true then 0 else if s.dead.any (fun d => decide (d.id = id)) = true then 9 else 6 := by
  cases h : lookC s.m id with
  | none =>
   rw [get_none h]
   dsimp only
   split <;> rfl
  | some c =>
   rw [get_some h]
   rfl
 have hZ : (decide ((s.get id).2 = 0) = false) → (s.get id).1 = Cd.none 0 := by
  intro hd
  cases h : lookC s.m id with
  | none => rw [get_none h]
  | some c =>
   rw [get_some h] at hd
   cases hd
 have hrl := cdRow_lenT _ (get_f hok id)
 have hro := cdRow_oneT (s.get id).1
 have hVt : decide ((s.get id).2 = 0) = true → sgV (s.get id) = .tuple #[.agg (cdRow (s.get id).1).toArray, .int .i64 0] := fun h => by rw [sgV_eq, of_decide_eq_true h]
 have hVf : decide ((s.get id).2 = 0) = false → sgV (s.get id) = .tuple #[.agg #[.int .i64 0, .int .i64 0, .int .u32 0, .int .i64 0, .int .i64 0, .string ⟨#[]⟩, .int .i64 0, .int .i64 0, .string ⟨#[]⟩, .int .i64 0, .int .i64 0, .string ⟨#[]⟩, .int .i64 0, .int .i64 0, .string ⟨#[]⟩, .int .i64 0, .int .i64 0, .string ⟨#[]⟩, .int .i64 0, .int .i64 0, .string ⟨#[]⟩, .int .i64 0, .int .i64 0, .string ⟨#[]⟩, .int .i64 0, .int .i64 0, .string ⟨#[]⟩], .int .i64 (if s.dead.any (fun d => decide (d.id = id)) = true then 9 else 6)] := fun h => by
  rw [h, if_neg (by decide)] at hE
  rw [sgV_eq, hZ h, hE]
  rfl
 have hsz : sizeB Tryz.prog 58 (cdRow (s.get id).1).toArray.size = true := by rw [List.size_toArray, hrl]; kernel_rfl
 have hrd : ((cdRow (s.get id).1).toArray.toList.drop 0).take 27 = cdRow (s.get id).1 := by simp [← hrl]
 replace him := Lib.hid him
 replace hid := Lib.hid hid
 replace hVt := Lib.hid hVt
 replace hVf := Lib.hid hVf
 clear hok hdl hE hZ
 generalize sgV (s.get id) = V at *
 generalize cdM cdRow s.m = M1 at *
 generalize cdRow (s.get id).1 = R at *
 generalize decide ((s.get id).2 = 0) = b at *
 generalize (s.dead.any fun d => decide (d.id = id)) = q at *
 generalize s.dead.length = dn at *
 go_enter Tryz.func49, Tryz.ntmps49
 go_wp2_with (first | (with_reducible refine wpList_box1_st hS rfl rfl rfl ?_; clear hS; intro g1 w1 hS) | (with_reducible refine al hS rfl rfl ?_; clear hS; intro g1 w1 hS))
 have kb := hS.kblk 1 rfl
 have k1 := hS.kold0 h1
 refine mixs_begin (by kernel_rfl) hS ?_
 clear hS
 intro w2 hS
 refine tk 0 ?_
 refine tk 1 ?_
 refine tk 2 ?_
 refine tk 3 ?_
 refine tk 4 ?_
 refine mixs_two 5 9 (by kernel_rfl) rfl rfl (fun K hK => ?_) (fun K hK => ?_)
 ·
  ((refine op_lookok_im (k := 3) (by kernel_rfl) (him.out.below hS.below) rfl rfl rfl Tryz.underlying3 Tryz.underlying99 zero_card hwk ?_; rw [he1, he2]))
  try clear hC
  refine cl hK (fun hC => ?_)
  clear hK K
  refine tk 6 ?_
  refine tk 7 ?_
  refine tk 8 ?_
  refine mixs_one 9 (by kernel_rfl) rfl (fun K hK => ?_)
  refine op_alloc_st (by kernel_rfl) rfl (by assumption) hS ?_
  clear hS; intro g1 w1 hS
  try clear hC
  refine cl hK (fun hC => ?_)
  clear hK K
  refine mixs_one 10 (by kernel_rfl) rfl (fun K hK => ?_)
  ((refine op_storerow_st (vs := R) (n := 27) (by kernel_rfl) 0 hS rfl rfl rfl (by kernel_rfl) rfl hrl hro rfl ?_; clear hS; intro w1 hS; try simp only [List.set_cons_zero, List.set_cons_succ, List.setIfInBounds_toArray, List.take_succ_cons, List.take_zero, List.drop_succ_cons, List.drop_zero, List.nil_append, List.cons_append, List.append_nil, List.drop_nil, List.take_nil, List.length_cons, List.length_nil, Nat.zero_add, Nat.add_zero, Nat.reduceAdd] at hS))
  try clear hC
  refine cl hK (fun hC => ?_)
  clear hK K
  refine tk 11 ?_
  refine wpAnyH_done (by kernel_rfl) ?_ _
  clear kb k1
  cases b
  · replace hVf := Lib.hid (hVf.out (by trivial))
    clear hVt
    have c2 := hS.old h2 (by simp)
    cases q
    ·
     go_wp2_with (first | (go_at_call 90; (with_reducible refine (cC.out _ _ hS.below (hS.get 2 rfl)).mono ?_); rintro _ w9 ⟨rfl, hk9⟩; replace hS := hS.keepB hk9; clear hk9) | ((with_reducible refine wpList_storerow_st (t := 58) (n := 27) (vs := [.int .i64 0, .int .i64 0, .int .u32 0, .int .i64 0, .int .i64 0, .string ⟨#[]⟩, .int .i64 0, .int .i64 0, .string ⟨#[]⟩, .int .i64 0, .int .i64 0, .string ⟨#[]⟩, .int .i64 0, .int .i64 0, .string ⟨#[]⟩, .int .i64 0, .int .i64 0, .string ⟨#[]⟩, .int .i64 0, .int .i64 0, .string ⟨#[]⟩, .int .i64 0, .int .i64 0, .string ⟨#[]⟩, .int .i64 0, .int .i64 0, .string ⟨#[]⟩]) 1 hS rfl rfl rfl rfl (by kernel_rfl) rfl rfl rfl (by kernel_rfl) ?_); clear hS; intro w1 hS; try simp only [List.set_cons_zero, List.set_cons_succ, List.setIfInBounds_toArray, List.take_succ_cons, List.take_zero, List.drop_succ_cons, List.drop_zero, List.nil_append, List.cons_append, List.append_nil, List.drop_nil, List.take_nil, List.length_cons, List.length_nil, Nat.zero_add, Nat.add_zero, Nat.reduceAdd] at hS))
     rw [hVf.out]
     exact bodyPost_ret (v := .tuple #[.agg #[.int .i64 0, .int .i64 0, .int .u32 0, .int .i64 0, .int .i64 0, .string ⟨#[]⟩, .int .i64 0, .int .i64 0, .string ⟨#[]⟩, .int .i64 0, .int .i64 0, .string ⟨#[]⟩, .int .i64 0, .int .i64 0, .string ⟨#[]⟩, .int .i64 0, .int .i64 0, .string ⟨#[]⟩, .int .i64 0, .int .i64 0, .string ⟨#[]⟩, .int .i64 0, .int .i64 0, .string ⟨#[]⟩, .int .i64 0, .int .i64 0, .string ⟨#[]⟩], .int .i64 6]) (results_blk_tmp Tryz.results49 rfl hS 1 rfl (by kernel_rfl) (by kernel_rfl) rfl) rfl ⟨rfl, hS.below⟩
    ·
     go_wp2_with (first | (go_at_call 90; (with_reducible refine (cC.out _ _ hS.below (hS.get 2 rfl)).mono ?_); rintro _ w9 ⟨rfl, hk9⟩; replace hS := hS.keepB hk9; clear hk9) | ((with_reducible refine wpList_storerow_st (t := 58) (n := 27) (vs := [.int .i64 0, .int .i64 0, .int .u32 0, .int .i64 0, .int .i64 0, .string ⟨#[]⟩, .int .i64 0, .int .i64 0, .string ⟨#[]⟩, .int .i64 0, .int .i64 0, .string ⟨#[]⟩, .int .i64 0, .int .i64 0, .string ⟨#[]⟩, .int .i64 0, .int .i64 0, .string ⟨#[]⟩, .int .i64 0, .int .i64 0, .string ⟨#[]⟩, .int .i64 0, .int .i64 0, .string ⟨#[]⟩, .int .i64 0, .int .i64 0, .string ⟨#[]⟩]) 1 hS rfl rfl rfl rfl (by kernel_rfl) rfl rfl rfl (by kernel_rfl) ?_); clear hS; intro w1 hS; try simp only [List.set_cons_zero, List.set_cons_succ, List.setIfInBounds_toArray, List.take_succ_cons, List.take_zero, List.drop_succ_cons, List.drop_zero, List.nil_append, List.cons_append, List.append_nil, List.drop_nil, List.take_nil, List.length_cons, List.length_nil, Nat.zero_add, Nat.add_zero, Nat.reduceAdd] at hS))
     rw [hVf.out]
     exact bodyPost_ret (v := .tuple #[.agg #[.int .i64 0, .int .i64 0, .int .u32 0, .int .i64 0, .int .i64 0, .string ⟨#[]⟩, .int .i64 0, .int .i64 0, .string ⟨#[]⟩, .int .i64 0, .int .i64 0, .string ⟨#[]⟩, .int .i64 0, .int .i64 0, .string ⟨#[]⟩, .int .i64 0, .int .i64 0, .string ⟨#[]⟩, .int .i64 0, .int .i64 0, .string ⟨#[]⟩, .int .i64 0, .int .i64 0, .string ⟨#[]⟩, .int .i64 0, .int .i64 0, .string ⟨#[]⟩], .int .i64 9]) (results_blk_tmp Tryz.results49 rfl hS 1 rfl (by kernel_rfl) (by kernel_rfl) rfl) rfl ⟨rfl, hS.below⟩
  · replace hVt := Lib.hid (hVt.out (by trivial))
    clear hVf
    go_wp2_with (first | ((with_reducible refine wpList_loadrow_st (t := 58) (n := 27) (j := 0) (vs := R) 0 hS rfl rfl rfl rfl (by kernel_rfl) (by kernel_rfl) hrd hrl ?_)) | ((with_reducible refine wpList_storerow_st (t := 58) (n := 27) (vs := R) 1 hS rfl rfl rfl rfl (by kernel_rfl) rfl hrl hro (by kernel_rfl) ?_); clear hS; intro w1 hS; try simp only [List.set_cons_zero, List.set_cons_succ, List.setIfInBounds_toArray, List.take_succ_cons, List.take_zero, List.drop_succ_cons, List.drop_zero, List.nil_append, List.cons_append, List.append_nil, List.drop_nil, List.take_nil, List.length_cons, List.length_nil, Nat.zero_add, Nat.add_zero, Nat.reduceAdd] at hS))
    rw [hVt.out]
    exact bodyPost_ret (v := .tuple #[.agg R.toArray, .int .i64 0]) (results_blk_tmp Tryz.results49 rfl hS 1 rfl (by kernel_rfl) hsz rfl) rfl ⟨rfl, hS.below⟩
 ·
  refine op_alloc_st (by kernel_rfl) rfl (by assumption) hS ?_
  clear hS; intro g1 w1 hS
  try clear hC
  refine cl hK (fun hC => ?_)
  clear hK K
  refine mixs_one 5 (by kernel_rfl) rfl (fun K hK => ?_)
  ((refine op_lookok_im (k := 3) (by kernel_rfl) (him.out.below hS.below) rfl rfl rfl Tryz.underlying3 Tryz.underlying99 zero_card hwk ?_; rw [he1, he2]))
  try clear hC
  refine cl hK (fun hC => ?_)
  clear hK K
  refine tk 6 ?_
  refine tk 7 ?_
  refine tk 8 ?_
  refine mixs_one 10 (by kernel_rfl) rfl (fun K hK => ?_)
  ((refine op_storerow_st (vs := R) (n := 27) (by kernel_rfl) 0 hS rfl rfl rfl (by kernel_rfl) rfl hrl hro rfl ?_; clear hS; intro w1 hS; try simp only [List.set_cons_zero, List.set_cons_succ, List.setIfInBounds_toArray, List.take_succ_cons, List.take_zero, List.drop_succ_cons, List.drop_zero, List.nil_append, List.cons_append, List.append_nil, List.drop_nil, List.take_nil, List.length_cons, List.length_nil, Nat.zero_add, Nat.add_zero, Nat.reduceAdd] at hS))
  try clear hC
  refine cl hK (fun hC => ?_)
  clear hK K
  refine tk 11 ?_
  refine wpAnyH_done (by kernel_rfl) ?_ _
  clear kb k1
  cases b
  · replace hVf := Lib.hid (hVf.out (by trivial))
    clear hVt
    have c2 := hS.old h2 (by simp)
    cases q
    ·
     go_wp2_with (first | (go_at_call 90; (with_reducible refine (cC.out _ _ hS.below (hS.get 2 rfl)).mono ?_); rintro _ w9 ⟨rfl, hk9⟩; replace hS := hS.keepB hk9; clear hk9) | ((with_reducible refine wpList_storerow_st (t := 58) (n := 27) (vs := [.int .i64 0, .int .i64 0, .int .u32 0, .int .i64 0, .int .i64 0, .string ⟨#[]⟩, .int .i64 0, .int .i64 0, .string ⟨#[]⟩, .int .i64 0, .int .i64 0, .string ⟨#[]⟩, .int .i64 0, .int .i64 0, .string ⟨#[]⟩, .int .i64 0, .int .i64 0, .string ⟨#[]⟩, .int .i64 0, .int .i64 0, .string ⟨#[]⟩, .int .i64 0, .int .i64 0, .string ⟨#[]⟩, .int .i64 0, .int .i64 0, .string ⟨#[]⟩]) 1 hS rfl rfl rfl rfl (by kernel_rfl) rfl rfl rfl (by kernel_rfl) ?_); clear hS; intro w1 hS; try simp only [List.set_cons_zero, List.set_cons_succ, List.setIfInBounds_toArray, List.take_succ_cons, List.take_zero, List.drop_succ_cons, List.drop_zero, List.nil_append, List.cons_append, List.append_nil, List.drop_nil, List.take_nil, List.length_cons, List.length_nil, Nat.zero_add, Nat.add_zero, Nat.reduceAdd] at hS))
     rw [hVf.out]
     exact bodyPost_ret (v := .tuple #[.agg #[.int .i64 0, .int .i64 0, .int .u32 0, .int .i64 0, .int .i64 0, .string ⟨#[]⟩, .int .i64 0, .int .i64 0, .string ⟨#[]⟩, .int .i64 0, .int .i64 0, .string ⟨#[]⟩, .int .i64 0, .int .i64 0, .string ⟨#[]⟩, .int .i64 0, .int .i64 0, .string ⟨#[]⟩, .int .i64 0, .int .i64 0, .string ⟨#[]⟩, .int .i64 0, .int .i64 0, .string ⟨#[]⟩, .int .i64 0, .int .i64 0, .string ⟨#[]⟩], .int .i64 6]) (results_blk_tmp Tryz.results49 rfl hS 1 rfl (by kernel_rfl) (by kernel_rfl) rfl) rfl ⟨rfl, hS.below⟩
    ·
     go_wp2_with (first | (go_at_call 90; (with_reducible refine (cC.out _ _ hS.below (hS.get 2 rfl)).mono ?_); rintro _ w9 ⟨rfl, hk9⟩; replace hS := hS.keepB hk9; clear hk9) | ((with_reducible refine wpList_storerow_st (t := 58) (n := 27) (vs := [.int .i64 0, .int .i64 0, .int .u32 0, .int .i64 0, .int .i64 0, .string ⟨#[]⟩, .int .i64 0, .int .i64 0, .string ⟨#[]⟩, .int .i64 0, .int .i64 0, .string ⟨#[]⟩, .int .i64 0, .int .i64 0, .string ⟨#[]⟩, .int .i64 0, .int .i64 0, .string ⟨#[]⟩, .int .i64 0, .int .i64 0, .string ⟨#[]⟩, .int .i64 0, .int .i64 0, .string ⟨#[]⟩, .int .i64 0, .int .i64 0, .string ⟨#[]⟩]) 1 hS rfl rfl rfl rfl (by kernel_rfl) rfl rfl rfl (by kernel_rfl) ?_); clear hS; intro w1 hS; try simp only [List.set_cons_zero, List.set_cons_succ, List.setIfInBounds_toArray, List.take_succ_cons, List.take_zero, List.drop_succ_cons, List.drop_zero, List.nil_append, List.cons_append, List.append_nil, List.drop_nil, List.take_nil, List.length_cons, List.length_nil, Nat.zero_add, Nat.add_zero, Nat.reduceAdd] at hS))
     rw [hVf.out]
     exact bodyPost_ret (v := .tuple #[.agg #[.int .i64 0, .int .i64 0, .int .u32 0, .int .i64 0, .int .i64 0, .string ⟨#[]⟩, .int .i64 0, .int .i64 0, .string ⟨#[]⟩, .int .i64 0, .int .i64 0, .string ⟨#[]⟩, .int .i64 0, .int .i64 0, .string ⟨#[]⟩, .int .i64 0, .int .i64 0, .string ⟨#[]⟩, .int .i64 0, .int .i64 0, .string ⟨#[]⟩, .int .i64 0, .int .i64 0, .string ⟨#[]⟩, .int .i64 0, .int .i64 0, .string ⟨#[]⟩], .int .i64 9]) (results_blk_tmp Tryz.results49 rfl hS 1 rfl (by kernel_rfl) (by kernel_rfl) rfl) rfl ⟨rfl, hS.below⟩
  · replace hVt := Lib.hid (hVt.out (by trivial))
    clear hVf
    go_wp2_with (first | ((with_reducible refine wpList_loadrow_st (t := 58) (n := 27) (j := 0) (vs := R) 0 hS rfl rfl rfl rfl (by kernel_rfl) (by kernel_rfl) hrd hrl ?_)) | ((with_reducible refine wpList_storerow_st (t := 58) (n := 27) (vs := R) 1 hS rfl rfl rfl rfl (by kernel_rfl) rfl hrl hro (by kernel_rfl) ?_); clear hS; intro w1 hS; try simp only [List.set_cons_zero, List.set_cons_succ, List.setIfInBounds_toArray, List.take_succ_cons, List.take_zero, List.drop_succ_cons, List.drop_zero, List.nil_append, List.cons_append, List.append_nil, List.drop_nil, List.take_nil, List.length_cons, List.length_nil, Nat.zero_add, Nat.add_zero, Nat.reduceAdd] at hS))
    rw [hVt.out]
    exact bodyPost_ret (v := .tuple #[.agg R.toArray, .int .i64 0]) (results_blk_tmp Tryz.results49 rfl hS 1 rfl (by kernel_rfl) hsz rfl) rfl ⟨rfl, hS.below⟩
end Go.Proofs.YtneolmnpebiifaaGreatDoor
end
section
namespace Go.Proofs.YtneolmnpebiifaaGreatDoor
open Go.RowKit Go.Ofp
set_option maxHeartbeats 4000000
theorem csorted_sh {w0 w : World} {F : List Nat} {L : List Ch} (i : Nat) {B b n : Nat} {f : Int → Option Value} (hS : St w0 F L w) (hi : L[i]? = some (Ch.blk B 99 #[.map (some b)])) (hk : IMap Tryz.prog 3 w b n f) (hn : n ≤ 100000) :
 Calls Tryz.prog 65 #[.func (.func 110) #[] #[.pointer (some ⟨B, 0, none⟩)]] w fun e w' => ∃ v ks, e = .returned v ∧ Hid (IsKeys f ks) ∧ Hid (ks.length ≤ n) ∧ St w [] [Ch.row 3 1 v ks.length (ks.map vi)] w' :=
 (csorted_any B b n f w (by rw [hS.cell i hi]; rfl) hk hn).mono fun e w' ⟨v, ks, h1, h2, h3, h4, h5⟩ => ⟨v, ks, h1, Lib.hid h2, Lib.hid h3, (St.start w).freshB h4 h5⟩
theorem scards_any (g gm n : Nat) (M : List Cd) (w : World) (h6 : w.cell? ⟨g, 1, none⟩ = some (.map (some gm))) (him : IMap Tryz.prog 3 w gm n (cdM cdRow M)) (hr : RisC M) (hok : ∀ c ∈ M, CdOk c) (hn : n ≤ 50000) :
 Calls Tryz.prog 35 #[.pointer (some ⟨g, 0, none⟩)] w fun e w' => ∃ a c, e = .returned (.slice a M.length c) ∧ St w [] [Ch.row 58 27 (.slice a M.length c) M.length (M.map cdRow).flatten] w' := by
 have hS := St.start w
 have ec := elem_card
 have cK := Lib.hid fun (mb : Option Nat) (W : World) => ckeys_st mb W
 replace him := Lib.hid him
 replace hr := Lib.hid hr
 replace hok := Lib.hid hok
 have hq2 : n ≤ 100000 := by omega
 go_enter Tryz.func35, Tryz.ntmps35
 go_wp2_with (first | (go_at_call 66; (with_reducible refine (cK.out _ _).mono ?_); rintro _ w3 ⟨B, rfl, hk3⟩; have hS1 := hS.made hk3; clear hS hk3; have hS : St w [] [Ch.blk B 99 #[.map (some gm)]] w3 := hS1; clear hS1) | (go_at_call 65; (with_reducible refine (csorted_sh 0 hS rfl (him.out.below hS.below) hq2).mono ?_); rintro _ w4 ⟨vk, ks, rfl, hks, hkl, hk4⟩; obtain ⟨ak, ck, rfl, -⟩ := hk4.row 0 rfl; have hS1 := hS.made hk4; clear hS hk4; have hS : St w [] [Ch.row 3 1 (.slice ak ks.length ck) ks.length (ks.map vi), Ch.blk B 99 #[.map (some gm)]] w4 := hS1; clear hS1))
 have hki := Lib.hid (cdM_keys hr.out (fun c hc => wf_of_i64 (hok.out c hc).id) hks.out)
 have hkM := Lib.hid (show ks.length = M.length by rw [hki.out, List.length_map])
 have hS1 := hS.drop1.nilrow 58 27
 clear hS
 have hS := hS1
 clear hS1
 go_loopg [3, 15] ks.length (fun gk vo vx wr => ∃ (z : Nat) (ao : Option Addr) (co : Nat), z + gk = ks.length ∧ vx = .int .i64 z ∧ vo = .slice ao z co ∧ St w [] [Ch.row 58 27 (.slice ao z co) z ((M.take z).map cdRow).flatten, Ch.row 3 1 (.slice ak ks.length ck) ks.length (ks.map vi)] wr)
 case atStart => exact ⟨0, none, 0, Nat.zero_add _, rfl, rfl, hS⟩
 case round =>
  clear hS
  obtain ⟨z, ao, co, hz, rfl, rfl, hS⟩ := hrel
  by_cases hlt : z < ks.length
  · obtain ⟨bk, ok, rfl, hck⟩ := sl_int (hS.rowsl 1 rfl) z hlt
    have hzM : z < M.length := by rw [← hkM.out]; exact hlt
    have hkz : ks[z] = M[z].id := by
     have := hki.out
     subst this
     simp
    have he1 := cdM_at (row := cdRow) hr.out (List.getElem_mem hzM)
    rw [← hkz] at he1
    have hwk : (Lit.int .i64 ks[z]).wf = true := by rw [hkz]; exact wf_of_i64 (hok.out _ (List.getElem_mem hzM)).id
    have hil : (cdRow M[z]).length = 27 := cdRow_lenT _ (hok.out _ (List.getElem_mem hzM)).f
    have hio1 := cdRow_oneT M[z]
    have hz1 : z ≤ 60000 := by have := hkl.out; omega
    have hnx : ((M.take (z + 1)).map cdRow).flatten = ((M.take z).map cdRow).flatten ++ cdRow M[z] := by rw [List.take_succ_eq_append_getElem hzM, List.map_append, List.flatten_append]; rw [List.map_cons, List.map_nil, List.flatten_cons, List.flatten_nil, List.append_nil]
    replace hnx := Lib.hid hnx
    have c6 := hS.old h6 (by simp)
    generalize cdM cdRow M = M1 at *
    clear hkz
    generalize cdRow M[z] = RI at *
    go_wp2_with (first | ((with_reducible refine wpList_look_im (k := 3) (him.out.below hS.below) rfl rfl rfl rfl Tryz.underlying3 Tryz.underlying99 zero_card hwk ?_); rw [he1]; simp only [Option.getD_some]) | (refine wpList_of_op fun K hK => op_build1_st (by with_unfolding_all rfl) hS rfl Tryz.underlying27 ec (cs := RI.toArray) rfl (by simp [hil]) (by decide) ?_; intro g3 w3 hS1; refine hK _ _ ?_; clear hK hS; have hS := hS1; clear hS1) | ((with_reducible refine wpList_app_st (news := RI) (m := 1) 1 hS rfl rfl rfl Tryz.underlying27 ec rfl (Src.slice Tryz.underlying27 (hS.blksl2 0 rfl) (by simp [hil])) rfl (fun u hu => List.all_eq_true.1 hio1 u hu) (by omega) (by unfold maxLen; omega) ?_); intro v6 w6 hS1; clear hS; simp only [List.set_cons_zero, List.set_cons_succ] at hS1; obtain ⟨a6, c6', rfl, -⟩ := hS1.row 1 rfl; have hS := hS1; clear hS1))
    go_roundg (ks.length - (z + 1))
    case measure => omega
    case rel => exact ⟨z + 1, a6, c6', by omega, by go_num, rfl, by rw [hnx.out]; exact hS.drop⟩
  · have hzk : z = M.length := by rw [← hkM.out]; omega
    have e : M.take z = M := List.take_of_length_le (by omega)
    rw [e] at hS
    go_wp2_with fail
    go_ret
    rw [hzk] at hS ⊢
    exact ⟨_, _, rfl, hS.one 0 rfl⟩
theorem dclone_any {In : Dd → Prop} (a : Option Addr) (l : List Dd) (n c : Nat) (w : World) (hl : Lst ddRow In w a n c l) (hm : n ≤ 100000) :
 Calls Tryz.prog 67 #[.slice a n c] w fun e w' => ∃ a' c', e = .returned (.slice a' n c') ∧ St w [] [Ch.row 91 3 (.slice a' n c') n (dRow l)] w' := by
 have hS := St.start w
 have he := fun (W : World) (a : Option Addr) (n c : Nat) => Lib.run_eql_slice_nil (P := Tryz.prog) W 28 91 a n c 0 0 Tryz.underlying28
 have h1 := dRow_one l
 have hn : (dRow l).length = n * 3 := by rw [dRow_len, hl.len]
 have hs := Lib.hid hl.sl
 replace hn := Lib.hid hn
 cases a with
 | some ad =>
  clear hl
  go_enter Tryz.func67, Tryz.ntmps67
  go_wp2_with (first | ((with_reducible refine wpList_build0_st hS rfl rfl Tryz.underlying28 elem_dd ?_); clear hS; intro g1 w3 hS) | (at_builtin; ((with_reducible refine wpList_app_st 0 hS rfl rfl rfl Tryz.underlying28 elem_dd rfl (Src.slice Tryz.underlying28 (hS.sl hs.out) hn.out) rfl h1 (by omega) (by unfold maxLen; omega) ?_); intro v5 w3 hS1; clear hS; simp only [List.set_cons_zero, Nat.zero_add, List.nil_append] at hS1; have hS := hS1; clear hS1; obtain ⟨a5, c5, rfl, -⟩ := hS.row 0 rfl)))
  go_ret
  exact ⟨_, _, rfl, hS⟩
 | none =>
  have hl0 : l = [] := by
   by_cases h : l = []
   · exact h
   · obtain ⟨b, off, e⟩ := hs.out.cells (by intro e; have := congrArg List.length e; have := List.length_pos_iff.2 h; rw [dRow_len] at *; simp at *; omega)
     cases e
  subst hl0
  have hn0 := hl.len
  simp at hn0
  subst hn0
  clear hl hn hs h1
  go_enter Tryz.func67, Tryz.ntmps67
  go_wp2_with fail
  go_ret
  exact ⟨_, _, rfl, hS.nilrow 91 3⟩
theorem sdead_any {In : Dd → Prop} (g : Nat) (l : List Dd) (a : Option Addr) (n c : Nat) (w : World) (h2 : w.cell? ⟨g, 2, none⟩ = some (.slice a n c)) (hl : Lst ddRow In w a n c l) (hm : n ≤ 100000) :
 Calls Tryz.prog 36 #[.pointer (some ⟨g, 0, none⟩)] w fun e w' => ∃ a' c', e = .returned (.slice a' n c') ∧ St w [] [Ch.row 91 3 (.slice a' n c') n (dRow l)] w' := by
 have hS := St.start w
 have cC := Lib.hid (dclone_any a l n c w hl hm)
 clear hl
 go_enter Tryz.func36, Tryz.ntmps36
 go_wp2_with (go_at_call 67; (with_reducible refine cC.out.mono ?_); rintro _ w9 ⟨a9, c9, rfl, hk9⟩; clear hS; have hS := hk9)
 go_ret
 exact ⟨_, _, rfl, hS⟩
end Go.Proofs.YtneolmnpebiifaaGreatDoor
end
section
namespace Go.Ofp
def keepD (q : Int) (l : List Dd) : List Dd := l.filter fun d => decide (q < d.seq)
theorem keepD_next (l : List Dd) (q : Int) (k : Nat) (hk : k < l.length) : keepD q (l.take (k + 1)) = keepD q (l.take k) ++ if q < l[k].seq then [l[k]] else [] := by
 unfold keepD
 rw [List.take_succ_eq_append_getElem hk, List.filter_append]
 congr 1
 by_cases h : q < l[k].seq <;> simp [h]
structure KeptD (l xs : List Dd) (q : Int) (i k : Nat) : Prop where
 len : xs.length = l.length
 le : i < k
 cnt : i = (keepD q (l.take k)).length
 fst : xs.take i = keepD q (l.take k)
 rest : xs.drop k = l.drop k
theorem KeptD.at {l xs : List Dd} {q : Int} {i k : Nat} (h : KeptD l xs q i k) (hk : k < l.length) : ∃ hx : k < xs.length, xs[k] = l[k] := by
 have hx : k < xs.length := by rw [h.len]; exact hk
 refine ⟨hx, ?_⟩
 have := congrArg (fun q => q[0]?) h.rest
 simpa [List.getElem?_eq_getElem hx, List.getElem?_eq_getElem hk] using this
theorem KeptD.skip {l xs : List Dd} {q : Int} {i k : Nat} (h : KeptD l xs q i k) (hk : k < l.length) (he : ¬ q < l[k].seq) : KeptD l xs q i (k + 1) := by
 have := keepD_next l q k hk
 rw [if_neg he, List.append_nil] at this
 refine ⟨h.len, by have := h.le; omega, by rw [this]; exact h.cnt, by rw [this]; exact h.fst, ?_⟩
 rw [← List.drop_drop, ← List.drop_drop, h.rest]
theorem KeptD.take {l xs : List Dd} {q : Int} {i k : Nat} (h : KeptD l xs q i k) (hk : k < l.length) (he : q < l[k].seq) : KeptD l (xs.take i ++ l[k] :: xs.drop (i + 1)) q (i + 1) (k + 1) := by
 have h1 := keepD_next l q k hk
 rw [if_pos he] at h1
 have hlen := h.len
 have hle := h.le
 have hti : (xs.take i).length = i := by rw [List.length_take]; omega
 refine ⟨by simp; omega, by omega, by rw [h1, List.length_append, ← h.cnt]; rfl, ?_, ?_⟩
 · rw [h1, ← h.fst, List.take_append, hti, Nat.add_sub_cancel_left, List.take_of_length_le (by rw [hti]; omega)]
   rfl
 · have hr : xs.drop (k + 1) = l.drop (k + 1) := by rw [← List.drop_drop, ← List.drop_drop, h.rest]
   rw [← hr, List.drop_append, hti, List.drop_eq_nil_of_le (by rw [hti]; omega), List.nil_append]
   rw [show k + 1 - i = (k - i) + 1 by omega, List.drop_succ_cons, List.drop_drop]
   congr 1
   omega
theorem KeptD.first {l : List Dd} {q : Int} {k : Nat} (hk : k < l.length) (he : ¬ q < l[k].seq) (hr : ∀ d ∈ l.take k, q < d.seq) : KeptD l l q k (k + 1) := by
 have h1 := keepD_next l q k hk
 rw [if_neg he, List.append_nil] at h1
 have h2 : keepD q (l.take k) = l.take k := List.filter_eq_self.2 fun d hd => by simpa using hr d hd
 exact ⟨rfl, by omega, by rw [h1, h2, List.length_take]; omega, by rw [h1, h2], rfl⟩
def FirstD (l : List Dd) (q r : Int) : Prop := (r = -1 ∧ ∀ d ∈ l, q < d.seq) ∨ (∃ k, ∃ h : k < l.length, r = k ∧ ¬ q < l[k].seq ∧ ∀ d ∈ l.take k, q < d.seq)
end Go.Ofp
namespace Go.Proofs.YtneolmnpebiifaaGreatDoor
open Go.RowKit Go.Ofp
set_option maxHeartbeats 4000000
theorem strim1_any (d : Dd) (B : Nat) (q : Int) (w : World) (hb : Boxed w B 3 (.int .i64 q)) :
 Calls Tryz.prog 97 #[.agg (ddRow d).toArray, .pointer (some ⟨B, 0, none⟩)] w fun e w' => e = .returned (.bool (decide (d.seq ≤ q))) ∧ Below w.heap.size w w' := by
 have hS := St.start w
 have hc := hb.cell
 obtain ⟨di, dv, dq⟩ := d
 simp only [ddRow]
 go_enter Tryz.func97, Tryz.ntmps97
 go_wp2_with (first | (with_reducible refine wpList_box_st (L := []) hS rfl rfl rfl ?_; clear hS; intro g w1 hS; have hc2 := hS.old hc (by simp); clear hc) | ((with_reducible refine wpList_load_st 0 hS rfl rfl rfl rfl ?_ rfl ?_); focus (simp [scalarB, go_sem]; done)))
 go_ret
 exact ⟨rfl, hS.below⟩
theorem idxt_any (l : List Dd) (a : Option Addr) (n cap : Nat) (q : Int) (B : Nat) (hn : l.length = n) (hn1 : n ≤ 1000) (w : World) (hs : Sl w a (dRow l)) (hb : Boxed w B 3 (.int .i64 q)) :
 Calls Tryz.prog 138 #[.slice a n cap, .func (.func 97) #[] #[.pointer (some ⟨B, 0, none⟩)]] w fun e w' => (∃ r : Int, e = .returned (.int .i64 r) ∧ FirstD l q r) ∧ Below w.heap.size w w' := by
 have hS := St.start w
 have cD := Lib.hid (fun (d : Dd) (W : World) (h : Boxed W B 3 (.int .i64 q)) => strim1_any d B q W h)
 have lt := (Array.getElem?_eq_some_iff.1 hb).1
 replace hb := Lib.hid hb
 replace hs := Lib.hid hs
 replace hn := Lib.hid hn
 go_enter Tryz.func138, Tryz.ntmps138
 go_wp2_with fail
 go_loopg [8] n (fun gk vx wr => ∃ k : Nat, k + gk = n ∧ vx = .int .i64 k ∧ Hid (∀ d ∈ l.take k, q < d.seq) ∧ St w [] [] wr)
 case atStart => exact ⟨0, Nat.zero_add _, rfl, Lib.hid (by simp), hS⟩
 case round =>
  clear hS
  obtain ⟨k, hkn, rfl, hr, hS⟩ := hrel
  by_cases hlt : k < n
  · have hkl : k < l.length := by rw [hn.out]; exact hlt
    have q1 := dRow_at l k hkl
    have q8 := ddRow_len l[k]
    obtain ⟨g2, o2, ha⟩ := Sl.cells hs.out (by intro e; have := congrArg List.length e; rw [dRow_len l] at this; simp at this; omega)
    subst ha
    have hrg := sl_range (hS.sl hs.out) q1
    have hbr : Boxed wr B 3 (.int .i64 q) := (hS.below.block B lt).trans hb.out
    have cX := cD.out l[k] wr hbr
    by_cases he : q < l[k].seq
    · rw [decide_eq_false (by omega)] at cX
      have hnx : ∀ d ∈ l.take (k + 1), q < d.seq := by
       intro d hd
       rw [List.take_succ_eq_append_getElem hkl, List.mem_append] at hd
       rcases hd with hd | hd
       · exact hr.out d hd
       · simp at hd; subst hd; exact he
      replace hnx := Lib.hid hnx
      replace cX := Lib.hid cX
      generalize ddRow l[k] = RW at *
      clear he
      go_wp2_with (first | (go_at_call 97; (with_reducible refine cX.out.mono ?_); rintro _ w9 ⟨rfl, hk9⟩; replace hS := hS.keepB hk9; clear hk9) | ((with_reducible refine wpList_rangerow (t := 91) (n := 3) hrg rfl rfl rfl (by kernel_rfl) (by kernel_rfl) q8 ?_)))
      go_roundg (n - (k + 1))
      case measure => omega
      case rel => exact ⟨k + 1, by omega, by go_num, hnx, hS⟩
    · rw [decide_eq_true (by omega)] at cX
      replace he := Lib.hid he
      replace cX := Lib.hid cX
      generalize ddRow l[k] = RW at *
      go_wp2_with (first | (go_at_call 97; (with_reducible refine cX.out.mono ?_); rintro _ w9 ⟨rfl, hk9⟩; replace hS := hS.keepB hk9; clear hk9) | ((with_reducible refine wpList_rangerow (t := 91) (n := 3) hrg rfl rfl rfl (by kernel_rfl) (by kernel_rfl) q8 ?_)))
      go_ret
      exact ⟨⟨k, rfl, .inr ⟨k, hkl, rfl, by have := he.out; omega, hr.out⟩⟩, hS.below⟩
  · obtain rfl : k = n := by omega
    have hr2 := hr.out
    rw [List.take_of_length_le (by rw [hn.out]; exact Nat.le_refl _)] at hr2
    replace hr2 := Lib.hid hr2
    clear hr
    go_wp2_with fail
    go_ret
    exact ⟨⟨-1, rfl, .inl ⟨rfl, hr2.out⟩⟩, hS.below⟩
theorem dRow_take (l : List Dd) (k : Nat) (hk : k ≤ l.length) : (dRow l).take (k * 3) = dRow (l.take k) := by
 have h1 : dRow l = dRow (l.take k) ++ dRow (l.drop k) := by rw [dRow, dRow, dRow, ← List.flatten_append, ← List.map_append, List.take_append_drop]
 have h2 : (dRow (l.take k)).length = k * 3 := by rw [dRow_len, List.length_take, Nat.min_eq_left hk]
 rw [h1, List.take_append_of_le_length (by rw [h2]; exact Nat.le_refl _), List.take_of_length_le (by rw [h2]; exact Nat.le_refl _)]
theorem dRow_drop (l : List Dd) (k : Nat) (hk : k ≤ l.length) : (dRow l).drop (k * 3) = dRow (l.drop k) := by
 have h1 : dRow l = dRow (l.take k) ++ dRow (l.drop k) := by rw [dRow, dRow, dRow, ← List.flatten_append, ← List.map_append, List.take_append_drop]
 have h2 : (dRow (l.take k)).length = k * 3 := by rw [dRow_len, List.length_take, Nat.min_eq_left hk]
 rw [h1, List.drop_append_of_le_length (by rw [h2]; exact Nat.le_refl _), List.drop_eq_nil_of_le (by rw [h2]; exact Nat.le_refl _), List.nil_append]
theorem dRow_put (l : List Dd) (k : Nat) (hk : k < l.length) (x : Dd) : (dRow l).take (k * 3) ++ ddRow x ++ (dRow l).drop (k * 3 + 3) = dRow (l.take k ++ x :: l.drop (k + 1)) := by
 rw [dRow_take l k (by omega), show k * 3 + 3 = (k + 1) * 3 by omega, dRow_drop l (k + 1) (by omega)]
 simp [dRow]
theorem ddRow_one (x : Dd) : (ddRow x).all Value.oneCell' = true := rfl
theorem ddel_none (l : List Dd) (a : Option Addr) (n c : Nat) (q : Int) (B : Nat) (hn : l.length = n) (hn1 : n ≤ 1000) (w : World) (hs : Sl w a (dRow l)) (hb : Boxed w B 3 (.int .i64 q)) (hk : ∀ d ∈ l, q < d.seq) :
 Calls Tryz.prog 96 #[.slice a n c, .func (.func 97) #[] #[.pointer (some ⟨B, 0, none⟩)]] w fun e w' => e = .returned (.slice a n c) ∧ Below w.heap.size w w' := by
 have hS := St.start w
 have cI : Calls Tryz.prog 138 #[.slice a n c, .func (.func 97) #[] #[.pointer (some ⟨B, 0, none⟩)]] w (fun e w' => e = .returned (.int .i64 (-1)) ∧ Below w.heap.size w w') := by
  refine (idxt_any l a n c q B hn hn1 w hs hb).mono ?_
  rintro e w' ⟨⟨r, rfl, hr⟩, hbel⟩
  refine ⟨?_, hbel⟩
  rcases hr with ⟨rfl, -⟩ | ⟨k, hkl, -, hr, -⟩
  · rfl
  · exact absurd (hk _ (List.getElem_mem hkl)) hr
 replace cI := Lib.hid cI
 clear hs hb hk
 go_enter Tryz.func96, Tryz.ntmps96
 go_wp2_with (go_at_call 138; (with_reducible refine cI.out.mono ?_); rintro _ w9 ⟨rfl, hk9⟩; replace hS := hS.keepB hk9; clear hk9)
 go_ret
 exact ⟨rfl, hS.below⟩
theorem ddel_some (l : List Dd) (g n c : Nat) (q : Int) (B : Nat) (hn : l.length = n) (hn1 : n ≤ 1000) (w : World) (hb : Boxed w B 3 (.int .i64 q)) (hBg : B ≠ g) (h : St w [g] [Ch.row 91 3 (.slice (some ⟨g, 0, none⟩) n c) n (dRow l)] w) (k0 : Nat) (hk0 : k0 < l.length) (hk1 : ¬ q < l[k0].seq) (hk2 : ∀ d ∈ l.take k0, q < d.seq) :
 Calls Tryz.prog 96 #[.slice (some ⟨g, 0, none⟩) n c, .func (.func 97) #[] #[.pointer (some ⟨B, 0, none⟩)]] w fun e w' => e = .returned (.slice (some ⟨g, 0, none⟩) (keepD q l).length c) ∧ St w [g] [Ch.row 91 3 (.slice (some ⟨g, 0, none⟩) (keepD q l).length c) (keepD q l).length (dRow (keepD q l))] w' := by
 have hS := h
 have lt := (Array.getElem?_eq_some_iff.1 hb).1
 have ew := elem_dd
 have cD := Lib.hid (fun (d : Dd) (W : World) (h : Boxed W B 3 (.int .i64 q)) => strim1_any d B q W h)
 have cI : Calls Tryz.prog 138 #[.slice (some ⟨g, 0, none⟩) n c, .func (.func 97) #[] #[.pointer (some ⟨B, 0, none⟩)]] w (fun e w' => e = .returned (.int .i64 k0) ∧ Below w.heap.size w w') := by
  refine (idxt_any l (some ⟨g, 0, none⟩) n c q B hn hn1 w (hS.rowsl 0 rfl) hb).mono ?_
  rintro e w' ⟨⟨r, rfl, hr⟩, hbel⟩
  refine ⟨?_, hbel⟩
  rcases hr with ⟨-, hr⟩ | ⟨k, hk, rfl, h3, h4⟩
  · exact absurd (hr _ (List.getElem_mem hk0)) hk1
  · have : k = k0 := by
     rcases Nat.lt_trichotomy k k0 with h5 | h5 | h5
     · exact absurd (hk2 l[k] (by rw [List.mem_take_iff_getElem]; exact ⟨k, by omega, rfl⟩)) h3
     · exact h5
     · exact absurd (h4 l[k0] (by rw [List.mem_take_iff_getElem]; exact ⟨k0, by omega, rfl⟩)) hk1
    rw [this]
 replace cI := Lib.hid cI
 have hK0 := Lib.hid (KeptD.first hk0 hk1 hk2)
 obtain ⟨_, _, e9, -, -, hnc, hcm⟩ := hS.row 0 rfl
 cases e9
 have hn0' : k0 < n := by omega
 replace hb := Lib.hid hb
 replace hn := Lib.hid hn
 clear h hk1 hk2
 go_enter Tryz.func96, Tryz.ntmps96
 go_wp2_with (go_at_call 138; (with_reducible refine cI.out.mono ?_); rintro _ w9 ⟨rfl, hk9⟩; replace hS := hS.keepB hk9; clear hk9)
 go_loopg [5, 6] (n - (k0 + 1)) (fun gk vi vk wr => ∃ (i k : Nat) (xs : List Dd), k + gk = n ∧ vi = .int .i64 i ∧ vk = .int .i64 k ∧ Hid (KeptD l xs q i k) ∧ k ≤ n ∧ St w [g] [Ch.row 91 3 (.slice (some ⟨g, 0, none⟩) n c) n (dRow xs)] wr)
 case atStart => exact ⟨k0, k0 + 1, l, by omega, rfl, by go_num, hK0, by omega, hS⟩
 case round =>
  clear hS cI
  obtain ⟨i, k, xs, hkn, rfl, rfl, hK, hkn2, hS⟩ := hrel
  have hik := hK.out.le
  have hxl : xs.length = n := hK.out.len.trans hn.out
  replace hxl := Lib.hid hxl
  by_cases hlt : k < n
  · have hkl : k < l.length := by rw [hn.out]; exact hlt
    obtain ⟨hkx, hxk⟩ := hK.out.at hkl
    have q1 := dRow_at xs k hkx
    rw [hxk] at q1
    have q8 := ddRow_len l[k]
    have q9 := ddRow_one l[k]
    have hput := dRow_put xs i (by rw [hxl.out]; omega) l[k]
    have cX := fun (W : World) (h : W.heap[B]? = w.heap[B]?) => cD.out l[k] W (h.trans hb.out)
    have hps : sizeB Tryz.prog 91 (ddRow l[k]).toArray.size = true := by rw [List.size_toArray, q8]; kernel_rfl
    have hFB : B ∉ [g] := by simpa using hBg
    by_cases he : q < l[k].seq
    · have hK2 := Lib.hid (hK.out.take hkl he)
      have hdd : decide (l[k].seq ≤ q) = false := decide_eq_false (by omega)
      rw [hdd] at cX
      replace cX := Lib.hid cX
      generalize l[k] = lk at *
      replace hput := Lib.hid hput
      generalize ddRow lk = RW at *
      clear he hK hdd
      go_wp2_with (first | (go_at_call 97; (with_reducible refine (cX.out _ (hS.fr.block B lt hFB)).mono ?_); rintro _ w9 ⟨rfl, hk9⟩; replace hS := hS.keepB hk9; clear hk9) | ((with_reducible refine wpList_loadelem_st 0 k hS rfl rfl rfl rfl rfl (by kernel_rfl) (by kernel_rfl) q1 q8 ?_)) | (with_reducible refine wpList_alloc_st (L := [_]) hS rfl rfl ew ?_; clear hS; intro gp w1 hS) | ((with_reducible refine wpList_storerow_st (n := 3) (vs := RW) 0 hS rfl rfl rfl rfl (by kernel_rfl) rfl q8 q9 (by kernel_rfl) ?_); clear hS; intro w1 hS; simp only [List.set_cons_zero, List.take_zero, List.nil_append, List.drop_succ_cons, List.drop_zero, List.drop_nil, List.append_nil] at hS) | ((with_reducible refine wpList_loadall_st 0 hS rfl rfl rfl rfl ?_ hps ?_); focus (simp [rowB, go_sem]; done)) | ((with_reducible refine wpList_storeelem_st 1 i hS rfl rfl rfl rfl rfl (by kernel_rfl) rfl q8 q9 (by omega) ?_); clear hS; intro w1 hS; simp only [List.set_cons_zero, List.set_cons_succ] at hS))
      go_roundg (n - (k + 1))
      case measure => omega
      case rel => exact ⟨i + 1, k + 1, _, by omega, by go_num, by go_num, hK2, by omega, by rw [hput.out] at hS; first | exact hS.drop | exact hS⟩
    · have hK2 := Lib.hid (hK.out.skip hkl he)
      have hdd : decide (l[k].seq ≤ q) = true := decide_eq_true (by omega)
      rw [hdd] at cX
      replace cX := Lib.hid cX
      generalize ddRow l[k] = RW at *
      clear hput he hK hdd
      go_wp2_with (first | (go_at_call 97; (with_reducible refine (cX.out _ (hS.fr.block B lt hFB)).mono ?_); rintro _ w9 ⟨rfl, hk9⟩; replace hS := hS.keepB hk9; clear hk9) | ((with_reducible refine wpList_loadelem_st 0 k hS rfl rfl rfl rfl rfl (by kernel_rfl) (by kernel_rfl) q1 q8 ?_)) | (with_reducible refine wpList_alloc_st (L := [_]) hS rfl rfl ew ?_; clear hS; intro gp w1 hS) | ((with_reducible refine wpList_storerow_st (n := 3) (vs := RW) 0 hS rfl rfl rfl rfl (by kernel_rfl) rfl q8 q9 (by kernel_rfl) ?_); clear hS; intro w1 hS; simp only [List.set_cons_zero, List.take_zero, List.nil_append, List.drop_succ_cons, List.drop_zero, List.drop_nil, List.append_nil] at hS) | ((with_reducible refine wpList_loadall_st 0 hS rfl rfl rfl rfl ?_ hps ?_); focus (simp [rowB, go_sem]; done)))
      go_roundg (n - (k + 1))
      case measure => omega
      case rel => exact ⟨i, k + 1, xs, by omega, rfl, by go_num, hK2, by omega, by first | exact hS.drop | exact hS⟩
  · obtain rfl : k = n := by omega
    have hcnt := hK.out.cnt
    have hfst := hK.out.fst
    have htk : l.take k = l := List.take_of_length_le (by rw [hn.out]; exact Nat.le_refl _)
    rw [htk] at hcnt hfst
    clear htk hK
    obtain ⟨cur, z1, z2, -, -, hS2⟩ := hS.rowblk
    clear hS
    have hS := hS2
    clear hS2
    have hz1 : ∀ u ∈ (Value.agg #[.int .i64 0, .int .i64 0, .int .i64 0]).cells, u.oneCell' = true := by
     intro u hu
     simp only [Value.cells] at hu
     have key : ([.int .i64 0, .int .i64 0, .int .i64 0] : List Value).all Value.oneCell' = true := by rfl
     exact List.all_eq_true.1 key u (by simpa using hu)
    have hcs : i * 3 + (k - i) * 3 ≤ cur.size := by
     rw [z1]
     have : k * 3 ≤ c * 3 := Nat.mul_le_mul_right _ hnc
     omega
    replace hz1 := Lib.hid hz1
    replace hcs := Lib.hid hcs
    replace z1 := Lib.hid z1
    replace z2 := Lib.hid z2
    replace hcnt := Lib.hid hcnt
    replace hfst := Lib.hid hfst
    go_wp2_with ((with_reducible refine wpList_clearblk_st 0 (off := i * 3) (n := k - i) hS rfl rfl rfl Tryz.underlying28 ew hz1.out rfl hcs.out (by omega) ?_); intro w1 cs' y1 y2 hS1; clear hS; have hS := hS1; clear hS1; simp only [List.set_cons_zero] at hS)
    go_ret
    rw [← hcnt.out]
    refine ⟨rfl, ?_⟩
    have hq := dRow_take xs i (by rw [hxl.out]; omega)
    rw [hfst.out] at hq
    refine hS.blkrow2 3 (y1.trans z1.out) (by omega) hcm ?_
    rw [y2, ← hq, ← z2.out, List.take_take, Nat.min_eq_left (by omega)]
end Go.Proofs.YtneolmnpebiifaaGreatDoor
end
section
namespace Go.Proofs.YtneolmnpebiifaaGreatDoor
open Go.RowKit Go.Ofp
structure Tab (w : World) : Prop where
 lt : 0 < w.heap.size
 sl : Sl w (some ⟨0, 0, none⟩) (tzTab.map vb)
theorem Tab.fr {F : List Nat} {w W : World} (h : Tab w) (k : Fr F w W) (hF : 0 ∉ F) : Tab W :=
 ⟨Nat.lt_of_lt_of_le h.lt k.size, fun q hq => by
  obtain ⟨b, off, e, hc⟩ := h.sl q hq
  cases e
  refine ⟨_, _, rfl, ?_⟩
  rw [World.cell?_of_block (k.block _ h.lt hF)]
  exact hc⟩
theorem Tab.below {w W : World} (h : Tab w) (k : Below w.heap.size w W) : Tab W := h.fr (Fr.of_below k) (by simp)
end Go.Proofs.YtneolmnpebiifaaGreatDoor
end
