/- Texts laid together: Root2 Root3 ArrEq Reader RefReader Reads. -/
import Derived.ChangeKeysEq
import Derived.Test.YtlhpibniecfofaaM1
import Derived.Test.YtlhpibniecfofaaM2
import Derived.Test.YtlhpibniecfofaaM3
import Derived.Test.YtlhpibniecfofaaM4
section
/- Roots: their sectors. -/
set_option linter.unusedSimpArgs false
set_option linter.unusedVariables false
namespace Go.Proofs.Ytlhpibniecfofaa
open Go.RowKit Go.Ofp
set_option linter.unusedVariables false
set_option maxRecDepth 100000
set_option maxHeartbeats 4000000

def zeros (n : Nat) : List UInt8 := List.replicate n 0
theorem elem_sector : Elem Try.prog 130 (.agg ((zeros 64).map vb).toArray) 64 64 := Elem.mk (by kernel_rfl) (by rfl) (by decide)
theorem word_front (z : Value) : True := trivial

theorem laid_front (l : List UInt8) (h : l.length ≤ 60) : ((((zeros 64).map vb).toArray.toList.take 0 ++ l.map vb ++ ((zeros 64).map vb).toArray.toList.drop (0 + l.length)).toArray : Array Value) = ((l ++ zeros (60 - l.length) ++ zeros 4).map vb).toArray := by
  have e : zeros 64 = zeros l.length ++ (zeros (60 - l.length) ++ zeros 4) := by
    unfold zeros
    rw [List.replicate_append_replicate, List.replicate_append_replicate]
    congr 1
    omega
  simp only [List.take_zero, List.nil_append, Nat.zero_add]
  rw [e]
  simp [zeros]

theorem of_root (x : Rt) (w : World) : Calls Try.prog 76 #[.agg #[.int .i64 x.seq, .int .i64 x.life, .int .i64 x.head]] w fun e w' => e = .returned (.agg (x.secB.map vb).toArray) ∧ Below w.heap.size w w' := by
  have hS := St.start w
  have es := elem_sector
  have eb : Elem Try.prog 5 (.int .u8 0) 1 1 := elem_u8
  generalize hz : ((zeros 64).map vb).toArray = z64 at es
  have hz0 := hz
  obtain ⟨c1, hc1⟩ : ∃ c, clampN x.seq = c := ⟨_, rfl⟩
  obtain ⟨c2, hc2⟩ : ∃ c, clampN x.life = c := ⟨_, rfl⟩
  obtain ⟨c3, hc3⟩ : ∃ c, clampN x.head = c := ⟨_, rfl⟩
  have l1 := numB_six c1 (hc1 ▸ clampN_le _)
  have l2 := numB_six c2 (hc2 ▸ clampN_le _)
  have l3 := numB_six c3 (hc3 ▸ clampN_le _)
  have n1 := fun (a : Option Addr) cap W h hc => num_any a [114, 111, 111, 116] 4 cap x.seq W rfl h (by omega) hc
  have n2 := fun (a : Option Addr) m cap W hm h hl hc => num_any a ([114, 111, 111, 116] ++ numB c1) m cap x.life W hm h hl hc
  have n3 := fun (a : Option Addr) m cap W hm h hl hc => num_any a ([114, 111, 111, 116] ++ numB c1 ++ numB c2) m cap x.head W hm h hl hc
  rw [hc1] at n1
  rw [hc2] at n2
  rw [hc3] at n3
  obtain ⟨F1, hF1⟩ : ∃ l, [114, 111, 111, 116] ++ numB c1 = l := ⟨_, rfl⟩
  obtain ⟨F2, hF2⟩ : ∃ l, F1 ++ numB c2 = l := ⟨_, rfl⟩
  obtain ⟨F3, hF3⟩ : ∃ l, F2 ++ numB c3 = l := ⟨_, rfl⟩
  rw [hF1] at n1 n2 n3
  rw [hF2] at n2 n3
  rw [hF3] at n3
  have m1 : 4 + (numB c1).length = F1.length := by rw [← hF1]; simp; omega
  have m2 : F1.length + (numB c2).length = F2.length := by rw [← hF2]; simp
  have m3 : F2.length + (numB c3).length = F3.length := by rw [← hF3]; simp
  rw [m1] at n1
  have hfr : F3 = x.front := by rw [← hF3, ← hF2, ← hF1, ← hc1, ← hc2, ← hc3]; rfl
  have hlf := x.front_length
  rw [← hfr] at hlf
  have hbody : x.body = F3 ++ zeros (60 - F3.length) := by rw [hfr]; rfl
  have hbl := x.body_length
  have hlaid := laid_front F3 (by omega)
  rw [hz, ← hbody] at hlaid
  have hsl := x.secB_length
  have hseal := fun (a : Option Addr) cap W h => seal_any a x.body cap W h (by omega)
  rw [show sealed x.body = x.secB from rfl, hbl] at hseal
  have hall : ((z64.toList.take 0 ++ x.secB.map vb ++ z64.toList.drop (0 + 64)).toArray : Array Value) = (x.secB.map vb).toArray := by
    rw [← hz]
    simp [zeros]
  have hsz64 : z64.size = 64 := by rw [← hz]; simp [zeros]
  have hbt : ((x.body ++ zeros 4).map vb).take 60 = x.body.map vb := by rw [List.map_append, List.take_left' (by simp [hbl])]
  have hbuild : ∀ W : World, (Instr.buildSlice 127 4 [(0, Value.int .u8 114), (1, .int .u8 111), (2, .int .u8 111), (3, .int .u8 116)].toArray).run Try.prog W = .ok (.slice (some ⟨W.heap.size, 0, none⟩) 4 4) (W.alloc (.cells (List.map vb [114, 111, 111, 116]).toArray 5)) := fun W => by kernel_rfl
  replace n2 := fun (a : Option Addr) cap W h hc => n2 a F1.length cap W rfl h (by omega) hc
  replace n3 := fun (a : Option Addr) cap W h hc => n3 a F2.length cap W rfl h (by omega) hc
  rw [m2] at n2
  rw [m3] at n3
  replace hseal : ∀ (a : Option Addr) (cap : Nat) (W : World), Sl W a (x.body.map vb) → Calls Try.prog 98 #[.slice a 60 cap] W fun e w' => ∃ v, e = .returned v ∧ w'.ownsRow W.heap.size 5 1 v 64 (x.secB.map vb) ∧ Below W.heap.size W w' := hseal
  have hrow : rowB Try.prog 130 = true := by simp [rowB, go_sem]
  have hszs : sizeB Try.prog 130 (x.secB.map vb).toArray.size = true := by rw [List.size_toArray, List.length_map, hsl]; kernel_rfl
  have hone := vb_one x.secB
  have hone3 := vb_one F3
  have hsl2 : (x.secB.map vb).length = 64 := by rw [List.length_map, hsl]
  have hpre : ∀ (W : World) (a : Option Addr), Sl W a ((x.body ++ zeros 4).map vb) → Sl W a (x.body.map vb) := by
    intro W a h i hi
    rw [List.map_append] at h
    obtain ⟨b, off, e, hc⟩ := h i (by simp at hi ⊢; omega)
    exact ⟨b, off, e, by rw [hc, List.getElem_append_left (by simpa using hi)]⟩
  generalize x.secB = SB at *
  generalize hB : x.body = B at *
  have hone' : (SB.map vb).all Value.oneCell' = true := List.all_eq_true.2 hone
  have hsd : (Try.prog.info? 130).map (·.size) = some (SB.map vb).toArray.size := by
    rw [List.size_toArray, hsl2]
    kernel_rfl
  clear hF1 hF2 hF3 m1 m2 m3 l1 l2 l3 hc1 hc2 hc3 hz hz0 hfr hbody hB hbt
  replace n1 := Lib.hid n1
  replace n2 := Lib.hid n2
  replace n3 := Lib.hid n3
  replace hseal := Lib.hid hseal
  replace hlaid := Lib.hid hlaid
  replace hall := Lib.hid hall
  replace hpre := Lib.hid hpre
  replace hbuild := Lib.hid hbuild
  replace hone3 := Lib.hid hone3
  replace hone := Lib.hid hone
  replace hone' := Lib.hid hone'
  replace hsl2 := Lib.hid hsl2
  replace hbl := Lib.hid hbl
  replace hsl := Lib.hid hsl
  replace hszs := Lib.hid hszs
  replace hsd := Lib.hid hsd
  replace hsz64 := Lib.hid hsz64
  have hF3l : Hid ((F3.map vb).length = F3.length) := Lib.hid (List.length_map _)
  have hble : Nat.ble (0 + 64) z64.size = true := by rw [hsz64.out]; rfl
  replace hble := Lib.hid hble
  go_enter Try.func76, Try.ntmps76
  go_wp2_with (first | (with_reducible refine wpList_box_st hS rfl rfl rfl ?_; intro g1 w1 hS1; clear hS; replace hS := hS1; clear hS1) | (with_reducible refine wpList_box1_st hS rfl rfl rfl ?_; intro g1 w1 hS1; clear hS; replace hS := hS1; clear hS1) | (with_reducible refine wpList_alloc_st hS rfl rfl (by assumption) ?_; intro g1 w1 hS1; clear hS; replace hS := hS1; clear hS1) | (with_reducible refine wpList_alloc1_st hS rfl rfl (by assumption) rfl ?_; intro g1 w1 hS1; clear hS; replace hS := hS1; clear hS1) | ((with_reducible refine wpList_load_st 0 hS rfl rfl rfl rfl ?_ rfl ?_); focus (simp [scalarB, go_sem]; done)) | ((with_reducible refine wpList_loadall_st 0 hS rfl rfl rfl rfl ?_ (by kernel_rfl) ?_); focus (simp [rowB, go_sem]; done)) | ((with_reducible refine wpList_store_st 0 hS rfl rfl rfl rfl (by kernel_rfl) rfl rfl ?_); intro w1 hS1; clear hS; replace hS := hS1; clear hS1; try simp only [List.set_cons_zero, List.set_cons_succ, List.setIfInBounds_toArray, List.take_succ_cons, List.take_zero, List.drop_succ_cons, List.drop_zero, List.nil_append, List.cons_append, List.append_nil, List.drop_nil, List.take_nil, List.length_cons, List.length_nil, Nat.zero_add, Nat.add_zero, Nat.reduceAdd] at hS) | ((with_reducible refine wpList_storerow_st 0 hS rfl rfl rfl rfl (by kernel_rfl) rfl rfl rfl rfl ?_); intro w1 hS1; clear hS; replace hS := hS1; clear hS1; try simp only [List.set_cons_zero, List.set_cons_succ, List.setIfInBounds_toArray, List.take_succ_cons, List.take_zero, List.drop_succ_cons, List.drop_zero, List.nil_append, List.cons_append, List.append_nil, List.drop_nil, List.take_nil, List.length_cons, List.length_nil, Nat.zero_add, Nat.add_zero, Nat.reduceAdd] at hS))
  refine mixs_beginC 1 (by kernel_rfl) hS rfl ?_
  clear hS
  intro w2 hS hC
  have kC := hC.kblk 0 rfl
  refine mixs_take 2 (v := ?_) rfl (by kernel_rfl) (fun _ _ _ h => h) (by kernel_rfl) (by assumption) (fun s => ?hy) ?_; case hy => (go_simp <;> with_reducible rfl)
  try simp only [List.getElem_toArray, List.getElem_cons_succ, List.getElem_cons_zero, Act.put, List.setIfInBounds_toArray, List.set_cons_zero, List.set_cons_succ]
  refine mixs_take 3 (v := ?_) rfl (by kernel_rfl) (fun _ _ _ h => h) (by kernel_rfl) (by assumption) (fun s => ?hy) ?_; case hy => (go_simp <;> with_reducible rfl)
  try simp only [List.getElem_toArray, List.getElem_cons_succ, List.getElem_cons_zero, Act.put, List.setIfInBounds_toArray, List.set_cons_zero, List.set_cons_succ]
  refine mixs_take 5 (v := ?_) rfl (by kernel_rfl) (fun _ _ _ h => h) (by kernel_rfl) (by assumption) (fun s => ?hy) ?_; case hy => (go_simp <;> with_reducible rfl)
  try simp only [List.getElem_toArray, List.getElem_cons_succ, List.getElem_cons_zero, Act.put, List.setIfInBounds_toArray, List.set_cons_zero, List.set_cons_succ]
  refine mixs_take 6 (v := ?_) rfl (by kernel_rfl) (fun _ _ _ h => h) (by kernel_rfl) (by assumption) (fun s => ?hy) ?_; case hy => (go_simp <;> with_reducible rfl)
  try simp only [List.getElem_toArray, List.getElem_cons_succ, List.getElem_cons_zero, Act.put, List.setIfInBounds_toArray, List.set_cons_zero, List.set_cons_succ]
  refine mixs_take 8 (v := ?_) rfl (by kernel_rfl) (fun _ _ _ h => h) (by kernel_rfl) (by assumption) (fun s => ?hy) ?_; case hy => (go_simp <;> with_reducible rfl)
  try simp only [List.getElem_toArray, List.getElem_cons_succ, List.getElem_cons_zero, Act.put, List.setIfInBounds_toArray, List.set_cons_zero, List.set_cons_succ]
  refine mixs_take 9 (v := ?_) rfl (by kernel_rfl) (fun _ _ _ h => h) (by kernel_rfl) (by assumption) (fun s => ?hy) ?_; case hy => (go_simp <;> with_reducible rfl)
  try simp only [List.getElem_toArray, List.getElem_cons_succ, List.getElem_cons_zero, Act.put, List.setIfInBounds_toArray, List.set_cons_zero, List.set_cons_succ]
  refine mixs_one 0 (by kernel_rfl) rfl (fun K hK => ?_)
  ( first | (refine op_buildr_st (by kernel_rfl) hS hbuild.out rfl rfl ?_; intro g5 w3 hS1; clear hS; have hS := hS1; clear hS1) | (refine op_same_st (by kernel_rfl) 0 hS rfl rfl Try.underlying127 Try.underlying5 rfl ?_; intro w4 hS1; clear hS; have hS : St w [] (Ch.read g5 (List.map vb [114, 111, 111, 116]) :: _) w4 := hS1; clear hS1) | (go_at_call 97; (with_reducible refine (n1.out _ _ _ (hS.readsl 0 rfl) (by omega)).mono ?_); rintro _ w5 ⟨v5, rfl, ho5, hb5⟩; have hS1 := hS.freshB ho5 hb5; clear hS ho5 hb5; have hS := hS1; clear hS1; obtain ⟨a5, c5, rfl, -, -, hcap5, -⟩ := hS.row 0 rfl) | (go_at_call 97; (with_reducible refine (n2.out _ _ _ (hS.rowsl 0 rfl) hcap5).mono ?_); rintro _ w6 ⟨v6, rfl, ho6, hb6⟩; have hS1 := hS.freshB ho6 hb6; clear hS ho6 hb6; have hS := hS1; clear hS1; obtain ⟨a6, c6, rfl, -, -, hcap6, -⟩ := hS.row 0 rfl) | (go_at_call 97; (with_reducible refine (n3.out _ _ _ (hS.rowsl 0 rfl) hcap6).mono ?_); rintro _ w7 ⟨v7, rfl, ho7, hb7⟩; have hS1 := hS.freshB ho7 hb7; clear hS ho7 hb7; have hS := hS1; clear hS1; obtain ⟨a7, c7, rfl, -, -, hcap7, -⟩ := hS.row 0 rfl) )
  try clear hC
  refine hK.out _ _ _ (fun _ h => h) (by first | exact hS | exact hS.drop | exact hS.drop.drop | exact hS.drop.drop.drop | exact hS.drop.drop.drop.drop | exact hS.empty | exact hS.one 0 rfl | exact hS.one 1 rfl | exact hS.one 2 rfl | exact hS.one 3 rfl | exact hS.one 4 rfl | exact hS.one 5 rfl | exact hS.one 6 rfl | exact hS.one 7 rfl | exact hS.one 8 rfl | exact hS.one 9 rfl | exact hS.one 10 rfl | exact hS.one 11 rfl) (fun hC => ?_)
  clear hK K
  try simp only [List.getElem_toArray, List.getElem_cons_succ, List.getElem_cons_zero, Act.put, List.setIfInBounds_toArray, List.set_cons_zero, List.set_cons_succ]
  refine mixs_one 1 (by kernel_rfl) rfl (fun K hK => ?_)
  ( first | (refine op_buildr_st (by kernel_rfl) hS hbuild.out rfl rfl ?_; intro g5 w3 hS1; clear hS; have hS := hS1; clear hS1) | (refine op_same_st (by kernel_rfl) 0 hS rfl rfl Try.underlying127 Try.underlying5 rfl ?_; intro w4 hS1; clear hS; have hS : St w [] (Ch.read g5 (List.map vb [114, 111, 111, 116]) :: _) w4 := hS1; clear hS1) | (go_at_call 97; (with_reducible refine (n1.out _ _ _ (hS.readsl 0 rfl) (by omega)).mono ?_); rintro _ w5 ⟨v5, rfl, ho5, hb5⟩; have hS1 := hS.freshB ho5 hb5; clear hS ho5 hb5; have hS := hS1; clear hS1; obtain ⟨a5, c5, rfl, -, -, hcap5, -⟩ := hS.row 0 rfl) | (go_at_call 97; (with_reducible refine (n2.out _ _ _ (hS.rowsl 0 rfl) hcap5).mono ?_); rintro _ w6 ⟨v6, rfl, ho6, hb6⟩; have hS1 := hS.freshB ho6 hb6; clear hS ho6 hb6; have hS := hS1; clear hS1; obtain ⟨a6, c6, rfl, -, -, hcap6, -⟩ := hS.row 0 rfl) | (go_at_call 97; (with_reducible refine (n3.out _ _ _ (hS.rowsl 0 rfl) hcap6).mono ?_); rintro _ w7 ⟨v7, rfl, ho7, hb7⟩; have hS1 := hS.freshB ho7 hb7; clear hS ho7 hb7; have hS := hS1; clear hS1; obtain ⟨a7, c7, rfl, -, -, hcap7, -⟩ := hS.row 0 rfl) )
  try clear hC
  refine hK.out _ _ _ (fun _ h => h) (by first | exact hS | exact hS.drop | exact hS.drop.drop | exact hS.drop.drop.drop | exact hS.drop.drop.drop.drop | exact hS.empty | exact hS.one 0 rfl | exact hS.one 1 rfl | exact hS.one 2 rfl | exact hS.one 3 rfl | exact hS.one 4 rfl | exact hS.one 5 rfl | exact hS.one 6 rfl | exact hS.one 7 rfl | exact hS.one 8 rfl | exact hS.one 9 rfl | exact hS.one 10 rfl | exact hS.one 11 rfl) (fun hC => ?_)
  clear hK K
  try simp only [List.getElem_toArray, List.getElem_cons_succ, List.getElem_cons_zero, Act.put, List.setIfInBounds_toArray, List.set_cons_zero, List.set_cons_succ]
  refine mixs_one 4 (by kernel_rfl) rfl (fun K hK => ?_)
  go_simp
  ( first | (refine op_buildr_st (by kernel_rfl) hS hbuild.out rfl rfl ?_; intro g5 w3 hS1; clear hS; have hS := hS1; clear hS1) | (refine op_same_st (by kernel_rfl) 0 hS rfl rfl Try.underlying127 Try.underlying5 rfl ?_; intro w4 hS1; clear hS; have hS : St w [] (Ch.read g5 (List.map vb [114, 111, 111, 116]) :: _) w4 := hS1; clear hS1) | (go_at_call 97; (with_reducible refine (n1.out _ _ _ (hS.readsl 0 rfl) (by omega)).mono ?_); rintro _ w5 ⟨v5, rfl, ho5, hb5⟩; have hS1 := hS.freshB ho5 hb5; clear hS ho5 hb5; have hS := hS1; clear hS1; obtain ⟨a5, c5, rfl, -, -, hcap5, -⟩ := hS.row 0 rfl) | (go_at_call 97; (with_reducible refine (n2.out _ _ _ (hS.rowsl 0 rfl) hcap5).mono ?_); rintro _ w6 ⟨v6, rfl, ho6, hb6⟩; have hS1 := hS.freshB ho6 hb6; clear hS ho6 hb6; have hS := hS1; clear hS1; obtain ⟨a6, c6, rfl, -, -, hcap6, -⟩ := hS.row 0 rfl) | (go_at_call 97; (with_reducible refine (n3.out _ _ _ (hS.rowsl 0 rfl) hcap6).mono ?_); rintro _ w7 ⟨v7, rfl, ho7, hb7⟩; have hS1 := hS.freshB ho7 hb7; clear hS ho7 hb7; have hS := hS1; clear hS1; obtain ⟨a7, c7, rfl, -, -, hcap7, -⟩ := hS.row 0 rfl) )
  try clear hC
  refine hK.out _ _ _ (fun _ h => h) (by first | exact hS | exact hS.drop | exact hS.drop.drop | exact hS.drop.drop.drop | exact hS.drop.drop.drop.drop | exact hS.empty | exact hS.one 0 rfl | exact hS.one 1 rfl | exact hS.one 2 rfl | exact hS.one 3 rfl | exact hS.one 4 rfl | exact hS.one 5 rfl | exact hS.one 6 rfl | exact hS.one 7 rfl | exact hS.one 8 rfl | exact hS.one 9 rfl | exact hS.one 10 rfl | exact hS.one 11 rfl) (fun hC => ?_)
  clear hK K
  try simp only [List.getElem_toArray, List.getElem_cons_succ, List.getElem_cons_zero, Act.put, List.setIfInBounds_toArray, List.set_cons_zero, List.set_cons_succ]
  refine mixs_one 7 (by kernel_rfl) rfl (fun K hK => ?_)
  go_simp
  ( first | (refine op_buildr_st (by kernel_rfl) hS hbuild.out rfl rfl ?_; intro g5 w3 hS1; clear hS; have hS := hS1; clear hS1) | (refine op_same_st (by kernel_rfl) 0 hS rfl rfl Try.underlying127 Try.underlying5 rfl ?_; intro w4 hS1; clear hS; have hS : St w [] (Ch.read g5 (List.map vb [114, 111, 111, 116]) :: _) w4 := hS1; clear hS1) | (go_at_call 97; (with_reducible refine (n1.out _ _ _ (hS.readsl 0 rfl) (by omega)).mono ?_); rintro _ w5 ⟨v5, rfl, ho5, hb5⟩; have hS1 := hS.freshB ho5 hb5; clear hS ho5 hb5; have hS := hS1; clear hS1; obtain ⟨a5, c5, rfl, -, -, hcap5, -⟩ := hS.row 0 rfl) | (go_at_call 97; (with_reducible refine (n2.out _ _ _ (hS.rowsl 0 rfl) hcap5).mono ?_); rintro _ w6 ⟨v6, rfl, ho6, hb6⟩; have hS1 := hS.freshB ho6 hb6; clear hS ho6 hb6; have hS := hS1; clear hS1; obtain ⟨a6, c6, rfl, -, -, hcap6, -⟩ := hS.row 0 rfl) | (go_at_call 97; (with_reducible refine (n3.out _ _ _ (hS.rowsl 0 rfl) hcap6).mono ?_); rintro _ w7 ⟨v7, rfl, ho7, hb7⟩; have hS1 := hS.freshB ho7 hb7; clear hS ho7 hb7; have hS := hS1; clear hS1; obtain ⟨a7, c7, rfl, -, -, hcap7, -⟩ := hS.row 0 rfl) )
  try clear hC
  refine hK.out _ _ _ (fun _ h => h) (by first | exact hS | exact hS.drop | exact hS.drop.drop | exact hS.drop.drop.drop | exact hS.drop.drop.drop.drop | exact hS.empty | exact hS.one 0 rfl | exact hS.one 1 rfl | exact hS.one 2 rfl | exact hS.one 3 rfl | exact hS.one 4 rfl | exact hS.one 5 rfl | exact hS.one 6 rfl | exact hS.one 7 rfl | exact hS.one 8 rfl | exact hS.one 9 rfl | exact hS.one 10 rfl | exact hS.one 11 rfl) (fun hC => ?_)
  clear hK K
  try simp only [List.getElem_toArray, List.getElem_cons_succ, List.getElem_cons_zero, Act.put, List.setIfInBounds_toArray, List.set_cons_zero, List.set_cons_succ]
  refine mixs_one 10 (by kernel_rfl) rfl (fun K hK => ?_)
  go_simp
  ( first | (refine op_buildr_st (by kernel_rfl) hS hbuild.out rfl rfl ?_; intro g5 w3 hS1; clear hS; have hS := hS1; clear hS1) | (refine op_same_st (by kernel_rfl) 0 hS rfl rfl Try.underlying127 Try.underlying5 rfl ?_; intro w4 hS1; clear hS; have hS : St w [] (Ch.read g5 (List.map vb [114, 111, 111, 116]) :: _) w4 := hS1; clear hS1) | (go_at_call 97; (with_reducible refine (n1.out _ _ _ (hS.readsl 0 rfl) (by omega)).mono ?_); rintro _ w5 ⟨v5, rfl, ho5, hb5⟩; have hS1 := hS.freshB ho5 hb5; clear hS ho5 hb5; have hS := hS1; clear hS1; obtain ⟨a5, c5, rfl, -, -, hcap5, -⟩ := hS.row 0 rfl) | (go_at_call 97; (with_reducible refine (n2.out _ _ _ (hS.rowsl 0 rfl) hcap5).mono ?_); rintro _ w6 ⟨v6, rfl, ho6, hb6⟩; have hS1 := hS.freshB ho6 hb6; clear hS ho6 hb6; have hS := hS1; clear hS1; obtain ⟨a6, c6, rfl, -, -, hcap6, -⟩ := hS.row 0 rfl) | (go_at_call 97; (with_reducible refine (n3.out _ _ _ (hS.rowsl 0 rfl) hcap6).mono ?_); rintro _ w7 ⟨v7, rfl, ho7, hb7⟩; have hS1 := hS.freshB ho7 hb7; clear hS ho7 hb7; have hS := hS1; clear hS1; obtain ⟨a7, c7, rfl, -, -, hcap7, -⟩ := hS.row 0 rfl) )
  try clear hC
  refine hK.out _ _ _ (fun _ h => h) (by first | exact hS | exact hS.drop | exact hS.drop.drop | exact hS.drop.drop.drop | exact hS.drop.drop.drop.drop | exact hS.empty | exact hS.one 0 rfl | exact hS.one 1 rfl | exact hS.one 2 rfl | exact hS.one 3 rfl | exact hS.one 4 rfl | exact hS.one 5 rfl | exact hS.one 6 rfl | exact hS.one 7 rfl | exact hS.one 8 rfl | exact hS.one 9 rfl | exact hS.one 10 rfl | exact hS.one 11 rfl) (fun hC => ?_)
  clear hK K
  try simp only [List.getElem_toArray, List.getElem_cons_succ, List.getElem_cons_zero, Act.put, List.setIfInBounds_toArray, List.set_cons_zero, List.set_cons_succ]
  refine mixs_take 11 (v := ?_) rfl (by kernel_rfl) (fun _ _ _ h => h) (by kernel_rfl) (by assumption) (fun s => ?hy) ?_; case hy => (go_simp <;> with_reducible rfl)
  try simp only [List.getElem_toArray, List.getElem_cons_succ, List.getElem_cons_zero, Act.put, List.setIfInBounds_toArray, List.set_cons_zero, List.set_cons_succ]
  refine wpAnyH_done (by kernel_rfl) ?_ _
  try clear hC
  go_wp2_with (first
    | (with_reducible refine wpList_box_st hS rfl rfl rfl ?_; intro g1 w1 hS1; clear hS; replace hS := hS1; clear hS1) | (with_reducible refine wpList_box1_st hS rfl rfl rfl ?_; intro g1 w1 hS1; clear hS; replace hS := hS1; clear hS1) | (with_reducible refine wpList_alloc_st hS rfl rfl (by assumption) ?_; intro g1 w1 hS1; clear hS; replace hS := hS1; clear hS1) | (with_reducible refine wpList_alloc1_st hS rfl rfl (by assumption) rfl ?_; intro g1 w1 hS1; clear hS; replace hS := hS1; clear hS1)
    | ((with_reducible refine wpList_copysl_st 0 (xs := F3.map vb) hS rfl rfl rfl Try.underlying127 eb Try.underlying127 rfl rfl (hS.rowsl 2 rfl) hF3l.out hone3.out (by omega) (by rw [hsz64.out]; omega) ?_); intro w6 hS1; clear hS; simp only [List.set_cons_zero] at hS1; rw [hlaid.out] at hS1; have hS := hS1; clear hS1))
  simp only [Act.put, List.setIfInBounds_toArray, List.set_cons_zero, List.set_cons_succ]
  refine mixs_beginE (by kernel_rfl) hS ?_
  clear hS
  intro w7 hS hC
  refine mixs_take 0 (v := ?_) rfl (by kernel_rfl) (fun _ _ _ h => h) (by kernel_rfl) (by assumption) (fun s => ?hy) ?_; case hy => (go_simp <;> with_reducible rfl)
  try simp only [List.getElem_toArray, List.getElem_cons_succ, List.getElem_cons_zero, Act.put, List.setIfInBounds_toArray, List.set_cons_zero, List.set_cons_succ]
  refine mixs_take 1 (v := ?_) rfl (by kernel_rfl) (fun _ _ _ h => h) (by kernel_rfl) (by assumption) (fun s => ?hy) ?_; case hy => (go_simp <;> with_reducible rfl)
  try simp only [List.getElem_toArray, List.getElem_cons_succ, List.getElem_cons_zero, Act.put, List.setIfInBounds_toArray, List.set_cons_zero, List.set_cons_succ]
  refine mixs_one 2 (by kernel_rfl) rfl (fun K hK => ?_)
  go_simp
  ( first | (go_at_call 98; (with_reducible refine (hseal.out _ _ _ (hpre.out _ _ (hS.blksl2 0 rfl))).mono ?_); rintro _ w8 ⟨v8, rfl, ho8, hb8⟩; have hS1 := hS.freshB ho8 hb8; clear hS ho8 hb8; have hS := hS1; clear hS1; obtain ⟨a8, c8, rfl, -, -, hcap8, -⟩ := hS.row 0 rfl) | (refine op_copysl_st (by kernel_rfl) 2 (xs := SB.map vb) hS rfl rfl Try.underlying127 eb Try.underlying127 rfl rfl (hS.rowsl 0 rfl) hsl2.out hone.out (by omega) (by rw [hsz64.out]; omega) ?_; intro w9 hS1; clear hS; simp only [List.set_cons_succ, List.set_cons_zero] at hS1; rw [hall.out] at hS1; have hS := hS1; clear hS1) )
  try clear hC
  refine hK.out _ _ _ (fun _ h => h) (by first | exact hS | exact hS.drop | exact hS.drop.drop | exact hS.drop.drop.drop | exact hS.drop.drop.drop.drop | exact hS.empty | exact hS.one 0 rfl | exact hS.one 1 rfl | exact hS.one 2 rfl | exact hS.one 3 rfl | exact hS.one 4 rfl | exact hS.one 5 rfl | exact hS.one 6 rfl | exact hS.one 7 rfl | exact hS.one 8 rfl | exact hS.one 9 rfl | exact hS.one 10 rfl | exact hS.one 11 rfl) (fun hC => ?_)
  clear hK K
  try simp only [List.getElem_toArray, List.getElem_cons_succ, List.getElem_cons_zero, Act.put, List.setIfInBounds_toArray, List.set_cons_zero, List.set_cons_succ]
  refine mixs_one 3 (by kernel_rfl) rfl (fun K hK => ?_)
  ( first | (go_at_call 98; (with_reducible refine (hseal.out _ _ _ (hpre.out _ _ (hS.blksl2 0 rfl))).mono ?_); rintro _ w8 ⟨v8, rfl, ho8, hb8⟩; have hS1 := hS.freshB ho8 hb8; clear hS ho8 hb8; have hS := hS1; clear hS1; obtain ⟨a8, c8, rfl, -, -, hcap8, -⟩ := hS.row 0 rfl) | (refine op_copysl_st (by kernel_rfl) 2 (xs := SB.map vb) hS rfl rfl Try.underlying127 eb Try.underlying127 rfl rfl (hS.rowsl 0 rfl) hsl2.out hone.out (by omega) (by rw [hsz64.out]; omega) ?_; intro w9 hS1; clear hS; simp only [List.set_cons_succ, List.set_cons_zero] at hS1; rw [hall.out] at hS1; have hS := hS1; clear hS1) )
  try clear hC
  refine hK.out _ _ _ (fun _ h => h) (by first | exact hS | exact hS.drop | exact hS.drop.drop | exact hS.drop.drop.drop | exact hS.drop.drop.drop.drop | exact hS.empty | exact hS.one 0 rfl | exact hS.one 1 rfl | exact hS.one 2 rfl | exact hS.one 3 rfl | exact hS.one 4 rfl | exact hS.one 5 rfl | exact hS.one 6 rfl | exact hS.one 7 rfl | exact hS.one 8 rfl | exact hS.one 9 rfl | exact hS.one 10 rfl | exact hS.one 11 rfl) (fun hC => ?_)
  clear hK K
  try simp only [List.getElem_toArray, List.getElem_cons_succ, List.getElem_cons_zero, Act.put, List.setIfInBounds_toArray, List.set_cons_zero, List.set_cons_succ]
  refine wpAnyH_done (by kernel_rfl) ?_ _
  try clear hC
  go_wp2_with (first
    | (with_reducible refine wpList_loadall_st 2 hS rfl rfl rfl rfl hrow hszs.out ?_)
    | ((with_reducible refine wpList_storerow_st 7 (vs := SB.map vb) (n := 64) hS rfl rfl rfl rfl (by kernel_rfl) rfl hsl2.out hone'.out hble.out ?_); intro w10 hS1; clear hS; simp only [List.set_cons_succ, List.set_cons_zero] at hS1; rw [hall.out] at hS1; have hS := hS1; clear hS1))
  exact bodyPost_ret (results_cell_row rfl _ _ _ _ _ _ _ rfl (hS.get 7 rfl) Try.underlying130 rfl hsd.out) rfl ⟨rfl, hS.below⟩
end Go.Proofs.Ytlhpibniecfofaa
end

section
/- Roots: Put, in the program and in the reference. -/
set_option linter.unusedSimpArgs false
set_option linter.unusedVariables false
namespace Go.Proofs.Ytlhpibniecfofaa
open Go.RowKit Go.Ofp
set_option linter.unusedVariables false
set_option maxRecDepth 100000
set_option maxHeartbeats 4000000

theorem tput_any (x : Rt) (w : World) : Calls Try.prog 32 #[.agg #[.int .i64 x.seq, .int .i64 x.life, .int .i64 x.head]] w fun e w' => e = .returned (.string (str x.putB)) ∧ Below w.heap.size w w' := by
  have hS := St.start w
  have cK := fun W => tcheck_any x W
  have cO := fun W => of_root x W
  have hsl := x.secB_length
  unfold Rt.putB
  have es := elem_sector
  generalize hz : ((zeros 64).map vb).toArray = z64 at es
  have hall : ((z64.toList.take 0 ++ x.secB.map vb ++ z64.toList.drop (0 + 64)).toArray : Array Value) = (x.secB.map vb).toArray := by
    rw [← hz]
    simp [zeros]
  have hsz64 : z64.size = 64 := by rw [← hz]; simp [zeros]
  generalize x.secB = SB at *
  have hone' : (SB.map vb).all Value.oneCell' = true := List.all_eq_true.2 (vb_one SB)
  have hsl2 : (SB.map vb).length = 64 := by rw [List.length_map, hsl]
  have hble : Nat.ble (0 + 64) z64.size = true := by rw [hsz64]; rfl
  obtain ⟨b, hb⟩ : ∃ b, x.ok = b := ⟨_, rfl⟩
  rw [hb] at cK ⊢
  clear hz hsz64 hb
  replace cK := Lib.hid cK
  replace cO := Lib.hid cO
  replace hall := Lib.hid hall
  replace hone' := Lib.hid hone'
  replace hsl := Lib.hid hsl
  replace hsl2 := Lib.hid hsl2
  replace hble := Lib.hid hble
  cases b with
  | false =>
    simp only [Bool.false_eq_true, if_false]
    go_enter Try.func32, Try.ntmps32
    go_wp2_with (first
      | (with_reducible refine wpList_box_st hS rfl rfl rfl ?_; intro g1 w1 hS1; clear hS; replace hS := hS1; clear hS1) | (with_reducible refine wpList_box1_st hS rfl rfl rfl ?_; intro g1 w1 hS1; clear hS; replace hS := hS1; clear hS1) | (with_reducible refine wpList_alloc_st hS rfl rfl (by assumption) ?_; intro g1 w1 hS1; clear hS; replace hS := hS1; clear hS1) | (with_reducible refine wpList_alloc1_st hS rfl rfl (by assumption) rfl ?_; intro g1 w1 hS1; clear hS; replace hS := hS1; clear hS1) | ((with_reducible refine wpList_load_st 0 hS rfl rfl rfl rfl ?_ rfl ?_); focus (simp [scalarB, go_sem]; done)) | ((with_reducible refine wpList_loadall_st 0 hS rfl rfl rfl rfl ?_ (by kernel_rfl) ?_); focus (simp [rowB, go_sem]; done)) | ((with_reducible refine wpList_store_st 0 hS rfl rfl rfl rfl (by kernel_rfl) rfl rfl ?_); intro w1 hS1; clear hS; replace hS := hS1; clear hS1; try simp only [List.set_cons_zero, List.set_cons_succ, List.setIfInBounds_toArray, List.take_succ_cons, List.take_zero, List.drop_succ_cons, List.drop_zero, List.nil_append, List.cons_append, List.append_nil, List.drop_nil, List.take_nil, List.length_cons, List.length_nil, Nat.zero_add, Nat.add_zero, Nat.reduceAdd] at hS) | ((with_reducible refine wpList_storerow_st 0 hS rfl rfl rfl rfl (by kernel_rfl) rfl rfl rfl rfl ?_); intro w1 hS1; clear hS; replace hS := hS1; clear hS1; try simp only [List.set_cons_zero, List.set_cons_succ, List.setIfInBounds_toArray, List.take_succ_cons, List.take_zero, List.drop_succ_cons, List.drop_zero, List.nil_append, List.cons_append, List.append_nil, List.drop_nil, List.take_nil, List.length_cons, List.length_nil, Nat.zero_add, Nat.add_zero, Nat.reduceAdd] at hS)
      | (go_at_call 29; (with_reducible refine (cK.out _).mono ?_); rintro _ w3 ⟨rfl, hb3⟩; have hS1 := hS.keepB hb3; clear hb3 hS; have hS := hS1; clear hS1))
    go_ret
    exact ⟨rfl, hS.below⟩
  | true =>
    simp only [if_true]
    go_enter Try.func32, Try.ntmps32
    go_wp2_with (first
      | (go_at_call 29; (with_reducible refine (cK.out _).mono ?_); rintro _ w3 ⟨rfl, hb3⟩; have hS1 := hS.keepB hb3; clear hb3 hS; have hS := hS1; clear hS1)
      | (go_at_call 76; (with_reducible refine (cO.out _).mono ?_); rintro _ w4 ⟨rfl, hb4⟩; have hS1 := hS.keepB hb4; clear hb4 hS; have hS := hS1; clear hS1)
      | ((with_reducible refine wpList_storerow_st 0 (vs := SB.map vb) (n := 64) hS rfl rfl rfl rfl (by kernel_rfl) rfl hsl2.out hone'.out hble.out ?_); intro w10 hS1; clear hS; simp only [List.set_cons_succ, List.set_cons_zero] at hS1; rw [hall.out] at hS1; have hS := hS1; clear hS1)
      | (with_reducible refine wpList_bts (l := SB) rfl rfl Try.underlying127 Try.underlying5 Try.underlying9 rfl (hS.blksl2 0 rfl) hsl.out.symm ?_)
      | (with_reducible refine wpList_box_st hS rfl rfl rfl ?_; intro g1 w1 hS1; clear hS; replace hS := hS1; clear hS1) | (with_reducible refine wpList_box1_st hS rfl rfl rfl ?_; intro g1 w1 hS1; clear hS; replace hS := hS1; clear hS1) | (with_reducible refine wpList_alloc_st hS rfl rfl (by assumption) ?_; intro g1 w1 hS1; clear hS; replace hS := hS1; clear hS1) | (with_reducible refine wpList_alloc1_st hS rfl rfl (by assumption) rfl ?_; intro g1 w1 hS1; clear hS; replace hS := hS1; clear hS1) | ((with_reducible refine wpList_load_st 0 hS rfl rfl rfl rfl ?_ rfl ?_); focus (simp [scalarB, go_sem]; done)) | ((with_reducible refine wpList_loadall_st 0 hS rfl rfl rfl rfl ?_ (by kernel_rfl) ?_); focus (simp [rowB, go_sem]; done)) | ((with_reducible refine wpList_store_st 0 hS rfl rfl rfl rfl (by kernel_rfl) rfl rfl ?_); intro w1 hS1; clear hS; replace hS := hS1; clear hS1; try simp only [List.set_cons_zero, List.set_cons_succ, List.setIfInBounds_toArray, List.take_succ_cons, List.take_zero, List.drop_succ_cons, List.drop_zero, List.nil_append, List.cons_append, List.append_nil, List.drop_nil, List.take_nil, List.length_cons, List.length_nil, Nat.zero_add, Nat.add_zero, Nat.reduceAdd] at hS) | ((with_reducible refine wpList_storerow_st 0 hS rfl rfl rfl rfl (by kernel_rfl) rfl rfl rfl rfl ?_); intro w1 hS1; clear hS; replace hS := hS1; clear hS1; try simp only [List.set_cons_zero, List.set_cons_succ, List.setIfInBounds_toArray, List.take_succ_cons, List.take_zero, List.drop_succ_cons, List.drop_zero, List.nil_append, List.cons_append, List.append_nil, List.drop_nil, List.take_nil, List.length_cons, List.length_nil, Nat.zero_add, Nat.add_zero, Nat.reduceAdd] at hS))
    go_ret
    exact ⟨rfl, hS.below⟩

theorem rtput_any (x : Rt) (w : World) : Calls Try.prog 33 #[.agg #[.int .i64 x.seq, .int .i64 x.life, .int .i64 x.head]] w fun e w' => e = .returned (.string (str x.putB)) ∧ Below w.heap.size w w' := by
  have hS := St.start w
  have cK := fun W => rtcheck_any x W
  unfold Rt.putB
  obtain ⟨b, hb⟩ : ∃ b, x.ok = b := ⟨_, rfl⟩
  have hq := (Rt.ok_iff x).1
  rw [hb] at cK hq ⊢
  clear hb
  replace cK := Lib.hid cK
  cases b with
  | false =>
    simp only [Bool.false_eq_true, if_false]
    go_enter Try.func33, Try.ntmps33
    go_wp2_with (first
      | (with_reducible refine wpList_box_st hS rfl rfl rfl ?_; intro g1 w1 hS1; clear hS; replace hS := hS1; clear hS1) | (with_reducible refine wpList_box1_st hS rfl rfl rfl ?_; intro g1 w1 hS1; clear hS; replace hS := hS1; clear hS1) | (with_reducible refine wpList_alloc_st hS rfl rfl (by assumption) ?_; intro g1 w1 hS1; clear hS; replace hS := hS1; clear hS1) | (with_reducible refine wpList_alloc1_st hS rfl rfl (by assumption) rfl ?_; intro g1 w1 hS1; clear hS; replace hS := hS1; clear hS1) | ((with_reducible refine wpList_load_st 0 hS rfl rfl rfl rfl ?_ rfl ?_); focus (simp [scalarB, go_sem]; done)) | ((with_reducible refine wpList_loadall_st 0 hS rfl rfl rfl rfl ?_ (by kernel_rfl) ?_); focus (simp [rowB, go_sem]; done)) | ((with_reducible refine wpList_store_st 0 hS rfl rfl rfl rfl (by kernel_rfl) rfl rfl ?_); intro w1 hS1; clear hS; replace hS := hS1; clear hS1; try simp only [List.set_cons_zero, List.set_cons_succ, List.setIfInBounds_toArray, List.take_succ_cons, List.take_zero, List.drop_succ_cons, List.drop_zero, List.nil_append, List.cons_append, List.append_nil, List.drop_nil, List.take_nil, List.length_cons, List.length_nil, Nat.zero_add, Nat.add_zero, Nat.reduceAdd] at hS) | ((with_reducible refine wpList_storerow_st 0 hS rfl rfl rfl rfl (by kernel_rfl) rfl rfl rfl rfl ?_); intro w1 hS1; clear hS; replace hS := hS1; clear hS1; try simp only [List.set_cons_zero, List.set_cons_succ, List.setIfInBounds_toArray, List.take_succ_cons, List.take_zero, List.drop_succ_cons, List.drop_zero, List.nil_append, List.cons_append, List.append_nil, List.drop_nil, List.take_nil, List.length_cons, List.length_nil, Nat.zero_add, Nat.add_zero, Nat.reduceAdd] at hS)
      | (go_at_call 31; (with_reducible refine (cK.out _).mono ?_); rintro _ w3 ⟨rfl, hb3⟩; have hS1 := hS.keepB hb3; clear hb3 hS; have hS := hS1; clear hS1))
    go_ret
    exact ⟨rfl, hS.below⟩
  | true =>
    simp only [if_true]
    obtain ⟨q1, q2, q3, q4, q5, q6⟩ := hq rfl
    have n1 := fun W => rnum_any x.seq W (by omega)
    have n2 := fun W => rnum_any x.life W (by omega)
    have n3 := fun W => rnum_any x.head W (by omega)
    clear hq q1 q2 q3 q4 q5 q6
    have hfl := x.front_length
    have hfr : (⟨#[114, 111, 111, 116]⟩ : ByteArray) ++ str (numB (clampN x.seq)) ++ str (numB (clampN x.life)) ++ str (numB (clampN x.head)) = str x.front := by
      apply ba_ext
      simp [Rt.front, str]
    have hbody : str x.front ++ str (zeros (60 - x.front.length)) = str x.body := by
      apply ba_ext
      simp [Rt.body, str, zeros]
    have hsec : sealed (str x.body).data.toList = x.secB := by rw [str_data]; rfl
    have hbl : (str x.body).size = 60 := by rw [str_size, x.body_length]
    have hfsz : (str x.front).size = x.front.length := str_size _
    have cS := fun W => rseal_any (str x.body) W (by omega)
    rw [hsec] at cS
    generalize x.front = F at *
    generalize str x.body = B at *
    generalize x.secB = SB at *
    have z1 : (str (numB (clampN x.seq))).size ≤ 6 := by rw [str_size]; exact numB_six _ (clampN_le _)
    have z2 : (str (numB (clampN x.life))).size ≤ 6 := by rw [str_size]; exact numB_six _ (clampN_le _)
    have z3 : (str (numB (clampN x.head))).size ≤ 6 := by rw [str_size]; exact numB_six _ (clampN_le _)
    generalize str (numB (clampN x.seq)) = s1 at *
    generalize str (numB (clampN x.life)) = s2 at *
    generalize str (numB (clampN x.head)) = s3 at *
    have eb : Elem Try.prog 5 (.int .u8 0) 1 1 := elem_u8
    have hmz : (madeCells (Value.int .u8 0).cells ((60 - F.length) * 1)).toList = (zeros (60 - F.length)).map vb := by
      have := made_rows [Value.int .u8 0] (60 - F.length) (by decide)
      refine this.trans ?_
      simp [zeros, vb]
    have hi : (60 : Int) - (F.length : Int) = ((60 - F.length : Nat) : Int) := by omega
    have hzl : (zeros (60 - F.length)).length = 60 - F.length := by simp [zeros]
    obtain ⟨k, hk⟩ : ∃ k, 60 - F.length = k := ⟨_, rfl⟩
    rw [hk] at hmz hi hbody hzl
    have hk60 : k ≤ 60 := by omega
    generalize zeros k = Z at *
    clear hsec hk
    replace n1 := Lib.hid n1
    replace n2 := Lib.hid n2
    replace n3 := Lib.hid n3
    replace cS := Lib.hid cS
    replace hfr := Lib.hid hfr
    replace hbody := Lib.hid hbody
    replace hmz := Lib.hid hmz
    replace hzl := Lib.hid hzl
    have e1 : ¬ 9223372036854775807 < 4 + s1.size := by omega
    have e2 : ¬ 9223372036854775807 < 4 + s1.size + s2.size := by omega
    have e3 : ¬ 9223372036854775807 < 4 + s1.size + s2.size + s3.size := by omega
    clear z1 z2 z3
    have hfsz2 : Hid ((str F).size = F.length) := Lib.hid hfsz
    clear hfsz hbl
    go_enter Try.func33, Try.ntmps33
    go_wp2_with (first
      | (with_reducible refine wpList_box_st hS rfl rfl rfl ?_; intro g1 w1 hS1; clear hS; replace hS := hS1; clear hS1) | (with_reducible refine wpList_box1_st hS rfl rfl rfl ?_; intro g1 w1 hS1; clear hS; replace hS := hS1; clear hS1) | (with_reducible refine wpList_alloc_st hS rfl rfl (by assumption) ?_; intro g1 w1 hS1; clear hS; replace hS := hS1; clear hS1) | (with_reducible refine wpList_alloc1_st hS rfl rfl (by assumption) rfl ?_; intro g1 w1 hS1; clear hS; replace hS := hS1; clear hS1) | ((with_reducible refine wpList_load_st 0 hS rfl rfl rfl rfl ?_ rfl ?_); focus (simp [scalarB, go_sem]; done)) | ((with_reducible refine wpList_loadall_st 0 hS rfl rfl rfl rfl ?_ (by kernel_rfl) ?_); focus (simp [rowB, go_sem]; done)) | ((with_reducible refine wpList_store_st 0 hS rfl rfl rfl rfl (by kernel_rfl) rfl rfl ?_); intro w1 hS1; clear hS; replace hS := hS1; clear hS1; try simp only [List.set_cons_zero, List.set_cons_succ, List.setIfInBounds_toArray, List.take_succ_cons, List.take_zero, List.drop_succ_cons, List.drop_zero, List.nil_append, List.cons_append, List.append_nil, List.drop_nil, List.take_nil, List.length_cons, List.length_nil, Nat.zero_add, Nat.add_zero, Nat.reduceAdd] at hS) | ((with_reducible refine wpList_storerow_st 0 hS rfl rfl rfl rfl (by kernel_rfl) rfl rfl rfl rfl ?_); intro w1 hS1; clear hS; replace hS := hS1; clear hS1; try simp only [List.set_cons_zero, List.set_cons_succ, List.setIfInBounds_toArray, List.take_succ_cons, List.take_zero, List.drop_succ_cons, List.drop_zero, List.nil_append, List.cons_append, List.append_nil, List.drop_nil, List.take_nil, List.length_cons, List.length_nil, Nat.zero_add, Nat.add_zero, Nat.reduceAdd] at hS)
      | (go_at_call 31; (with_reducible refine (cK.out _).mono ?_); rintro _ w3 ⟨rfl, hb3⟩; have hS1 := hS.keepB hb3; clear hb3 hS; have hS := hS1; clear hS1))
    refine mixs_beginC 0 (by kernel_rfl) hS rfl ?_
    clear hS
    intro w2 hS hC
    have kC := hC.kblk 0 rfl
    refine mixs_take 0 (v := ?_) rfl (by kernel_rfl) (fun _ _ _ h => h) (by kernel_rfl) (by assumption) (fun s => ?hy) ?_; case hy => (go_simp <;> with_reducible rfl)
    try simp only [List.getElem_toArray, List.getElem_cons_succ, List.getElem_cons_zero, Act.put, List.setIfInBounds_toArray, List.set_cons_zero, List.set_cons_succ]
    refine mixs_take 1 (v := ?_) rfl (by kernel_rfl) (fun _ _ _ h => h) (by kernel_rfl) (by assumption) (fun s => ?hy) ?_; case hy => (go_simp <;> with_reducible rfl)
    try simp only [List.getElem_toArray, List.getElem_cons_succ, List.getElem_cons_zero, Act.put, List.setIfInBounds_toArray, List.set_cons_zero, List.set_cons_succ]
    refine mixs_take 4 (v := ?_) rfl (by kernel_rfl) (fun _ _ _ h => h) (by kernel_rfl) (by assumption) (fun s => ?hy) ?_; case hy => (go_simp <;> with_reducible rfl)
    try simp only [List.getElem_toArray, List.getElem_cons_succ, List.getElem_cons_zero, Act.put, List.setIfInBounds_toArray, List.set_cons_zero, List.set_cons_succ]
    refine mixs_take 5 (v := ?_) rfl (by kernel_rfl) (fun _ _ _ h => h) (by kernel_rfl) (by assumption) (fun s => ?hy) ?_; case hy => (go_simp <;> with_reducible rfl)
    try simp only [List.getElem_toArray, List.getElem_cons_succ, List.getElem_cons_zero, Act.put, List.setIfInBounds_toArray, List.set_cons_zero, List.set_cons_succ]
    refine mixs_take 8 (v := ?_) rfl (by kernel_rfl) (fun _ _ _ h => h) (by kernel_rfl) (by assumption) (fun s => ?hy) ?_; case hy => (go_simp <;> with_reducible rfl)
    try simp only [List.getElem_toArray, List.getElem_cons_succ, List.getElem_cons_zero, Act.put, List.setIfInBounds_toArray, List.set_cons_zero, List.set_cons_succ]
    refine mixs_take 9 (v := ?_) rfl (by kernel_rfl) (fun _ _ _ h => h) (by kernel_rfl) (by assumption) (fun s => ?hy) ?_; case hy => (go_simp <;> with_reducible rfl)
    try simp only [List.getElem_toArray, List.getElem_cons_succ, List.getElem_cons_zero, Act.put, List.setIfInBounds_toArray, List.set_cons_zero, List.set_cons_succ]
    refine mixs_one 2 (by kernel_rfl) rfl (fun K hK => ?_)
    go_simp
    ( first | (go_at_call 78; (first | (with_reducible refine (n1.out _).mono ?_) | (with_reducible refine (n2.out _).mono ?_) | (with_reducible refine (n3.out _).mono ?_)); rintro _ w5 ⟨rfl, hb5⟩; have hS1 := hS.keepB hb5; clear hb5 hS; have hS := hS1; clear hS1) )
    try clear hC
    refine hK.out _ _ _ (fun _ h => h) (by first | exact hS | exact hS.drop | exact hS.drop.drop | exact hS.drop.drop.drop | exact hS.drop.drop.drop.drop | exact hS.empty | exact hS.one 0 rfl | exact hS.one 1 rfl | exact hS.one 2 rfl | exact hS.one 3 rfl | exact hS.one 4 rfl | exact hS.one 5 rfl | exact hS.one 6 rfl | exact hS.one 7 rfl | exact hS.one 8 rfl | exact hS.one 9 rfl | exact hS.one 10 rfl | exact hS.one 11 rfl) (fun hC => ?_)
    clear hK K
    try simp only [List.getElem_toArray, List.getElem_cons_succ, List.getElem_cons_zero, Act.put, List.setIfInBounds_toArray, List.set_cons_zero, List.set_cons_succ]
    refine mixs_take 3 (v := ?_) rfl (by kernel_rfl) (fun _ _ _ h => h) (by kernel_rfl) (by assumption) (fun s => ?hy) ?_; case hy => (go_simp <;> with_reducible rfl)
    try simp only [List.getElem_toArray, List.getElem_cons_succ, List.getElem_cons_zero, Act.put, List.setIfInBounds_toArray, List.set_cons_zero, List.set_cons_succ]
    refine mixs_one 6 (by kernel_rfl) rfl (fun K hK => ?_)
    go_simp
    ( first | (go_at_call 78; (first | (with_reducible refine (n1.out _).mono ?_) | (with_reducible refine (n2.out _).mono ?_) | (with_reducible refine (n3.out _).mono ?_)); rintro _ w5 ⟨rfl, hb5⟩; have hS1 := hS.keepB hb5; clear hb5 hS; have hS := hS1; clear hS1) )
    try clear hC
    refine hK.out _ _ _ (fun _ h => h) (by first | exact hS | exact hS.drop | exact hS.drop.drop | exact hS.drop.drop.drop | exact hS.drop.drop.drop.drop | exact hS.empty | exact hS.one 0 rfl | exact hS.one 1 rfl | exact hS.one 2 rfl | exact hS.one 3 rfl | exact hS.one 4 rfl | exact hS.one 5 rfl | exact hS.one 6 rfl | exact hS.one 7 rfl | exact hS.one 8 rfl | exact hS.one 9 rfl | exact hS.one 10 rfl | exact hS.one 11 rfl) (fun hC => ?_)
    clear hK K
    try simp only [List.getElem_toArray, List.getElem_cons_succ, List.getElem_cons_zero, Act.put, List.setIfInBounds_toArray, List.set_cons_zero, List.set_cons_succ]
    refine mixs_take 7 (v := ?_) rfl (by kernel_rfl) (fun _ _ _ h => h) (by kernel_rfl) (by assumption) (fun s => ?hy) ?_; case hy => (go_simp <;> with_reducible rfl)
    try simp only [List.getElem_toArray, List.getElem_cons_succ, List.getElem_cons_zero, Act.put, List.setIfInBounds_toArray, List.set_cons_zero, List.set_cons_succ]
    refine mixs_one 10 (by kernel_rfl) rfl (fun K hK => ?_)
    go_simp
    ( first | (go_at_call 78; (first | (with_reducible refine (n1.out _).mono ?_) | (with_reducible refine (n2.out _).mono ?_) | (with_reducible refine (n3.out _).mono ?_)); rintro _ w5 ⟨rfl, hb5⟩; have hS1 := hS.keepB hb5; clear hb5 hS; have hS := hS1; clear hS1) )
    try clear hC
    refine hK.out _ _ _ (fun _ h => h) (by first | exact hS | exact hS.drop | exact hS.drop.drop | exact hS.drop.drop.drop | exact hS.drop.drop.drop.drop | exact hS.empty | exact hS.one 0 rfl | exact hS.one 1 rfl | exact hS.one 2 rfl | exact hS.one 3 rfl | exact hS.one 4 rfl | exact hS.one 5 rfl | exact hS.one 6 rfl | exact hS.one 7 rfl | exact hS.one 8 rfl | exact hS.one 9 rfl | exact hS.one 10 rfl | exact hS.one 11 rfl) (fun hC => ?_)
    clear hK K
    try simp only [List.getElem_toArray, List.getElem_cons_succ, List.getElem_cons_zero, Act.put, List.setIfInBounds_toArray, List.set_cons_zero, List.set_cons_succ]
    refine mixs_take 11 (v := ?_) rfl (by kernel_rfl) (fun _ _ _ h => h) (by kernel_rfl) (by assumption) (fun s => ?hy) ?_; case hy => (go_simp <;> with_reducible rfl)
    try simp only [List.getElem_toArray, List.getElem_cons_succ, List.getElem_cons_zero, Act.put, List.setIfInBounds_toArray, List.set_cons_zero, List.set_cons_succ]
    refine mixs_take 12 (v := ?_) rfl (by kernel_rfl) (fun _ _ _ h => h) (by kernel_rfl) (by assumption) (fun s => ?hy) ?_; case hy => (go_simp <;> with_reducible rfl)
    try simp only [List.getElem_toArray, List.getElem_cons_succ, List.getElem_cons_zero, Act.put, List.setIfInBounds_toArray, List.set_cons_zero, List.set_cons_succ]
    refine wpAnyH_done (by kernel_rfl) ?_ _
    try clear hC
    try clear kC
    have hfe : (str F).size = F.length := hfsz2.out
    have hze : (str Z).size = k := by rw [str_size, hzl.out]
    have e4 : ¬ 9223372036854775807 < F.length + k := by omega
    go_wp2_with (first
      | (rw [hfr.out])
      | (at_make; refine wpList_mkfull_st hS rfl rfl Try.underlying127 eb rfl rfl k (by first | rfl | exact hi) (by first | rfl | exact hi) (by omega) (by unfold maxLen; omega) ?_; intro g7 w7 hS1; clear hS; have hS := hS1; clear hS1)
      | (with_reducible refine wpList_bts (l := Z) rfl rfl Try.underlying127 Try.underlying5 Try.underlying9 rfl (hmz.out ▸ hS.rowsl 0 rfl) hzl.out.symm ?_)
      | (go_at_call 79; rw [hbody.out]; (with_reducible refine (cS.out _).mono ?_); rintro _ w8 ⟨rfl, hb8⟩; have hS1 := hS.keepB hb8; clear hb8 hS; have hS := hS1; clear hS1))
    go_ret
    exact ⟨rfl, hS.below⟩
end Go.Proofs.Ytlhpibniecfofaa
end

section
/- Arrays of bytes compared. -/
set_option linter.unusedSimpArgs false
set_option linter.unusedVariables false
namespace Go.Ofp
open Go.RowKit
section
variable {P : Program}
theorem run_eqItems_bytes (w : World) (d : Nat) (e : TypeId) (he : P.plainKey e = true) (hu : P.underlying e = some (.int .u8)) (hc : P.cellsOf e = 1) (A B : List UInt8) (hl : A.length = B.length) :
    ∀ m k, k + m = A.length → (Op.eqItems (d + 1) e (P.cellsOf e) (A.map vb).toArray (B.map vb).toArray (List.range' k m)).run P w = .ok (A.drop k == B.drop k) w := by
  intro m
  induction m with
  | zero =>
    intro k hk
    rw [List.drop_of_length_le (by omega), List.drop_of_length_le (by omega)]
    simp [Op.eqItems]
  | succ m ih =>
    intro k hk
    rw [List.range'_succ]
    have ha : k < A.length := by omega
    have hb : k < B.length := by omega
    have p1 := run_part_plain (w := w) he (xs := (A.map vb).toArray) (off := k * P.cellsOf e) (v := vb A[k]) (by rw [hc, Nat.mul_one]; simp [ha])
    have p2 := run_part_plain (w := w) he (xs := (B.map vb).toArray) (off := k * P.cellsOf e) (v := vb B[k]) (by rw [hc, Nat.mul_one]; simp [hb])
    have p3 : (Op.equalIn (d + 1) e (vb A[k]) (vb B[k])).run P w = .ok (A[k] == B[k]) w := by
      have := run_equalIn_int (P := P) w d e .u8 .u8 (A[k].toNat : Int) (B[k].toNat : Int) hu
      refine this.trans ?_
      congr 1
      rw [Bool.eq_iff_iff]
      simp [← UInt8.toNat_inj]
      omega
    simp only [Op.eqItems, Sem.run_bind, p1, p2, p3, Result.andThen_ok]
    have hi := ih (k + 1) (by omega)
    rw [List.drop_eq_getElem_cons ha, List.drop_eq_getElem_cons hb, List.cons_beq_cons]
    cases A[k] == B[k]
    · rfl
    · simp only [Bool.true_and]
      exact hi
theorem run_neq_bytes (w : World) (t e : TypeId) (n : Nat) {i : TypeInfo} (ht : P.underlying t = some (.array n e)) (hi : P.info? e = some i) (he : P.plainKey e = true) (hu : P.underlying e = some (.int .u8)) (hc : P.cellsOf e = 1) (A B : List UInt8) (hA : A.length = n) (hB : B.length = n) :
    (binOp .neq t (.agg (A.map vb).toArray) (.agg (B.map vb).toArray)).run P w = .ok (.bool (!(A == B))) w := by
  rw [run_neq_struct, run_equalIn_array w 9999 _ _ ht hi]
  have := run_eqItems_bytes w 9998 e he hu hc A B (by omega) n 0 (by omega)
  rw [← List.range_eq_range', List.drop_zero, List.drop_zero] at this
  rw [this]
  rfl
end
end Go.Ofp
end

section
/- The walks of octet's Reader: the next number ('peek'). Written by our gen_reader.py. -/
set_option linter.unusedSimpArgs false
set_option linter.unusedVariables false
namespace Go.Proofs.Ytlhpibniecfofaa
open Go.RowKit Go.Ofp

/-- A reader in memory: its bytes, how many were taken, its error. -/
def Rd (w : World) (g : Nat) (l : List UInt8) (k : Nat) (e : Int) : Prop :=
  ∃ a cap, Whole w g 163 #[.slice a l.length cap, .int .i64 k, .int .i64 e] ∧ Sl w a (l.map vb) ∧ Off a g ∧ l.length ≤ cap ∧ cap ≤ maxLen ∧ k ≤ l.length

theorem Rd.keep {w w' : World} {g : Nat} {l : List UInt8} {k : Nat} {e : Int} (h : Rd w g l k e) (hb : Below w.heap.size w w') : Rd w' g l k e := by
  obtain ⟨a, cap, h1, h2, h3⟩ := h
  exact ⟨a, cap, h1.below hb h1.lt, h2.below hb, h3⟩

theorem Rd.drewN {w : World} {g : Nat} {l : List UInt8} {k : Nat} {e : Int} (h : Rd w g l k e) (n : Nat) : Rd (w.drewN n) g l k e := by
  obtain ⟨a, cap, h1, h2, h3⟩ := h
  exact ⟨a, cap, h1, h2.drewN n, h3⟩

theorem Rd.err {w : World} {g : Nat} {l : List UInt8} {k : Nat} {e : Int} (h : Rd w g l k e) (e' : Int) : Rd (w.setCell ⟨g, 2, none⟩ (.int .i64 e')) g l k e' := by
  obtain ⟨a, cap, h1, h2, h3, h4⟩ := h
  exact ⟨a, cap, by simpa using h1.set 2 (.int .i64 e'), h2.grown h3 (grown_set _ _ _ _), h3, h4⟩

theorem Rd.place {w : World} {g : Nat} {l : List UInt8} {k : Nat} {e : Int} (h : Rd w g l k e) (k' : Nat) (hk : k' ≤ l.length) : Rd (w.setCell ⟨g, 1, none⟩ (.int .i64 k')) g l k' e := by
  obtain ⟨a, cap, h1, h2, h3, h4, h5, h6⟩ := h
  exact ⟨a, cap, by simpa using h1.set 1 (.int .i64 k'), h2.grown h3 (grown_set _ _ _ _), h3, h4, h5, hk⟩

set_option maxRecDepth 100000 in
set_option maxHeartbeats 8000000 in
/-- What peek leaves behind: its answer, and the error noted. -/
theorem peek_any (g : Nat) (l : List UInt8) (k : Nat) (most : Int) (w : World) (h : Rd w g l k 0) :
    Calls Try.prog 96 #[.pointer (some ⟨g, 0, none⟩), .int .i64 most] w fun e w' =>
      e = .returned (.tuple #[.int .i64 (nextB (l.drop k) most).1, .int .i64 ((k + (nextB (l.drop k) most).2.1 : Nat) : Int)]) ∧ Rd w' g l k (nextB (l.drop k) most).2.2 ∧ w.grownBy w' (some g) := by
  have hR := h
  obtain ⟨a, cap, hw, hs, hoff, hlc, hcm, hk⟩ := h
  unfold maxLen at hcm
  have c0 := hw.cell 0
  have c1 := hw.cell 1
  have c2 := hw.cell 2
  have f2 := hw.frozen 2
  simp at c0 c1 c2
  replace hs := Lib.hid hs
  replace hR := Lib.hid hR
  clear hw
  go_enter Try.func96, Try.ntmps96
  go_wp2_with fail
  go_loopg [6, 9] 6 (fun gk v i wr => ∃ j n : Nat, j + gk = 6 ∧ wr = w.drewN n ∧ i = .int .i64 j ∧ v = .int .i64 (val7 ((l.drop k).take j) : Int) ∧ k + j ≤ l.length ∧ ∀ i, i < j → 128 ≤ ((l.drop k).getD i 0).toNat)
  case atStart => exact ⟨0, 0, rfl, rfl, rfl, rfl, by omega, fun i h => by omega⟩
  case round =>
    obtain ⟨j, n, hj, rfl, rfl, rfl, hkj, hall⟩ := hrel
    replace hall := Lib.hid hall
    obtain ⟨v, hv⟩ : ∃ v, v = val7 ((l.drop k).take j) := ⟨_, rfl⟩
    have hvl := val7_lt ((l.drop k).take j)
    rw [← hv] at hvl ⊢
    rw [List.length_take, List.length_drop, Nat.min_eq_left (by omega)] at hvl
    replace hv := Lib.hid hv
    rcases (by omega : j = 0 ∨ j = 1 ∨ j = 2 ∨ j = 3 ∨ j = 4 ∨ j = 5 ∨ j = 6) with rfl | rfl | rfl | rfl | rfl | rfl | rfl
    · simp only [Nat.reducePow] at hvl
      have w2 : (0 : Int) ≤ (k : Int) := by omega
      by_cases hend : k = l.length
      · have hnb := nextB_short (l.drop k) most 0 (by decide) (by rw [List.length_drop]; omega) hall.out
        have w3 : ((l.length : Nat) : Int) ≤ (k : Int) := by omega
        clear hend
        replace hnb := Lib.hid hnb
        go_wp2_with fail
        go_quiet (fail)
        go_wp2_with fail
        go_quiet (fail)
        go_wp2_with fail
        go_ret2
        rw [hnb.out]
        exact ⟨rfl, ((hR.out.drewN _).err 2).drewN _, grown_trans (grown_trans (grown_drewN _ _ _) (grown_set _ _ _ _)) (grown_drewN _ _ _)⟩
      · have w3 : (k : Int) < (l.length : Int) := by omega
        have hlt : k < l.length := by omega
        obtain ⟨b, off, rfl, hc⟩ := hs.out.get (k) hlt
        obtain ⟨c, hcc⟩ : ∃ c, c = l[k] := ⟨_, rfl⟩
        rw [← hcc] at hc
        have hcd : (l.drop k)[0]'(by rw [List.length_drop]; omega) = c := by simp [hcc]
        have hgd : (l.drop k).getD 0 0 = c := by rw [← hcd, List.getD_eq_getElem?_getD, List.getElem?_eq_getElem (by rw [List.length_drop]; omega)]; rfl
        have hvt : v + 2 ^ 0 * (c.toNat % 128) = val7 ((l.drop k).take (0 + 1)) := by rw [val7_take _ 0 (by rw [List.length_drop]; omega), hcd, hv.out]
        have hst := step7 v c.toNat 0 hvl (by decide) c.toNat_lt
        rw [hvt, show ((2 ^ 0 : Nat) : Int) = 1 from rfl] at hst
        simp only [Int.mul_one] at hst
        clear hcc hcd hend hlt
        have hcb := c.toNat_lt
        replace hgd := Lib.hid hgd
        replace hst := Lib.hid hst
        clear hvt
        by_cases h128 : 128 ≤ c.toNat
        · go_wp2_with fail
          go_quiet (fail)
          go_wp2_with fail
          go_quiet (fail)
          go_wp2_with fail
          go_roundg (gk - 1)
          case measure => omega
          case rel =>
            refine ⟨1, _, by omega, rfl, rfl, congrArg (Value.int .i64) hst.out, by omega, ?_⟩
            intro i hi
            rcases Nat.lt_or_ge i 0 with h | h
            · exact hall.out i h
            · obtain rfl : i = 0 := by omega
              rw [hgd.out]; exact h128
        · cases hz0 : ((c.toNat : Int) == 0)
          all_goals
            have hnb := nextB_val (l.drop k) most 0 (by decide) (by rw [List.length_drop]; omega) hall.out (by rw [hgd.out]; omega) (fun h => absurd h.1 (by decide))
            obtain ⟨V, hV⟩ : ∃ V, V = val7 ((l.drop k).take (0 + 1)) := ⟨_, rfl⟩
            have hst := hst.out
            rw [← hV] at hst hnb
            have hVb := val7_lt ((l.drop k).take (0 + 1))
            rw [← hV] at hVb
            clear hV
            have hVb2 : V < 128 ^ 1 := Nat.lt_of_lt_of_le hVb (Nat.pow_le_pow_right (by decide) (by rw [List.length_take]; omega))
            clear hVb
            simp only [Nat.reducePow] at hVb2
            by_cases hb1 : maxNum < V
            · exact absurd hb1 (by unfold maxNum; omega)
            · by_cases hb2 : most < (V : Int)
              · rw [if_pos (.inr hb2)] at hnb
                replace hnb := Lib.hid hnb
                have m1 : (V : Int) ≤ 1099511627776 := by unfold maxNum at hb1; omega
                clear hb1
                go_wp2_with fail
                go_quiet (fail)
                go_wp2_with fail
                go_quiet (fail)
                go_wp2_with fail
                go_quiet (fail)
                go_wp2_with fail
                go_ret2
                rw [hnb.out]
                exact ⟨rfl, ((hR.out.drewN _).err 4).drewN _, grown_trans (grown_trans (grown_drewN _ _ _) (grown_set _ _ _ _)) (grown_drewN _ _ _)⟩
              · rw [if_neg (fun h => h.elim hb1 hb2)] at hnb
                replace hnb := Lib.hid hnb
                have m1 : (V : Int) ≤ 1099511627776 := by unfold maxNum at hb1; omega
                clear hb1
                have w4 : IntKind.i64.wrap ((k : Int) + 1) = (k : Int) + 1 := IntWalk.i64_in _ (by omega)
                go_wp2_with fail
                go_quiet (fail)
                go_wp2_with fail
                go_quiet (fail)
                go_wp2_with fail
                go_quiet (fail)
                go_wp2_with fail
                go_ret2
                rw [hnb.out]
                exact ⟨rfl, (hR.out.drewN _).drewN _, grown_trans (grown_drewN _ _ _) (grown_drewN _ _ _)⟩
    · simp only [Nat.reducePow] at hvl
      have w0 : IntKind.i64.wrap ((k : Int) + 1) = (k : Int) + 1 := IntWalk.i64_in _ (by omega)
      have w1 : ((k : Int) + 1).toNat = k + 1 := by omega
      have w2 : (0 : Int) ≤ (k : Int) + 1 := by omega
      by_cases hend : k + 1 = l.length
      · have hnb := nextB_short (l.drop k) most 1 (by decide) (by rw [List.length_drop]; omega) hall.out
        have w3 : ((l.length : Nat) : Int) ≤ (k : Int) + 1 := by omega
        clear hend
        replace hnb := Lib.hid hnb
        go_wp2_with fail
        go_quiet (fail)
        go_wp2_with fail
        go_quiet (fail)
        go_wp2_with fail
        go_ret2
        rw [hnb.out]
        exact ⟨rfl, ((hR.out.drewN _).err 2).drewN _, grown_trans (grown_trans (grown_drewN _ _ _) (grown_set _ _ _ _)) (grown_drewN _ _ _)⟩
      · have w3 : (k : Int) + 1 < (l.length : Int) := by omega
        have hlt : k + 1 < l.length := by omega
        obtain ⟨b, off, rfl, hc⟩ := hs.out.get (k + 1) hlt
        obtain ⟨c, hcc⟩ : ∃ c, c = l[k + 1] := ⟨_, rfl⟩
        rw [← hcc] at hc
        have hcd : (l.drop k)[1]'(by rw [List.length_drop]; omega) = c := by rw [List.getElem_drop, hcc]
        have hgd : (l.drop k).getD 1 0 = c := by rw [← hcd, List.getD_eq_getElem?_getD, List.getElem?_eq_getElem (by rw [List.length_drop]; omega)]; rfl
        have hvt : v + 2 ^ 7 * (c.toNat % 128) = val7 ((l.drop k).take (1 + 1)) := by rw [val7_take _ 1 (by rw [List.length_drop]; omega), hcd, hv.out]
        have hst := step7 v c.toNat 7 hvl (by decide) c.toNat_lt
        rw [hvt, show ((2 ^ 7 : Nat) : Int) = 128 from rfl] at hst
        clear hcc hcd hend hlt
        have hcb := c.toNat_lt
        replace hgd := Lib.hid hgd
        replace hst := Lib.hid hst
        clear hvt
        by_cases h128 : 128 ≤ c.toNat
        · go_wp2_with fail
          go_quiet (fail)
          go_wp2_with fail
          go_quiet (fail)
          go_wp2_with fail
          go_roundg (gk - 1)
          case measure => omega
          case rel =>
            refine ⟨2, _, by omega, rfl, rfl, congrArg (Value.int .i64) hst.out, by omega, ?_⟩
            intro i hi
            rcases Nat.lt_or_ge i 1 with h | h
            · exact hall.out i h
            · obtain rfl : i = 1 := by omega
              rw [hgd.out]; exact h128
        · by_cases hz : c = 0
          · subst hz
            have hnb := nextB_zero (l.drop k) most 1 (by decide) (by rw [List.length_drop]; omega) hall.out (by decide) hgd.out
            replace hnb := Lib.hid hnb
            simp only [UInt8.toNat_zero, Int.natCast_zero] at hc
            clear hcb h128 hst
            go_wp2_with fail
            go_quiet (fail)
            go_wp2_with fail
            go_quiet (fail)
            go_wp2_with fail
            go_quiet (fail)
            go_wp2_with fail
            go_ret2
            rw [hnb.out]
            exact ⟨rfl, ((hR.out.drewN _).err 3).drewN _, grown_trans (grown_trans (grown_drewN _ _ _) (grown_set _ _ _ _)) (grown_drewN _ _ _)⟩
          · have hz0 : ((c.toNat : Int) == 0) = false := by
              rw [beq_eq_false_iff_ne]
              intro h
              exact hz (UInt8.toNat_inj.1 (by rw [UInt8.toNat_zero]; omega))
            have hnb := nextB_val (l.drop k) most 1 (by decide) (by rw [List.length_drop]; omega) hall.out (by rw [hgd.out]; omega) (by rw [hgd.out]; exact fun h => hz h.2)
            clear hz
            obtain ⟨V, hV⟩ : ∃ V, V = val7 ((l.drop k).take (1 + 1)) := ⟨_, rfl⟩
            have hst := hst.out
            rw [← hV] at hst hnb
            have hVb := val7_lt ((l.drop k).take (1 + 1))
            rw [← hV] at hVb
            clear hV
            have hVb2 : V < 128 ^ 2 := Nat.lt_of_lt_of_le hVb (Nat.pow_le_pow_right (by decide) (by rw [List.length_take]; omega))
            clear hVb
            simp only [Nat.reducePow] at hVb2
            by_cases hb1 : maxNum < V
            · exact absurd hb1 (by unfold maxNum; omega)
            · by_cases hb2 : most < (V : Int)
              · rw [if_pos (.inr hb2)] at hnb
                replace hnb := Lib.hid hnb
                have m1 : (V : Int) ≤ 1099511627776 := by unfold maxNum at hb1; omega
                clear hb1
                go_wp2_with fail
                go_quiet (fail)
                go_wp2_with fail
                go_quiet (fail)
                go_wp2_with fail
                go_quiet (fail)
                go_wp2_with fail
                go_ret2
                rw [hnb.out]
                exact ⟨rfl, ((hR.out.drewN _).err 4).drewN _, grown_trans (grown_trans (grown_drewN _ _ _) (grown_set _ _ _ _)) (grown_drewN _ _ _)⟩
              · rw [if_neg (fun h => h.elim hb1 hb2)] at hnb
                replace hnb := Lib.hid hnb
                have m1 : (V : Int) ≤ 1099511627776 := by unfold maxNum at hb1; omega
                clear hb1
                have w4 : IntKind.i64.wrap ((k : Int) + 1 + 1) = (k : Int) + 1 + 1 := IntWalk.i64_in _ (by omega)
                go_wp2_with fail
                go_quiet (fail)
                go_wp2_with fail
                go_quiet (fail)
                go_wp2_with fail
                go_quiet (fail)
                go_wp2_with fail
                go_ret2
                rw [hnb.out]
                exact ⟨rfl, (hR.out.drewN _).drewN _, grown_trans (grown_drewN _ _ _) (grown_drewN _ _ _)⟩
    · simp only [Nat.reducePow] at hvl
      have w0 : IntKind.i64.wrap ((k : Int) + 2) = (k : Int) + 2 := IntWalk.i64_in _ (by omega)
      have w1 : ((k : Int) + 2).toNat = k + 2 := by omega
      have w2 : (0 : Int) ≤ (k : Int) + 2 := by omega
      by_cases hend : k + 2 = l.length
      · have hnb := nextB_short (l.drop k) most 2 (by decide) (by rw [List.length_drop]; omega) hall.out
        have w3 : ((l.length : Nat) : Int) ≤ (k : Int) + 2 := by omega
        clear hend
        replace hnb := Lib.hid hnb
        go_wp2_with fail
        go_quiet (fail)
        go_wp2_with fail
        go_quiet (fail)
        go_wp2_with fail
        go_ret2
        rw [hnb.out]
        exact ⟨rfl, ((hR.out.drewN _).err 2).drewN _, grown_trans (grown_trans (grown_drewN _ _ _) (grown_set _ _ _ _)) (grown_drewN _ _ _)⟩
      · have w3 : (k : Int) + 2 < (l.length : Int) := by omega
        have hlt : k + 2 < l.length := by omega
        obtain ⟨b, off, rfl, hc⟩ := hs.out.get (k + 2) hlt
        obtain ⟨c, hcc⟩ : ∃ c, c = l[k + 2] := ⟨_, rfl⟩
        rw [← hcc] at hc
        have hcd : (l.drop k)[2]'(by rw [List.length_drop]; omega) = c := by rw [List.getElem_drop, hcc]
        have hgd : (l.drop k).getD 2 0 = c := by rw [← hcd, List.getD_eq_getElem?_getD, List.getElem?_eq_getElem (by rw [List.length_drop]; omega)]; rfl
        have hvt : v + 2 ^ 14 * (c.toNat % 128) = val7 ((l.drop k).take (2 + 1)) := by rw [val7_take _ 2 (by rw [List.length_drop]; omega), hcd, hv.out]
        have hst := step7 v c.toNat 14 hvl (by decide) c.toNat_lt
        rw [hvt, show ((2 ^ 14 : Nat) : Int) = 16384 from rfl] at hst
        clear hcc hcd hend hlt
        have hcb := c.toNat_lt
        replace hgd := Lib.hid hgd
        replace hst := Lib.hid hst
        clear hvt
        by_cases h128 : 128 ≤ c.toNat
        · go_wp2_with fail
          go_quiet (fail)
          go_wp2_with fail
          go_quiet (fail)
          go_wp2_with fail
          go_roundg (gk - 1)
          case measure => omega
          case rel =>
            refine ⟨3, _, by omega, rfl, rfl, congrArg (Value.int .i64) hst.out, by omega, ?_⟩
            intro i hi
            rcases Nat.lt_or_ge i 2 with h | h
            · exact hall.out i h
            · obtain rfl : i = 2 := by omega
              rw [hgd.out]; exact h128
        · by_cases hz : c = 0
          · subst hz
            have hnb := nextB_zero (l.drop k) most 2 (by decide) (by rw [List.length_drop]; omega) hall.out (by decide) hgd.out
            replace hnb := Lib.hid hnb
            simp only [UInt8.toNat_zero, Int.natCast_zero] at hc
            clear hcb h128 hst
            go_wp2_with fail
            go_quiet (fail)
            go_wp2_with fail
            go_quiet (fail)
            go_wp2_with fail
            go_quiet (fail)
            go_wp2_with fail
            go_ret2
            rw [hnb.out]
            exact ⟨rfl, ((hR.out.drewN _).err 3).drewN _, grown_trans (grown_trans (grown_drewN _ _ _) (grown_set _ _ _ _)) (grown_drewN _ _ _)⟩
          · have hz0 : ((c.toNat : Int) == 0) = false := by
              rw [beq_eq_false_iff_ne]
              intro h
              exact hz (UInt8.toNat_inj.1 (by rw [UInt8.toNat_zero]; omega))
            have hnb := nextB_val (l.drop k) most 2 (by decide) (by rw [List.length_drop]; omega) hall.out (by rw [hgd.out]; omega) (by rw [hgd.out]; exact fun h => hz h.2)
            clear hz
            obtain ⟨V, hV⟩ : ∃ V, V = val7 ((l.drop k).take (2 + 1)) := ⟨_, rfl⟩
            have hst := hst.out
            rw [← hV] at hst hnb
            have hVb := val7_lt ((l.drop k).take (2 + 1))
            rw [← hV] at hVb
            clear hV
            have hVb2 : V < 128 ^ 3 := Nat.lt_of_lt_of_le hVb (Nat.pow_le_pow_right (by decide) (by rw [List.length_take]; omega))
            clear hVb
            simp only [Nat.reducePow] at hVb2
            by_cases hb1 : maxNum < V
            · exact absurd hb1 (by unfold maxNum; omega)
            · by_cases hb2 : most < (V : Int)
              · rw [if_pos (.inr hb2)] at hnb
                replace hnb := Lib.hid hnb
                have m1 : (V : Int) ≤ 1099511627776 := by unfold maxNum at hb1; omega
                clear hb1
                go_wp2_with fail
                go_quiet (fail)
                go_wp2_with fail
                go_quiet (fail)
                go_wp2_with fail
                go_quiet (fail)
                go_wp2_with fail
                go_ret2
                rw [hnb.out]
                exact ⟨rfl, ((hR.out.drewN _).err 4).drewN _, grown_trans (grown_trans (grown_drewN _ _ _) (grown_set _ _ _ _)) (grown_drewN _ _ _)⟩
              · rw [if_neg (fun h => h.elim hb1 hb2)] at hnb
                replace hnb := Lib.hid hnb
                have m1 : (V : Int) ≤ 1099511627776 := by unfold maxNum at hb1; omega
                clear hb1
                have w4 : IntKind.i64.wrap ((k : Int) + 2 + 1) = (k : Int) + 2 + 1 := IntWalk.i64_in _ (by omega)
                go_wp2_with fail
                go_quiet (fail)
                go_wp2_with fail
                go_quiet (fail)
                go_wp2_with fail
                go_quiet (fail)
                go_wp2_with fail
                go_ret2
                rw [hnb.out]
                exact ⟨rfl, (hR.out.drewN _).drewN _, grown_trans (grown_drewN _ _ _) (grown_drewN _ _ _)⟩
    · simp only [Nat.reducePow] at hvl
      have w0 : IntKind.i64.wrap ((k : Int) + 3) = (k : Int) + 3 := IntWalk.i64_in _ (by omega)
      have w1 : ((k : Int) + 3).toNat = k + 3 := by omega
      have w2 : (0 : Int) ≤ (k : Int) + 3 := by omega
      by_cases hend : k + 3 = l.length
      · have hnb := nextB_short (l.drop k) most 3 (by decide) (by rw [List.length_drop]; omega) hall.out
        have w3 : ((l.length : Nat) : Int) ≤ (k : Int) + 3 := by omega
        clear hend
        replace hnb := Lib.hid hnb
        go_wp2_with fail
        go_quiet (fail)
        go_wp2_with fail
        go_quiet (fail)
        go_wp2_with fail
        go_ret2
        rw [hnb.out]
        exact ⟨rfl, ((hR.out.drewN _).err 2).drewN _, grown_trans (grown_trans (grown_drewN _ _ _) (grown_set _ _ _ _)) (grown_drewN _ _ _)⟩
      · have w3 : (k : Int) + 3 < (l.length : Int) := by omega
        have hlt : k + 3 < l.length := by omega
        obtain ⟨b, off, rfl, hc⟩ := hs.out.get (k + 3) hlt
        obtain ⟨c, hcc⟩ : ∃ c, c = l[k + 3] := ⟨_, rfl⟩
        rw [← hcc] at hc
        have hcd : (l.drop k)[3]'(by rw [List.length_drop]; omega) = c := by rw [List.getElem_drop, hcc]
        have hgd : (l.drop k).getD 3 0 = c := by rw [← hcd, List.getD_eq_getElem?_getD, List.getElem?_eq_getElem (by rw [List.length_drop]; omega)]; rfl
        have hvt : v + 2 ^ 21 * (c.toNat % 128) = val7 ((l.drop k).take (3 + 1)) := by rw [val7_take _ 3 (by rw [List.length_drop]; omega), hcd, hv.out]
        have hst := step7 v c.toNat 21 hvl (by decide) c.toNat_lt
        rw [hvt, show ((2 ^ 21 : Nat) : Int) = 2097152 from rfl] at hst
        clear hcc hcd hend hlt
        have hcb := c.toNat_lt
        replace hgd := Lib.hid hgd
        replace hst := Lib.hid hst
        clear hvt
        by_cases h128 : 128 ≤ c.toNat
        · go_wp2_with fail
          go_quiet (fail)
          go_wp2_with fail
          go_quiet (fail)
          go_wp2_with fail
          go_roundg (gk - 1)
          case measure => omega
          case rel =>
            refine ⟨4, _, by omega, rfl, rfl, congrArg (Value.int .i64) hst.out, by omega, ?_⟩
            intro i hi
            rcases Nat.lt_or_ge i 3 with h | h
            · exact hall.out i h
            · obtain rfl : i = 3 := by omega
              rw [hgd.out]; exact h128
        · by_cases hz : c = 0
          · subst hz
            have hnb := nextB_zero (l.drop k) most 3 (by decide) (by rw [List.length_drop]; omega) hall.out (by decide) hgd.out
            replace hnb := Lib.hid hnb
            simp only [UInt8.toNat_zero, Int.natCast_zero] at hc
            clear hcb h128 hst
            go_wp2_with fail
            go_quiet (fail)
            go_wp2_with fail
            go_quiet (fail)
            go_wp2_with fail
            go_quiet (fail)
            go_wp2_with fail
            go_ret2
            rw [hnb.out]
            exact ⟨rfl, ((hR.out.drewN _).err 3).drewN _, grown_trans (grown_trans (grown_drewN _ _ _) (grown_set _ _ _ _)) (grown_drewN _ _ _)⟩
          · have hz0 : ((c.toNat : Int) == 0) = false := by
              rw [beq_eq_false_iff_ne]
              intro h
              exact hz (UInt8.toNat_inj.1 (by rw [UInt8.toNat_zero]; omega))
            have hnb := nextB_val (l.drop k) most 3 (by decide) (by rw [List.length_drop]; omega) hall.out (by rw [hgd.out]; omega) (by rw [hgd.out]; exact fun h => hz h.2)
            clear hz
            obtain ⟨V, hV⟩ : ∃ V, V = val7 ((l.drop k).take (3 + 1)) := ⟨_, rfl⟩
            have hst := hst.out
            rw [← hV] at hst hnb
            have hVb := val7_lt ((l.drop k).take (3 + 1))
            rw [← hV] at hVb
            clear hV
            have hVb2 : V < 128 ^ 4 := Nat.lt_of_lt_of_le hVb (Nat.pow_le_pow_right (by decide) (by rw [List.length_take]; omega))
            clear hVb
            simp only [Nat.reducePow] at hVb2
            by_cases hb1 : maxNum < V
            · exact absurd hb1 (by unfold maxNum; omega)
            · by_cases hb2 : most < (V : Int)
              · rw [if_pos (.inr hb2)] at hnb
                replace hnb := Lib.hid hnb
                have m1 : (V : Int) ≤ 1099511627776 := by unfold maxNum at hb1; omega
                clear hb1
                go_wp2_with fail
                go_quiet (fail)
                go_wp2_with fail
                go_quiet (fail)
                go_wp2_with fail
                go_quiet (fail)
                go_wp2_with fail
                go_ret2
                rw [hnb.out]
                exact ⟨rfl, ((hR.out.drewN _).err 4).drewN _, grown_trans (grown_trans (grown_drewN _ _ _) (grown_set _ _ _ _)) (grown_drewN _ _ _)⟩
              · rw [if_neg (fun h => h.elim hb1 hb2)] at hnb
                replace hnb := Lib.hid hnb
                have m1 : (V : Int) ≤ 1099511627776 := by unfold maxNum at hb1; omega
                clear hb1
                have w4 : IntKind.i64.wrap ((k : Int) + 3 + 1) = (k : Int) + 3 + 1 := IntWalk.i64_in _ (by omega)
                go_wp2_with fail
                go_quiet (fail)
                go_wp2_with fail
                go_quiet (fail)
                go_wp2_with fail
                go_quiet (fail)
                go_wp2_with fail
                go_ret2
                rw [hnb.out]
                exact ⟨rfl, (hR.out.drewN _).drewN _, grown_trans (grown_drewN _ _ _) (grown_drewN _ _ _)⟩
    · simp only [Nat.reducePow] at hvl
      have w0 : IntKind.i64.wrap ((k : Int) + 4) = (k : Int) + 4 := IntWalk.i64_in _ (by omega)
      have w1 : ((k : Int) + 4).toNat = k + 4 := by omega
      have w2 : (0 : Int) ≤ (k : Int) + 4 := by omega
      by_cases hend : k + 4 = l.length
      · have hnb := nextB_short (l.drop k) most 4 (by decide) (by rw [List.length_drop]; omega) hall.out
        have w3 : ((l.length : Nat) : Int) ≤ (k : Int) + 4 := by omega
        clear hend
        replace hnb := Lib.hid hnb
        go_wp2_with fail
        go_quiet (fail)
        go_wp2_with fail
        go_quiet (fail)
        go_wp2_with fail
        go_ret2
        rw [hnb.out]
        exact ⟨rfl, ((hR.out.drewN _).err 2).drewN _, grown_trans (grown_trans (grown_drewN _ _ _) (grown_set _ _ _ _)) (grown_drewN _ _ _)⟩
      · have w3 : (k : Int) + 4 < (l.length : Int) := by omega
        have hlt : k + 4 < l.length := by omega
        obtain ⟨b, off, rfl, hc⟩ := hs.out.get (k + 4) hlt
        obtain ⟨c, hcc⟩ : ∃ c, c = l[k + 4] := ⟨_, rfl⟩
        rw [← hcc] at hc
        have hcd : (l.drop k)[4]'(by rw [List.length_drop]; omega) = c := by rw [List.getElem_drop, hcc]
        have hgd : (l.drop k).getD 4 0 = c := by rw [← hcd, List.getD_eq_getElem?_getD, List.getElem?_eq_getElem (by rw [List.length_drop]; omega)]; rfl
        have hvt : v + 2 ^ 28 * (c.toNat % 128) = val7 ((l.drop k).take (4 + 1)) := by rw [val7_take _ 4 (by rw [List.length_drop]; omega), hcd, hv.out]
        have hst := step7 v c.toNat 28 hvl (by decide) c.toNat_lt
        rw [hvt, show ((2 ^ 28 : Nat) : Int) = 268435456 from rfl] at hst
        clear hcc hcd hend hlt
        have hcb := c.toNat_lt
        replace hgd := Lib.hid hgd
        replace hst := Lib.hid hst
        clear hvt
        by_cases h128 : 128 ≤ c.toNat
        · go_wp2_with fail
          go_quiet (fail)
          go_wp2_with fail
          go_quiet (fail)
          go_wp2_with fail
          go_roundg (gk - 1)
          case measure => omega
          case rel =>
            refine ⟨5, _, by omega, rfl, rfl, congrArg (Value.int .i64) hst.out, by omega, ?_⟩
            intro i hi
            rcases Nat.lt_or_ge i 4 with h | h
            · exact hall.out i h
            · obtain rfl : i = 4 := by omega
              rw [hgd.out]; exact h128
        · by_cases hz : c = 0
          · subst hz
            have hnb := nextB_zero (l.drop k) most 4 (by decide) (by rw [List.length_drop]; omega) hall.out (by decide) hgd.out
            replace hnb := Lib.hid hnb
            simp only [UInt8.toNat_zero, Int.natCast_zero] at hc
            clear hcb h128 hst
            go_wp2_with fail
            go_quiet (fail)
            go_wp2_with fail
            go_quiet (fail)
            go_wp2_with fail
            go_quiet (fail)
            go_wp2_with fail
            go_ret2
            rw [hnb.out]
            exact ⟨rfl, ((hR.out.drewN _).err 3).drewN _, grown_trans (grown_trans (grown_drewN _ _ _) (grown_set _ _ _ _)) (grown_drewN _ _ _)⟩
          · have hz0 : ((c.toNat : Int) == 0) = false := by
              rw [beq_eq_false_iff_ne]
              intro h
              exact hz (UInt8.toNat_inj.1 (by rw [UInt8.toNat_zero]; omega))
            have hnb := nextB_val (l.drop k) most 4 (by decide) (by rw [List.length_drop]; omega) hall.out (by rw [hgd.out]; omega) (by rw [hgd.out]; exact fun h => hz h.2)
            clear hz
            obtain ⟨V, hV⟩ : ∃ V, V = val7 ((l.drop k).take (4 + 1)) := ⟨_, rfl⟩
            have hst := hst.out
            rw [← hV] at hst hnb
            have hVb := val7_lt ((l.drop k).take (4 + 1))
            rw [← hV] at hVb
            clear hV
            have hVb2 : V < 128 ^ 5 := Nat.lt_of_lt_of_le hVb (Nat.pow_le_pow_right (by decide) (by rw [List.length_take]; omega))
            clear hVb
            simp only [Nat.reducePow] at hVb2
            by_cases hb1 : maxNum < V
            · exact absurd hb1 (by unfold maxNum; omega)
            · by_cases hb2 : most < (V : Int)
              · rw [if_pos (.inr hb2)] at hnb
                replace hnb := Lib.hid hnb
                have m1 : (V : Int) ≤ 1099511627776 := by unfold maxNum at hb1; omega
                clear hb1
                go_wp2_with fail
                go_quiet (fail)
                go_wp2_with fail
                go_quiet (fail)
                go_wp2_with fail
                go_quiet (fail)
                go_wp2_with fail
                go_ret2
                rw [hnb.out]
                exact ⟨rfl, ((hR.out.drewN _).err 4).drewN _, grown_trans (grown_trans (grown_drewN _ _ _) (grown_set _ _ _ _)) (grown_drewN _ _ _)⟩
              · rw [if_neg (fun h => h.elim hb1 hb2)] at hnb
                replace hnb := Lib.hid hnb
                have m1 : (V : Int) ≤ 1099511627776 := by unfold maxNum at hb1; omega
                clear hb1
                have w4 : IntKind.i64.wrap ((k : Int) + 4 + 1) = (k : Int) + 4 + 1 := IntWalk.i64_in _ (by omega)
                go_wp2_with fail
                go_quiet (fail)
                go_wp2_with fail
                go_quiet (fail)
                go_wp2_with fail
                go_quiet (fail)
                go_wp2_with fail
                go_ret2
                rw [hnb.out]
                exact ⟨rfl, (hR.out.drewN _).drewN _, grown_trans (grown_drewN _ _ _) (grown_drewN _ _ _)⟩
    · simp only [Nat.reducePow] at hvl
      have w0 : IntKind.i64.wrap ((k : Int) + 5) = (k : Int) + 5 := IntWalk.i64_in _ (by omega)
      have w1 : ((k : Int) + 5).toNat = k + 5 := by omega
      have w2 : (0 : Int) ≤ (k : Int) + 5 := by omega
      by_cases hend : k + 5 = l.length
      · have hnb := nextB_short (l.drop k) most 5 (by decide) (by rw [List.length_drop]; omega) hall.out
        have w3 : ((l.length : Nat) : Int) ≤ (k : Int) + 5 := by omega
        clear hend
        replace hnb := Lib.hid hnb
        go_wp2_with fail
        go_quiet (fail)
        go_wp2_with fail
        go_quiet (fail)
        go_wp2_with fail
        go_ret2
        rw [hnb.out]
        exact ⟨rfl, ((hR.out.drewN _).err 2).drewN _, grown_trans (grown_trans (grown_drewN _ _ _) (grown_set _ _ _ _)) (grown_drewN _ _ _)⟩
      · have w3 : (k : Int) + 5 < (l.length : Int) := by omega
        have hlt : k + 5 < l.length := by omega
        obtain ⟨b, off, rfl, hc⟩ := hs.out.get (k + 5) hlt
        obtain ⟨c, hcc⟩ : ∃ c, c = l[k + 5] := ⟨_, rfl⟩
        rw [← hcc] at hc
        have hcd : (l.drop k)[5]'(by rw [List.length_drop]; omega) = c := by rw [List.getElem_drop, hcc]
        have hgd : (l.drop k).getD 5 0 = c := by rw [← hcd, List.getD_eq_getElem?_getD, List.getElem?_eq_getElem (by rw [List.length_drop]; omega)]; rfl
        have hvt : v + 2 ^ 35 * (c.toNat % 128) = val7 ((l.drop k).take (5 + 1)) := by rw [val7_take _ 5 (by rw [List.length_drop]; omega), hcd, hv.out]
        have hst := step7 v c.toNat 35 hvl (by decide) c.toNat_lt
        rw [hvt, show ((2 ^ 35 : Nat) : Int) = 34359738368 from rfl] at hst
        clear hcc hcd hend hlt
        have hcb := c.toNat_lt
        replace hgd := Lib.hid hgd
        replace hst := Lib.hid hst
        clear hvt
        by_cases h128 : 128 ≤ c.toNat
        · go_wp2_with fail
          go_quiet (fail)
          go_wp2_with fail
          go_quiet (fail)
          go_wp2_with fail
          go_roundg (gk - 1)
          case measure => omega
          case rel =>
            refine ⟨6, _, by omega, rfl, rfl, congrArg (Value.int .i64) hst.out, by omega, ?_⟩
            intro i hi
            rcases Nat.lt_or_ge i 5 with h | h
            · exact hall.out i h
            · obtain rfl : i = 5 := by omega
              rw [hgd.out]; exact h128
        · by_cases hz : c = 0
          · subst hz
            have hnb := nextB_zero (l.drop k) most 5 (by decide) (by rw [List.length_drop]; omega) hall.out (by decide) hgd.out
            replace hnb := Lib.hid hnb
            simp only [UInt8.toNat_zero, Int.natCast_zero] at hc
            clear hcb h128 hst
            go_wp2_with fail
            go_quiet (fail)
            go_wp2_with fail
            go_quiet (fail)
            go_wp2_with fail
            go_quiet (fail)
            go_wp2_with fail
            go_ret2
            rw [hnb.out]
            exact ⟨rfl, ((hR.out.drewN _).err 3).drewN _, grown_trans (grown_trans (grown_drewN _ _ _) (grown_set _ _ _ _)) (grown_drewN _ _ _)⟩
          · have hz0 : ((c.toNat : Int) == 0) = false := by
              rw [beq_eq_false_iff_ne]
              intro h
              exact hz (UInt8.toNat_inj.1 (by rw [UInt8.toNat_zero]; omega))
            have hnb := nextB_val (l.drop k) most 5 (by decide) (by rw [List.length_drop]; omega) hall.out (by rw [hgd.out]; omega) (by rw [hgd.out]; exact fun h => hz h.2)
            clear hz
            obtain ⟨V, hV⟩ : ∃ V, V = val7 ((l.drop k).take (5 + 1)) := ⟨_, rfl⟩
            have hst := hst.out
            rw [← hV] at hst hnb
            have hVb := val7_lt ((l.drop k).take (5 + 1))
            rw [← hV] at hVb
            clear hV
            have hVb2 : V < 128 ^ 6 := Nat.lt_of_lt_of_le hVb (Nat.pow_le_pow_right (by decide) (by rw [List.length_take]; omega))
            clear hVb
            simp only [Nat.reducePow] at hVb2
            by_cases hb1 : maxNum < V
            · rw [if_pos (.inl hb1)] at hnb
              replace hnb := Lib.hid hnb
              have m1 : (1099511627776 : Int) < (V : Int) := by unfold maxNum at hb1; omega
              clear hb1
              go_wp2_with fail
              go_quiet (fail)
              go_wp2_with fail
              go_quiet (fail)
              go_wp2_with fail
              go_quiet (fail)
              go_wp2_with fail
              go_ret2
              rw [hnb.out]
              exact ⟨rfl, ((hR.out.drewN _).err 4).drewN _, grown_trans (grown_trans (grown_drewN _ _ _) (grown_set _ _ _ _)) (grown_drewN _ _ _)⟩
            · by_cases hb2 : most < (V : Int)
              · rw [if_pos (.inr hb2)] at hnb
                replace hnb := Lib.hid hnb
                have m1 : (V : Int) ≤ 1099511627776 := by unfold maxNum at hb1; omega
                clear hb1
                go_wp2_with fail
                go_quiet (fail)
                go_wp2_with fail
                go_quiet (fail)
                go_wp2_with fail
                go_quiet (fail)
                go_wp2_with fail
                go_ret2
                rw [hnb.out]
                exact ⟨rfl, ((hR.out.drewN _).err 4).drewN _, grown_trans (grown_trans (grown_drewN _ _ _) (grown_set _ _ _ _)) (grown_drewN _ _ _)⟩
              · rw [if_neg (fun h => h.elim hb1 hb2)] at hnb
                replace hnb := Lib.hid hnb
                have m1 : (V : Int) ≤ 1099511627776 := by unfold maxNum at hb1; omega
                clear hb1
                have w4 : IntKind.i64.wrap ((k : Int) + 5 + 1) = (k : Int) + 5 + 1 := IntWalk.i64_in _ (by omega)
                go_wp2_with fail
                go_quiet (fail)
                go_wp2_with fail
                go_quiet (fail)
                go_wp2_with fail
                go_quiet (fail)
                go_wp2_with fail
                go_ret2
                rw [hnb.out]
                exact ⟨rfl, (hR.out.drewN _).drewN _, grown_trans (grown_drewN _ _ _) (grown_drewN _ _ _)⟩
    · have hnb := nextB_six (l.drop k) most (by rw [List.length_drop]; omega) hall.out
      replace hnb := Lib.hid hnb
      go_wp2_with fail
      go_quiet (fail)
      go_wp2_with fail
      go_ret2
      rw [hnb.out]
      exact ⟨rfl, ((hR.out.drewN _).err 3).drewN _, grown_trans (grown_trans (grown_drewN _ _ _) (grown_set _ _ _ _)) (grown_drewN _ _ _)⟩

end Go.Proofs.Ytlhpibniecfofaa
end

section
/- The walks of the reference's Reader of numbers, texts and truths. -/
set_option linter.unusedSimpArgs false
set_option linter.unusedVariables false
namespace Go.Proofs.Ytlhpibniecfofaa
open Go.RowKit Go.Ofp

theorem getD_get (s : ByteArray) (i : Nat) (h : i < s.size) : s.data.toList.getD i 0 = s[i] := by
  have h' : i < s.data.toList.length := by simpa using h
  rw [List.getD_eq_getElem?_getD, List.getElem?_eq_getElem h']
  rfl

set_option maxRecDepth 100000 in
set_option maxHeartbeats 2000000 in
theorem rnext_any (s : ByteArray) (most : Int) (w : World) (hs : s.size ≤ maxLen) :
    Calls Try.prog 99 #[.string s, .int .i64 most] w fun e w' =>
      e = .returned (.tuple #[.int .i64 (nextB s.data.toList most).1, .int .i64 (nextB s.data.toList most).2.1, .int .i64 (nextB s.data.toList most).2.2]) ∧ w = w' := by
  unfold maxLen at hs
  have hlen : s.data.toList.length = s.size := by simp
  replace hlen := Lib.hid hlen
  go_enter Try.func99, Try.ntmps99
  go_wp2_with fail
  go_loopg [7] 6 (fun gk i wr => ∃ n : Nat, n + gk = 6 ∧ w = wr ∧ i = .int .i64 n ∧ n ≤ s.size ∧ ∀ i, i < n → 128 ≤ (s.data.toList.getD i 0).toNat)
  case atStart => exact ⟨0, rfl, rfl, rfl, by omega, fun i h => by omega⟩
  case round =>
    obtain ⟨n, hn, rfl, rfl, hns, hall⟩ := hrel
    replace hall := Lib.hid hall
    by_cases h6 : n = 6
    · have hnb := nextB_six s.data.toList most (by rw [hlen.out]; omega) (by rw [← h6]; exact hall.out)
      subst h6
      replace hnb := Lib.hid hnb
      go_wp2_with fail
      go_ret3
      rw [hnb.out]
      exact ⟨rfl, rfl⟩
    have hn6 : n < 6 := by omega
    clear h6
    by_cases hend : n = s.size
    · have hnb := nextB_short s.data.toList most n hn6 (by rw [hlen.out]; exact hend) hall.out
      have he0 : ((s.size : Int) == 6) = false := by rw [beq_eq_false_iff_ne]; omega
      subst hend
      replace hnb := Lib.hid hnb
      go_wp2_with fail
      go_ret3
      rw [hnb.out]
      exact ⟨rfl, rfl⟩
    have hlt : n < s.size := by omega
    clear hend
    have hgd := getD_get s n hlt
    obtain ⟨c, hc⟩ : ∃ c, c = s[n] := ⟨_, rfl⟩
    have hcb := c.toNat_lt
    rw [← hc] at hgd
    replace hgd := Lib.hid hgd
    have hc' : s[n] = c := hc.symm
    clear hc
    by_cases h128 : 128 ≤ c.toNat
    · go_wp2_with fail
      go_roundg (gk - 1)
      case measure => omega
      case rel =>
        refine ⟨n + 1, by omega, rfl, by go_num, by omega, ?_⟩
        intro i hi
        rcases Nat.lt_or_ge i n with h | h
        · exact hall.out i h
        · obtain rfl : i = n := by omega
          rw [hgd.out]; exact h128
    · have he0 : ((n : Int) == 6) = false := by rw [beq_eq_false_iff_ne]; omega
      have he1 : ((n : Int) == (s.size : Int)) = false := by rw [beq_eq_false_iff_ne]; omega
      by_cases hz : 0 < n ∧ c = 0
      · obtain ⟨hn0, rfl⟩ := hz
        have hnb := nextB_zero s.data.toList most n hn6 (by rw [hlen.out]; exact hlt) hall.out hn0 hgd.out
        replace hnb := Lib.hid hnb
        go_wp2_with fail
        go_ret3
        rw [hnb.out]
        exact ⟨rfl, rfl⟩
      · have hnb := nextB_val s.data.toList most n hn6 (by rw [hlen.out]; exact hlt) hall.out (by rw [hgd.out]; omega) (by rw [hgd.out]; exact hz)
        replace hnb := Lib.hid hnb
        have hz2 : (decide (0 < n) = true ∧ decide ((0 : Int) < (n : Int)) = true ∧ ((c.toNat : Int) == 0) = false) ∨ (decide (0 < n) = false ∧ decide ((0 : Int) < (n : Int)) = false) := by
          rcases Nat.eq_zero_or_pos n with h | h
          · right
            exact ⟨decide_eq_false (by omega), decide_eq_false (by omega)⟩
          · refine .inl ⟨decide_eq_true h, decide_eq_true (by omega), ?_⟩
            rw [beq_eq_false_iff_ne]
            intro h2
            exact hz ⟨h, UInt8.toNat_inj.1 (by rw [UInt8.toNat_zero]; omega)⟩
        clear hz
        obtain ⟨L, hL⟩ : ∃ L, L = s.data.toList.take (n + 1) := ⟨_, rfl⟩
        have hLl : L.length = n + 1 := by rw [hL, List.length_take, hlen.out]; omega
        have hLg : ∀ i (h : i < n + 1), L[i]'(by omega) = s[i]'(by omega) := by
          intro i h
          simp only [hL, List.getElem_take]
          rfl
        have hvl := val7_lt L
        have hV6 : val7 L < 128 ^ 6 := Nat.lt_of_lt_of_le hvl (Nat.pow_le_pow_right (by decide) (by omega))
        rw [← hL] at hnb
        clear hL
        simp only [Nat.reducePow] at hV6
        replace hLl := Lib.hid hLl
        replace hLg := Lib.hid hLg
        replace hnb := Lib.hid hnb
        clear hvl
        rcases hz2 with ⟨hd0, hd1, hz2⟩ | ⟨hd0, hd1⟩
        all_goals
          go_wp2_with fail
          go_loopg [8, 9] (n + 2) (fun gk v i wr => w = wr ∧ ((∃ j : Nat, gk = j + 2 ∧ j ≤ n ∧ i = .int .i64 j ∧ v = .int .i64 (val7 (L.drop (j + 1)) : Int)) ∨ (gk = 1 ∧ i = .int .i64 (-1) ∧ v = .int .i64 (val7 L : Int))))
          case atStart => exact ⟨rfl, .inl ⟨n, rfl, Nat.le_refl _, rfl, by rw [List.drop_eq_nil_of_le (by rw [hLl.out]; omega)]; rfl⟩⟩
          case round =>
            obtain ⟨rfl, ⟨j, hg, hj, rfl, rfl⟩ | ⟨hg, rfl, rfl⟩⟩ := hrel
            · have hjs : j < s.size := by omega
              have hb2 := s[j].toNat_lt
              have hval : val7 (L.drop j) = s[j].toNat % 128 + 128 * val7 (L.drop (j + 1)) := by
                rw [List.drop_eq_getElem_cons (by rw [hLl.out]; omega), val7, hLg.out j (by omega)]
              have hvb : val7 (L.drop (j + 1)) < 128 ^ 6 := Nat.lt_of_lt_of_le (val7_lt _) (Nat.pow_le_pow_right (by decide) (by rw [List.length_drop, hLl.out]; omega))
              simp only [Nat.reducePow] at hvb
              obtain ⟨u, hu⟩ : ∃ u, u = val7 (L.drop (j + 1)) := ⟨_, rfl⟩
              rw [← hu] at hval hvb ⊢
              clear hu
              replace hval := Lib.hid hval
              replace hg := Lib.hid hg
              go_wp2_with fail
              go_roundg (gk - 1)
              case measure => have := hg.out; omega
              case rel =>
                refine ⟨rfl, ?_⟩
                rcases j with _ | j
                · refine .inr ⟨by have := hg.out; omega, by go_num, congrArg (Value.int .i64) ?_⟩
                  have := hval.out
                  rw [List.drop_zero] at this
                  rw [this]
                  omega
                · refine .inl ⟨j, by have := hg.out; omega, by omega, by go_num, congrArg (Value.int .i64) ?_⟩
                  rw [hval.out]
                  omega
            · by_cases hbig : maxNum < val7 L
              · have hnb2 := hnb.out
                rw [if_pos (.inl hbig)] at hnb2
                replace hnb2 := Lib.hid hnb2
                have m1 : (1099511627776 : Int) < (val7 L : Int) := by unfold maxNum at hbig; omega
                clear hbig
                go_wp2_with fail
                go_ret3
                rw [hnb2.out]
                exact ⟨rfl, rfl⟩
              by_cases hb2 : most < (val7 L : Int)
              · have hnb2 := hnb.out
                rw [if_pos (.inr hb2)] at hnb2
                replace hnb2 := Lib.hid hnb2
                have m1 : (val7 L : Int) ≤ 1099511627776 := by unfold maxNum at hbig; omega
                clear hbig
                go_wp2_with fail
                go_ret3
                rw [hnb2.out]
                exact ⟨rfl, rfl⟩
              · have hnb2 := hnb.out
                rw [if_neg (fun h => h.elim hbig hb2)] at hnb2
                replace hnb2 := Lib.hid hnb2
                have m1 : (val7 L : Int) ≤ 1099511627776 := by unfold maxNum at hbig; omega
                clear hbig
                go_wp2_with fail
                go_ret3
                rw [hnb2.out]
                exact ⟨rfl, rfl⟩

end Go.Proofs.Ytlhpibniecfofaa
end

section
/- The walks of octet's Reader and of the reference's, each method. -/
set_option linter.unusedSimpArgs false
set_option linter.unusedVariables false
namespace Go.Proofs.Ytlhpibniecfofaa
open Go.RowKit Go.Ofp

/-- A reader, by what is left. -/
def RdR (w : World) (g : Nat) (r : List UInt8) (e : Int) : Prop := ∃ l k, Rd w g l k e ∧ l.drop k = r

theorem RdR.keep {w w' : World} {g : Nat} {r : List UInt8} {e : Int} (h : RdR w g r e) (hb : Below w.heap.size w w') : RdR w' g r e := by
  obtain ⟨l, k, h1, h2⟩ := h
  exact ⟨l, k, h1.keep hb, h2⟩

theorem rd_num (g : Nat) (r : List UInt8) (e most : Int) (w : World) (h : RdR w g r e) :
    Calls Try.prog 74 #[.pointer (some ⟨g, 0, none⟩), .int .i64 most] w fun x w' =>
      x = .returned (.int .i64 (rdNum r e most).1) ∧ RdR w' g (rdNum r e most).2.1 (rdNum r e most).2.2 ∧ w.grownBy w' (some g) := by
  obtain ⟨l, k, hR, rfl⟩ := h
  have hR0 := hR
  obtain ⟨a, cap, hw, hs, hoff, hlc, hcm, hk⟩ := hR0
  unfold maxLen at hcm
  have c2 := hw.cell 2
  simp at c2
  clear hw hs hoff
  by_cases he : e = 0
  · subst he
    obtain ⟨⟨v, n, x⟩, hV⟩ : ∃ V, V = nextB (l.drop k) most := ⟨_, rfl⟩
    have hnc := nextB_cases (l.drop k) most
    have e1 : rdNum (l.drop k) 0 most = ((nextB (l.drop k) most).1, (l.drop k).drop (nextB (l.drop k) most).2.1, (nextB (l.drop k) most).2.2) := rfl
    rw [← hV] at hnc e1
    rw [e1]
    have hle : k + n ≤ l.length := by
      rw [List.length_drop] at hnc
      simp only at hnc
      omega
    clear hnc e1
    replace hV := Lib.hid hV
    replace hR := Lib.hid hR
    go_enter Try.func74, Try.ntmps74
    go_wp2_with fail
    refine (peek_any g l k most _ hR.out).mono ?_
    rintro y w1 ⟨rfl, hR1, hg1⟩
    rw [← hV.out] at hR1 ⊢
    have hR1' := hR1
    obtain ⟨a1, cap1, hw1, hs1, hoff1, hlc1, hcm1, hk1⟩ := hR1'
    have c1 := hw1.cell 1
    have f1 := hw1.frozen 1
    simp at c1
    clear hw1 hs1 hoff1
    replace hR1 := Lib.hid hR1
    go_wp2_with fail
    go_ret
    refine ⟨rfl, ⟨l, k + n, by have := hR1.out.place (k + n) hle; rw [Int.natCast_add] at this; exact this, by rw [List.drop_drop]⟩, grown_trans hg1 (grown_set _ _ _ _)⟩
  · have e1 : rdNum (l.drop k) e most = (0, l.drop k, e) := by rw [rdNum, if_pos he]
    rw [e1]
    have hne : (e != 0) = true := by rw [bne_iff_ne]; exact he
    clear he
    replace hR := Lib.hid hR
    go_enter Try.func74, Try.ntmps74
    go_wp2_with fail
    go_ret
    exact ⟨rfl, ⟨l, k, hR.out, rfl⟩, grown_refl _ _⟩

theorem rd_err (g : Nat) (r : List UInt8) (e : Int) (w : World) (h : RdR w g r e) :
    Calls Try.prog 75 #[.pointer (some ⟨g, 0, none⟩)] w fun x w' => x = .returned (.int .i64 e) ∧ w = w' := by
  obtain ⟨l, k, ⟨a, cap, hw, hs, hoff, hlc, hcm, hk⟩, rfl⟩ := h
  have c2 := hw.cell 2
  simp at c2
  clear hw hs hoff hcm
  go_enter Try.func75, Try.ntmps75
  go_wp2_with fail
  go_ret
  exact ⟨rfl, rfl⟩

theorem rd_new (a : Option Addr) (l : List UInt8) (n cap : Nat) (w : World) (hn : n = l.length) (h : Sl w a (l.map vb)) (hl : n ≤ 1000000) :
    Calls Try.prog 73 #[.slice a n cap] w fun x w' => ∃ g, x = .returned (.pointer (some ⟨g, 0, none⟩)) ∧ w.heap.size ≤ g ∧ RdR w' g l 0 ∧ Below w.heap.size w w' := by
  replace hn := Lib.hid hn
  replace h := Lib.hid h
  go_enter Try.func73, Try.ntmps73
  go_wp2_with (first
    | (at_make; refine wpList_mkfull rfl rfl Try.underlying127 elem_u8 rfl rfl n rfl rfl (by omega) (by unfold maxLen; omega) ?_; intro w1 ho1 hg1)
    | (with_reducible refine wpList_copy_all (s := .tmp 7) (x := .tmp 8) rfl rfl Try.underlying127 elem_u8 ho1 rfl (Src.slice Try.underlying127 (h.out.below (below_grown hg1)) (by simp [hn.out])) rfl (vb_one _) ?_; intro w2 ho2 hg2))
  go_ret
  have hlt : w.heap.size < w2.heap.size := (ho2.lt w.heap.size rfl).2
  have hB : Below w.heap.size w w2 := (below_grown hg1).trans (below_of_grown hg2 (Nat.le_refl _) (hg1 none).size)
  obtain ⟨a2, c2, e2, hs2, _⟩ := owns_sl ho2
  cases e2
  refine ⟨_, rfl, by omega, ⟨l, 0, ⟨some ⟨w.heap.size, 0, none⟩, n, ?_, hs2.below ((Below.refl _ _).alloc (Nat.le_refl _) _), ?_, by rw [hn.out]; exact Nat.le_refl _, by unfold maxLen; omega, Nat.zero_le _⟩, rfl⟩, hB.alloc hB.size _⟩
  · rw [← hn.out]
    exact Whole.new w2 _ _
  · intro b off hb
    cases hb
    omega

end Go.Proofs.Ytlhpibniecfofaa
end
