/- Roots: their sectors. -/
import Derived.Test.YtlhpibniecfofaaRoot1
import Derived.Test.YtlhpibniecfofaaSt9
import Derived.Test.YtlhpibniecfofaaOctet
import Derived.Test.YtlhpibniecfofaaSum
import Derived.Test.YtlhpibniecfofaaDisk9
import Derived.Test.YtlhpibniecfofaaSt6
set_option linter.unusedSimpArgs false
set_option linter.unusedVariables false
namespace Go.Proofs.Ytlhpibniecfofaa
open Go.RowKit Go.Ofp
set_option linter.unusedVariables false
set_option maxRecDepth 100000
set_option maxHeartbeats 4000000

def zeros (n : Nat) : List UInt8 := List.replicate n 0
theorem elem_sector : Elem Try.prog 130 (.agg ((zeros 64).map vb).toArray) 64 64 := Elem.mk (by kernel_rfl) (by rfl) (by decide)
theorem word_front (z : Value) : True := trivial

theorem laid_front (l : List UInt8) (h : l.length ≤ 60) : ((((zeros 64).map vb).toArray.toList.take 0 ++ l.map vb ++ ((zeros 64).map vb).toArray.toList.drop (0 + l.length)).toArray : Array Value) = ((l ++ zeros (60 - l.length) ++ zeros 4).map vb).toArray := by
  have e : zeros 64 = zeros l.length ++ (zeros (60 - l.length) ++ zeros 4) := by
    unfold zeros
    rw [List.replicate_append_replicate, List.replicate_append_replicate]
    congr 1
    omega
  simp only [List.take_zero, List.nil_append, Nat.zero_add]
  rw [e]
  simp [zeros]

theorem of_root (x : Rt) (w : World) : Calls Try.prog 76 #[.agg #[.int .i64 x.seq, .int .i64 x.life, .int .i64 x.head]] w fun e w' => e = .returned (.agg (x.secB.map vb).toArray) ∧ Below w.heap.size w w' := by
  have hS := St.start w
  have es := elem_sector
  have eb : Elem Try.prog 5 (.int .u8 0) 1 1 := elem_u8
  generalize hz : ((zeros 64).map vb).toArray = z64 at es
  have hz0 := hz
  obtain ⟨c1, hc1⟩ : ∃ c, clampN x.seq = c := ⟨_, rfl⟩
  obtain ⟨c2, hc2⟩ : ∃ c, clampN x.life = c := ⟨_, rfl⟩
  obtain ⟨c3, hc3⟩ : ∃ c, clampN x.head = c := ⟨_, rfl⟩
  have l1 := numB_six c1 (hc1 ▸ clampN_le _)
  have l2 := numB_six c2 (hc2 ▸ clampN_le _)
  have l3 := numB_six c3 (hc3 ▸ clampN_le _)
  have n1 := fun (a : Option Addr) cap W h hc => num_any a [114, 111, 111, 116] 4 cap x.seq W rfl h (by omega) hc
  have n2 := fun (a : Option Addr) m cap W hm h hl hc => num_any a ([114, 111, 111, 116] ++ numB c1) m cap x.life W hm h hl hc
  have n3 := fun (a : Option Addr) m cap W hm h hl hc => num_any a ([114, 111, 111, 116] ++ numB c1 ++ numB c2) m cap x.head W hm h hl hc
  rw [hc1] at n1
  rw [hc2] at n2
  rw [hc3] at n3
  obtain ⟨F1, hF1⟩ : ∃ l, [114, 111, 111, 116] ++ numB c1 = l := ⟨_, rfl⟩
  obtain ⟨F2, hF2⟩ : ∃ l, F1 ++ numB c2 = l := ⟨_, rfl⟩
  obtain ⟨F3, hF3⟩ : ∃ l, F2 ++ numB c3 = l := ⟨_, rfl⟩
  rw [hF1] at n1 n2 n3
  rw [hF2] at n2 n3
  rw [hF3] at n3
  have m1 : 4 + (numB c1).length = F1.length := by rw [← hF1]; simp; omega
  have m2 : F1.length + (numB c2).length = F2.length := by rw [← hF2]; simp
  have m3 : F2.length + (numB c3).length = F3.length := by rw [← hF3]; simp
  rw [m1] at n1
  have hfr : F3 = x.front := by rw [← hF3, ← hF2, ← hF1, ← hc1, ← hc2, ← hc3]; rfl
  have hlf := x.front_length
  rw [← hfr] at hlf
  have hbody : x.body = F3 ++ zeros (60 - F3.length) := by rw [hfr]; rfl
  have hbl := x.body_length
  have hlaid := laid_front F3 (by omega)
  rw [hz, ← hbody] at hlaid
  have hsl := x.secB_length
  have hseal := fun (a : Option Addr) cap W h => seal_any a x.body cap W h (by omega)
  rw [show sealed x.body = x.secB from rfl, hbl] at hseal
  have hall : ((z64.toList.take 0 ++ x.secB.map vb ++ z64.toList.drop (0 + 64)).toArray : Array Value) = (x.secB.map vb).toArray := by
    rw [← hz]
    simp [zeros]
  have hsz64 : z64.size = 64 := by rw [← hz]; simp [zeros]
  have hbt : ((x.body ++ zeros 4).map vb).take 60 = x.body.map vb := by rw [List.map_append, List.take_left' (by simp [hbl])]
  have hbuild : ∀ W : World, (Instr.buildSlice 127 4 [(0, Value.int .u8 114), (1, .int .u8 111), (2, .int .u8 111), (3, .int .u8 116)].toArray).run Try.prog W = .ok (.slice (some ⟨W.heap.size, 0, none⟩) 4 4) (W.alloc (.cells (List.map vb [114, 111, 111, 116]).toArray 5)) := fun W => by kernel_rfl
  replace n2 := fun (a : Option Addr) cap W h hc => n2 a F1.length cap W rfl h (by omega) hc
  replace n3 := fun (a : Option Addr) cap W h hc => n3 a F2.length cap W rfl h (by omega) hc
  rw [m2] at n2
  rw [m3] at n3
  replace hseal : ∀ (a : Option Addr) (cap : Nat) (W : World), Sl W a (x.body.map vb) → Calls Try.prog 98 #[.slice a 60 cap] W fun e w' => ∃ v, e = .returned v ∧ w'.ownsRow W.heap.size 5 1 v 64 (x.secB.map vb) ∧ Below W.heap.size W w' := hseal
  have hrow : rowB Try.prog 130 = true := by simp [rowB, go_sem]
  have hszs : sizeB Try.prog 130 (x.secB.map vb).toArray.size = true := by rw [List.size_toArray, List.length_map, hsl]; kernel_rfl
  have hone := vb_one x.secB
  have hone3 := vb_one F3
  have hsl2 : (x.secB.map vb).length = 64 := by rw [List.length_map, hsl]
  have hpre : ∀ (W : World) (a : Option Addr), Sl W a ((x.body ++ zeros 4).map vb) → Sl W a (x.body.map vb) := by
    intro W a h i hi
    rw [List.map_append] at h
    obtain ⟨b, off, e, hc⟩ := h i (by simp at hi ⊢; omega)
    exact ⟨b, off, e, by rw [hc, List.getElem_append_left (by simpa using hi)]⟩
  generalize x.secB = SB at *
  generalize hB : x.body = B at *
  have hone' : (SB.map vb).all Value.oneCell' = true := List.all_eq_true.2 hone
  have hsd : (Try.prog.info? 130).map (·.size) = some (SB.map vb).toArray.size := by
    rw [List.size_toArray, hsl2]
    kernel_rfl
  clear hF1 hF2 hF3 m1 m2 m3 l1 l2 l3 hc1 hc2 hc3 hz hz0 hfr hbody hB hbt
  replace n1 := Lib.hid n1
  replace n2 := Lib.hid n2
  replace n3 := Lib.hid n3
  replace hseal := Lib.hid hseal
  replace hlaid := Lib.hid hlaid
  replace hall := Lib.hid hall
  replace hpre := Lib.hid hpre
  replace hbuild := Lib.hid hbuild
  replace hone3 := Lib.hid hone3
  replace hone := Lib.hid hone
  replace hone' := Lib.hid hone'
  replace hsl2 := Lib.hid hsl2
  replace hbl := Lib.hid hbl
  replace hsl := Lib.hid hsl
  replace hszs := Lib.hid hszs
  replace hsd := Lib.hid hsd
  replace hsz64 := Lib.hid hsz64
  have hF3l : Hid ((F3.map vb).length = F3.length) := Lib.hid (List.length_map _)
  have hble : Nat.ble (0 + 64) z64.size = true := by rw [hsz64.out]; rfl
  replace hble := Lib.hid hble
  go_enter Try.func76, Try.ntmps76
  go_wp2_with (first | (with_reducible refine wpList_box_st hS rfl rfl rfl ?_; intro g1 w1 hS1; clear hS; replace hS := hS1; clear hS1) | (with_reducible refine wpList_box1_st hS rfl rfl rfl ?_; intro g1 w1 hS1; clear hS; replace hS := hS1; clear hS1) | (with_reducible refine wpList_alloc_st hS rfl rfl (by assumption) ?_; intro g1 w1 hS1; clear hS; replace hS := hS1; clear hS1) | (with_reducible refine wpList_alloc1_st hS rfl rfl (by assumption) rfl ?_; intro g1 w1 hS1; clear hS; replace hS := hS1; clear hS1) | ((with_reducible refine wpList_load_st 0 hS rfl rfl rfl rfl ?_ rfl ?_); focus (simp [scalarB, go_sem]; done)) | ((with_reducible refine wpList_loadall_st 0 hS rfl rfl rfl rfl ?_ (by kernel_rfl) ?_); focus (simp [rowB, go_sem]; done)) | ((with_reducible refine wpList_store_st 0 hS rfl rfl rfl rfl (by kernel_rfl) rfl rfl ?_); intro w1 hS1; clear hS; replace hS := hS1; clear hS1; try simp only [List.set_cons_zero, List.set_cons_succ, List.setIfInBounds_toArray, List.take_succ_cons, List.take_zero, List.drop_succ_cons, List.drop_zero, List.nil_append, List.cons_append, List.append_nil, List.drop_nil, List.take_nil, List.length_cons, List.length_nil, Nat.zero_add, Nat.add_zero, Nat.reduceAdd] at hS) | ((with_reducible refine wpList_storerow_st 0 hS rfl rfl rfl rfl (by kernel_rfl) rfl rfl rfl rfl ?_); intro w1 hS1; clear hS; replace hS := hS1; clear hS1; try simp only [List.set_cons_zero, List.set_cons_succ, List.setIfInBounds_toArray, List.take_succ_cons, List.take_zero, List.drop_succ_cons, List.drop_zero, List.nil_append, List.cons_append, List.append_nil, List.drop_nil, List.take_nil, List.length_cons, List.length_nil, Nat.zero_add, Nat.add_zero, Nat.reduceAdd] at hS))
  refine mixs_beginC 1 (by kernel_rfl) hS rfl ?_
  clear hS
  intro w2 hS hC
  have kC := hC.kblk 0 rfl
  refine mixs_take 2 (v := ?_) rfl (by kernel_rfl) (fun _ _ _ h => h) (by kernel_rfl) (by assumption) (fun s => ?hy) ?_; case hy => (go_simp <;> with_reducible rfl)
  try simp only [List.getElem_toArray, List.getElem_cons_succ, List.getElem_cons_zero, Act.put, List.setIfInBounds_toArray, List.set_cons_zero, List.set_cons_succ]
  refine mixs_take 3 (v := ?_) rfl (by kernel_rfl) (fun _ _ _ h => h) (by kernel_rfl) (by assumption) (fun s => ?hy) ?_; case hy => (go_simp <;> with_reducible rfl)
  try simp only [List.getElem_toArray, List.getElem_cons_succ, List.getElem_cons_zero, Act.put, List.setIfInBounds_toArray, List.set_cons_zero, List.set_cons_succ]
  refine mixs_take 5 (v := ?_) rfl (by kernel_rfl) (fun _ _ _ h => h) (by kernel_rfl) (by assumption) (fun s => ?hy) ?_; case hy => (go_simp <;> with_reducible rfl)
  try simp only [List.getElem_toArray, List.getElem_cons_succ, List.getElem_cons_zero, Act.put, List.setIfInBounds_toArray, List.set_cons_zero, List.set_cons_succ]
  refine mixs_take 6 (v := ?_) rfl (by kernel_rfl) (fun _ _ _ h => h) (by kernel_rfl) (by assumption) (fun s => ?hy) ?_; case hy => (go_simp <;> with_reducible rfl)
  try simp only [List.getElem_toArray, List.getElem_cons_succ, List.getElem_cons_zero, Act.put, List.setIfInBounds_toArray, List.set_cons_zero, List.set_cons_succ]
  refine mixs_take 8 (v := ?_) rfl (by kernel_rfl) (fun _ _ _ h => h) (by kernel_rfl) (by assumption) (fun s => ?hy) ?_; case hy => (go_simp <;> with_reducible rfl)
  try simp only [List.getElem_toArray, List.getElem_cons_succ, List.getElem_cons_zero, Act.put, List.setIfInBounds_toArray, List.set_cons_zero, List.set_cons_succ]
  refine mixs_take 9 (v := ?_) rfl (by kernel_rfl) (fun _ _ _ h => h) (by kernel_rfl) (by assumption) (fun s => ?hy) ?_; case hy => (go_simp <;> with_reducible rfl)
  try simp only [List.getElem_toArray, List.getElem_cons_succ, List.getElem_cons_zero, Act.put, List.setIfInBounds_toArray, List.set_cons_zero, List.set_cons_succ]
  refine mixs_one 0 (by kernel_rfl) rfl (fun K hK => ?_)
  ( first | (refine op_buildr_st (by kernel_rfl) hS hbuild.out rfl rfl ?_; intro g5 w3 hS1; clear hS; have hS := hS1; clear hS1) | (refine op_same_st (by kernel_rfl) 0 hS rfl rfl Try.underlying127 Try.underlying5 rfl ?_; intro w4 hS1; clear hS; have hS : St w [] (Ch.read g5 (List.map vb [114, 111, 111, 116]) :: _) w4 := hS1; clear hS1) | (go_at_call 97; (with_reducible refine (n1.out _ _ _ (hS.readsl 0 rfl) (by omega)).mono ?_); rintro _ w5 ⟨v5, rfl, ho5, hb5⟩; have hS1 := hS.freshB ho5 hb5; clear hS ho5 hb5; have hS := hS1; clear hS1; obtain ⟨a5, c5, rfl, -, -, hcap5, -⟩ := hS.row 0 rfl) | (go_at_call 97; (with_reducible refine (n2.out _ _ _ (hS.rowsl 0 rfl) hcap5).mono ?_); rintro _ w6 ⟨v6, rfl, ho6, hb6⟩; have hS1 := hS.freshB ho6 hb6; clear hS ho6 hb6; have hS := hS1; clear hS1; obtain ⟨a6, c6, rfl, -, -, hcap6, -⟩ := hS.row 0 rfl) | (go_at_call 97; (with_reducible refine (n3.out _ _ _ (hS.rowsl 0 rfl) hcap6).mono ?_); rintro _ w7 ⟨v7, rfl, ho7, hb7⟩; have hS1 := hS.freshB ho7 hb7; clear hS ho7 hb7; have hS := hS1; clear hS1; obtain ⟨a7, c7, rfl, -, -, hcap7, -⟩ := hS.row 0 rfl) )
  try clear hC
  refine hK.out _ _ _ (fun _ h => h) (by first | exact hS | exact hS.drop | exact hS.drop.drop | exact hS.drop.drop.drop | exact hS.drop.drop.drop.drop | exact hS.empty | exact hS.one 0 rfl | exact hS.one 1 rfl | exact hS.one 2 rfl | exact hS.one 3 rfl | exact hS.one 4 rfl | exact hS.one 5 rfl | exact hS.one 6 rfl | exact hS.one 7 rfl | exact hS.one 8 rfl | exact hS.one 9 rfl | exact hS.one 10 rfl | exact hS.one 11 rfl) (fun hC => ?_)
  clear hK K
  try simp only [List.getElem_toArray, List.getElem_cons_succ, List.getElem_cons_zero, Act.put, List.setIfInBounds_toArray, List.set_cons_zero, List.set_cons_succ]
  refine mixs_one 1 (by kernel_rfl) rfl (fun K hK => ?_)
  ( first | (refine op_buildr_st (by kernel_rfl) hS hbuild.out rfl rfl ?_; intro g5 w3 hS1; clear hS; have hS := hS1; clear hS1) | (refine op_same_st (by kernel_rfl) 0 hS rfl rfl Try.underlying127 Try.underlying5 rfl ?_; intro w4 hS1; clear hS; have hS : St w [] (Ch.read g5 (List.map vb [114, 111, 111, 116]) :: _) w4 := hS1; clear hS1) | (go_at_call 97; (with_reducible refine (n1.out _ _ _ (hS.readsl 0 rfl) (by omega)).mono ?_); rintro _ w5 ⟨v5, rfl, ho5, hb5⟩; have hS1 := hS.freshB ho5 hb5; clear hS ho5 hb5; have hS := hS1; clear hS1; obtain ⟨a5, c5, rfl, -, -, hcap5, -⟩ := hS.row 0 rfl) | (go_at_call 97; (with_reducible refine (n2.out _ _ _ (hS.rowsl 0 rfl) hcap5).mono ?_); rintro _ w6 ⟨v6, rfl, ho6, hb6⟩; have hS1 := hS.freshB ho6 hb6; clear hS ho6 hb6; have hS := hS1; clear hS1; obtain ⟨a6, c6, rfl, -, -, hcap6, -⟩ := hS.row 0 rfl) | (go_at_call 97; (with_reducible refine (n3.out _ _ _ (hS.rowsl 0 rfl) hcap6).mono ?_); rintro _ w7 ⟨v7, rfl, ho7, hb7⟩; have hS1 := hS.freshB ho7 hb7; clear hS ho7 hb7; have hS := hS1; clear hS1; obtain ⟨a7, c7, rfl, -, -, hcap7, -⟩ := hS.row 0 rfl) )
  try clear hC
  refine hK.out _ _ _ (fun _ h => h) (by first | exact hS | exact hS.drop | exact hS.drop.drop | exact hS.drop.drop.drop | exact hS.drop.drop.drop.drop | exact hS.empty | exact hS.one 0 rfl | exact hS.one 1 rfl | exact hS.one 2 rfl | exact hS.one 3 rfl | exact hS.one 4 rfl | exact hS.one 5 rfl | exact hS.one 6 rfl | exact hS.one 7 rfl | exact hS.one 8 rfl | exact hS.one 9 rfl | exact hS.one 10 rfl | exact hS.one 11 rfl) (fun hC => ?_)
  clear hK K
  try simp only [List.getElem_toArray, List.getElem_cons_succ, List.getElem_cons_zero, Act.put, List.setIfInBounds_toArray, List.set_cons_zero, List.set_cons_succ]
  refine mixs_one 4 (by kernel_rfl) rfl (fun K hK => ?_)
  go_simp
  ( first | (refine op_buildr_st (by kernel_rfl) hS hbuild.out rfl rfl ?_; intro g5 w3 hS1; clear hS; have hS := hS1; clear hS1) | (refine op_same_st (by kernel_rfl) 0 hS rfl rfl Try.underlying127 Try.underlying5 rfl ?_; intro w4 hS1; clear hS; have hS : St w [] (Ch.read g5 (List.map vb [114, 111, 111, 116]) :: _) w4 := hS1; clear hS1) | (go_at_call 97; (with_reducible refine (n1.out _ _ _ (hS.readsl 0 rfl) (by omega)).mono ?_); rintro _ w5 ⟨v5, rfl, ho5, hb5⟩; have hS1 := hS.freshB ho5 hb5; clear hS ho5 hb5; have hS := hS1; clear hS1; obtain ⟨a5, c5, rfl, -, -, hcap5, -⟩ := hS.row 0 rfl) | (go_at_call 97; (with_reducible refine (n2.out _ _ _ (hS.rowsl 0 rfl) hcap5).mono ?_); rintro _ w6 ⟨v6, rfl, ho6, hb6⟩; have hS1 := hS.freshB ho6 hb6; clear hS ho6 hb6; have hS := hS1; clear hS1; obtain ⟨a6, c6, rfl, -, -, hcap6, -⟩ := hS.row 0 rfl) | (go_at_call 97; (with_reducible refine (n3.out _ _ _ (hS.rowsl 0 rfl) hcap6).mono ?_); rintro _ w7 ⟨v7, rfl, ho7, hb7⟩; have hS1 := hS.freshB ho7 hb7; clear hS ho7 hb7; have hS := hS1; clear hS1; obtain ⟨a7, c7, rfl, -, -, hcap7, -⟩ := hS.row 0 rfl) )
  try clear hC
  refine hK.out _ _ _ (fun _ h => h) (by first | exact hS | exact hS.drop | exact hS.drop.drop | exact hS.drop.drop.drop | exact hS.drop.drop.drop.drop | exact hS.empty | exact hS.one 0 rfl | exact hS.one 1 rfl | exact hS.one 2 rfl | exact hS.one 3 rfl | exact hS.one 4 rfl | exact hS.one 5 rfl | exact hS.one 6 rfl | exact hS.one 7 rfl | exact hS.one 8 rfl | exact hS.one 9 rfl | exact hS.one 10 rfl | exact hS.one 11 rfl) (fun hC => ?_)
  clear hK K
  try simp only [List.getElem_toArray, List.getElem_cons_succ, List.getElem_cons_zero, Act.put, List.setIfInBounds_toArray, List.set_cons_zero, List.set_cons_succ]
  refine mixs_one 7 (by kernel_rfl) rfl (fun K hK => ?_)
  go_simp
  ( first | (refine op_buildr_st (by kernel_rfl) hS hbuild.out rfl rfl ?_; intro g5 w3 hS1; clear hS; have hS := hS1; clear hS1) | (refine op_same_st (by kernel_rfl) 0 hS rfl rfl Try.underlying127 Try.underlying5 rfl ?_; intro w4 hS1; clear hS; have hS : St w [] (Ch.read g5 (List.map vb [114, 111, 111, 116]) :: _) w4 := hS1; clear hS1) | (go_at_call 97; (with_reducible refine (n1.out _ _ _ (hS.readsl 0 rfl) (by omega)).mono ?_); rintro _ w5 ⟨v5, rfl, ho5, hb5⟩; have hS1 := hS.freshB ho5 hb5; clear hS ho5 hb5; have hS := hS1; clear hS1; obtain ⟨a5, c5, rfl, -, -, hcap5, -⟩ := hS.row 0 rfl) | (go_at_call 97; (with_reducible refine (n2.out _ _ _ (hS.rowsl 0 rfl) hcap5).mono ?_); rintro _ w6 ⟨v6, rfl, ho6, hb6⟩; have hS1 := hS.freshB ho6 hb6; clear hS ho6 hb6; have hS := hS1; clear hS1; obtain ⟨a6, c6, rfl, -, -, hcap6, -⟩ := hS.row 0 rfl) | (go_at_call 97; (with_reducible refine (n3.out _ _ _ (hS.rowsl 0 rfl) hcap6).mono ?_); rintro _ w7 ⟨v7, rfl, ho7, hb7⟩; have hS1 := hS.freshB ho7 hb7; clear hS ho7 hb7; have hS := hS1; clear hS1; obtain ⟨a7, c7, rfl, -, -, hcap7, -⟩ := hS.row 0 rfl) )
  try clear hC
  refine hK.out _ _ _ (fun _ h => h) (by first | exact hS | exact hS.drop | exact hS.drop.drop | exact hS.drop.drop.drop | exact hS.drop.drop.drop.drop | exact hS.empty | exact hS.one 0 rfl | exact hS.one 1 rfl | exact hS.one 2 rfl | exact hS.one 3 rfl | exact hS.one 4 rfl | exact hS.one 5 rfl | exact hS.one 6 rfl | exact hS.one 7 rfl | exact hS.one 8 rfl | exact hS.one 9 rfl | exact hS.one 10 rfl | exact hS.one 11 rfl) (fun hC => ?_)
  clear hK K
  try simp only [List.getElem_toArray, List.getElem_cons_succ, List.getElem_cons_zero, Act.put, List.setIfInBounds_toArray, List.set_cons_zero, List.set_cons_succ]
  refine mixs_one 10 (by kernel_rfl) rfl (fun K hK => ?_)
  go_simp
  ( first | (refine op_buildr_st (by kernel_rfl) hS hbuild.out rfl rfl ?_; intro g5 w3 hS1; clear hS; have hS := hS1; clear hS1) | (refine op_same_st (by kernel_rfl) 0 hS rfl rfl Try.underlying127 Try.underlying5 rfl ?_; intro w4 hS1; clear hS; have hS : St w [] (Ch.read g5 (List.map vb [114, 111, 111, 116]) :: _) w4 := hS1; clear hS1) | (go_at_call 97; (with_reducible refine (n1.out _ _ _ (hS.readsl 0 rfl) (by omega)).mono ?_); rintro _ w5 ⟨v5, rfl, ho5, hb5⟩; have hS1 := hS.freshB ho5 hb5; clear hS ho5 hb5; have hS := hS1; clear hS1; obtain ⟨a5, c5, rfl, -, -, hcap5, -⟩ := hS.row 0 rfl) | (go_at_call 97; (with_reducible refine (n2.out _ _ _ (hS.rowsl 0 rfl) hcap5).mono ?_); rintro _ w6 ⟨v6, rfl, ho6, hb6⟩; have hS1 := hS.freshB ho6 hb6; clear hS ho6 hb6; have hS := hS1; clear hS1; obtain ⟨a6, c6, rfl, -, -, hcap6, -⟩ := hS.row 0 rfl) | (go_at_call 97; (with_reducible refine (n3.out _ _ _ (hS.rowsl 0 rfl) hcap6).mono ?_); rintro _ w7 ⟨v7, rfl, ho7, hb7⟩; have hS1 := hS.freshB ho7 hb7; clear hS ho7 hb7; have hS := hS1; clear hS1; obtain ⟨a7, c7, rfl, -, -, hcap7, -⟩ := hS.row 0 rfl) )
  try clear hC
  refine hK.out _ _ _ (fun _ h => h) (by first | exact hS | exact hS.drop | exact hS.drop.drop | exact hS.drop.drop.drop | exact hS.drop.drop.drop.drop | exact hS.empty | exact hS.one 0 rfl | exact hS.one 1 rfl | exact hS.one 2 rfl | exact hS.one 3 rfl | exact hS.one 4 rfl | exact hS.one 5 rfl | exact hS.one 6 rfl | exact hS.one 7 rfl | exact hS.one 8 rfl | exact hS.one 9 rfl | exact hS.one 10 rfl | exact hS.one 11 rfl) (fun hC => ?_)
  clear hK K
  try simp only [List.getElem_toArray, List.getElem_cons_succ, List.getElem_cons_zero, Act.put, List.setIfInBounds_toArray, List.set_cons_zero, List.set_cons_succ]
  refine mixs_take 11 (v := ?_) rfl (by kernel_rfl) (fun _ _ _ h => h) (by kernel_rfl) (by assumption) (fun s => ?hy) ?_; case hy => (go_simp <;> with_reducible rfl)
  try simp only [List.getElem_toArray, List.getElem_cons_succ, List.getElem_cons_zero, Act.put, List.setIfInBounds_toArray, List.set_cons_zero, List.set_cons_succ]
  refine wpAnyH_done (by kernel_rfl) ?_ _
  try clear hC
  go_wp2_with (first
    | (with_reducible refine wpList_box_st hS rfl rfl rfl ?_; intro g1 w1 hS1; clear hS; replace hS := hS1; clear hS1) | (with_reducible refine wpList_box1_st hS rfl rfl rfl ?_; intro g1 w1 hS1; clear hS; replace hS := hS1; clear hS1) | (with_reducible refine wpList_alloc_st hS rfl rfl (by assumption) ?_; intro g1 w1 hS1; clear hS; replace hS := hS1; clear hS1) | (with_reducible refine wpList_alloc1_st hS rfl rfl (by assumption) rfl ?_; intro g1 w1 hS1; clear hS; replace hS := hS1; clear hS1)
    | ((with_reducible refine wpList_copysl_st 0 (xs := F3.map vb) hS rfl rfl rfl Try.underlying127 eb Try.underlying127 rfl rfl (hS.rowsl 2 rfl) hF3l.out hone3.out (by omega) (by rw [hsz64.out]; omega) ?_); intro w6 hS1; clear hS; simp only [List.set_cons_zero] at hS1; rw [hlaid.out] at hS1; have hS := hS1; clear hS1))
  simp only [Act.put, List.setIfInBounds_toArray, List.set_cons_zero, List.set_cons_succ]
  refine mixs_beginE (by kernel_rfl) hS ?_
  clear hS
  intro w7 hS hC
  refine mixs_take 0 (v := ?_) rfl (by kernel_rfl) (fun _ _ _ h => h) (by kernel_rfl) (by assumption) (fun s => ?hy) ?_; case hy => (go_simp <;> with_reducible rfl)
  try simp only [List.getElem_toArray, List.getElem_cons_succ, List.getElem_cons_zero, Act.put, List.setIfInBounds_toArray, List.set_cons_zero, List.set_cons_succ]
  refine mixs_take 1 (v := ?_) rfl (by kernel_rfl) (fun _ _ _ h => h) (by kernel_rfl) (by assumption) (fun s => ?hy) ?_; case hy => (go_simp <;> with_reducible rfl)
  try simp only [List.getElem_toArray, List.getElem_cons_succ, List.getElem_cons_zero, Act.put, List.setIfInBounds_toArray, List.set_cons_zero, List.set_cons_succ]
  refine mixs_one 2 (by kernel_rfl) rfl (fun K hK => ?_)
  go_simp
  ( first | (go_at_call 98; (with_reducible refine (hseal.out _ _ _ (hpre.out _ _ (hS.blksl2 0 rfl))).mono ?_); rintro _ w8 ⟨v8, rfl, ho8, hb8⟩; have hS1 := hS.freshB ho8 hb8; clear hS ho8 hb8; have hS := hS1; clear hS1; obtain ⟨a8, c8, rfl, -, -, hcap8, -⟩ := hS.row 0 rfl) | (refine op_copysl_st (by kernel_rfl) 2 (xs := SB.map vb) hS rfl rfl Try.underlying127 eb Try.underlying127 rfl rfl (hS.rowsl 0 rfl) hsl2.out hone.out (by omega) (by rw [hsz64.out]; omega) ?_; intro w9 hS1; clear hS; simp only [List.set_cons_succ, List.set_cons_zero] at hS1; rw [hall.out] at hS1; have hS := hS1; clear hS1) )
  try clear hC
  refine hK.out _ _ _ (fun _ h => h) (by first | exact hS | exact hS.drop | exact hS.drop.drop | exact hS.drop.drop.drop | exact hS.drop.drop.drop.drop | exact hS.empty | exact hS.one 0 rfl | exact hS.one 1 rfl | exact hS.one 2 rfl | exact hS.one 3 rfl | exact hS.one 4 rfl | exact hS.one 5 rfl | exact hS.one 6 rfl | exact hS.one 7 rfl | exact hS.one 8 rfl | exact hS.one 9 rfl | exact hS.one 10 rfl | exact hS.one 11 rfl) (fun hC => ?_)
  clear hK K
  try simp only [List.getElem_toArray, List.getElem_cons_succ, List.getElem_cons_zero, Act.put, List.setIfInBounds_toArray, List.set_cons_zero, List.set_cons_succ]
  refine mixs_one 3 (by kernel_rfl) rfl (fun K hK => ?_)
  ( first | (go_at_call 98; (with_reducible refine (hseal.out _ _ _ (hpre.out _ _ (hS.blksl2 0 rfl))).mono ?_); rintro _ w8 ⟨v8, rfl, ho8, hb8⟩; have hS1 := hS.freshB ho8 hb8; clear hS ho8 hb8; have hS := hS1; clear hS1; obtain ⟨a8, c8, rfl, -, -, hcap8, -⟩ := hS.row 0 rfl) | (refine op_copysl_st (by kernel_rfl) 2 (xs := SB.map vb) hS rfl rfl Try.underlying127 eb Try.underlying127 rfl rfl (hS.rowsl 0 rfl) hsl2.out hone.out (by omega) (by rw [hsz64.out]; omega) ?_; intro w9 hS1; clear hS; simp only [List.set_cons_succ, List.set_cons_zero] at hS1; rw [hall.out] at hS1; have hS := hS1; clear hS1) )
  try clear hC
  refine hK.out _ _ _ (fun _ h => h) (by first | exact hS | exact hS.drop | exact hS.drop.drop | exact hS.drop.drop.drop | exact hS.drop.drop.drop.drop | exact hS.empty | exact hS.one 0 rfl | exact hS.one 1 rfl | exact hS.one 2 rfl | exact hS.one 3 rfl | exact hS.one 4 rfl | exact hS.one 5 rfl | exact hS.one 6 rfl | exact hS.one 7 rfl | exact hS.one 8 rfl | exact hS.one 9 rfl | exact hS.one 10 rfl | exact hS.one 11 rfl) (fun hC => ?_)
  clear hK K
  try simp only [List.getElem_toArray, List.getElem_cons_succ, List.getElem_cons_zero, Act.put, List.setIfInBounds_toArray, List.set_cons_zero, List.set_cons_succ]
  refine wpAnyH_done (by kernel_rfl) ?_ _
  try clear hC
  go_wp2_with (first
    | (with_reducible refine wpList_loadall_st 2 hS rfl rfl rfl rfl hrow hszs.out ?_)
    | ((with_reducible refine wpList_storerow_st 7 (vs := SB.map vb) (n := 64) hS rfl rfl rfl rfl (by kernel_rfl) rfl hsl2.out hone'.out hble.out ?_); intro w10 hS1; clear hS; simp only [List.set_cons_succ, List.set_cons_zero] at hS1; rw [hall.out] at hS1; have hS := hS1; clear hS1))
  exact bodyPost_ret (results_cell_row rfl _ _ _ _ _ _ _ rfl (hS.get 7 rfl) Try.underlying130 rfl hsd.out) rfl ⟨rfl, hS.below⟩
end Go.Proofs.Ytlhpibniecfofaa
