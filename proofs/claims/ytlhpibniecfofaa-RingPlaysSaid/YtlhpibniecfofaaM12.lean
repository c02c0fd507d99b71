/- Texts laid together: Ring7 DiskRef3 DiskRef4. -/
import Derived.Test.YtlhpibniecfofaaM10
import Derived.Test.YtlhpibniecfofaaM11
import Derived.Test.YtlhpibniecfofaaM4
section
/- Rings: the reference's Records and Free. -/
set_option linter.unusedSimpArgs false
set_option linter.unusedVariables false
namespace Go.Proofs.Ytlhpibniecfofaa
open Go.RowKit Go.Ofp
set_option linter.unusedVariables false
set_option maxRecDepth 100000
set_option maxHeartbeats 8000000

theorem rfree37_any (r : Rg) (size : Nat) (w : World) (hr : r.Ok size) (hs : size ≤ 100000) :
    Calls Try.prog 52 #[.agg #[.int .i64 r.src, .int .i64 r.n, .int .i64 r.head, .int .i64 r.life, .int .i64 r.tail]] w fun e w' => e = .returned (.int .i64 r.free) ∧ Below w.heap.size w w' := by
  have hS := St.start w
  have h1 := hr.pos
  have h2 := hr.fit
  have h3 := hr.tail
  have h4 := hr.top
  obtain ⟨q, hq⟩ : ∃ q : Int, (r.tail : Int) - r.head = q := ⟨_, rfl⟩
  have e1 : IntKind.i64.wrap q = q := IntWalk.i64_in _ (by omega)
  have e2 : IntKind.i64.wrap ((r.n : Int) - q) = r.free := by unfold Rg.free; rw [IntWalk.i64_in _ (by omega)]; omega
  clear hr h1 h2 h3 h4
  go_enter Try.func52, Try.ntmps52
  go_wp2_with (first | (with_reducible refine wpList_box_st hS rfl rfl rfl ?_; intro g1 w1 hS1; clear hS; replace hS := hS1; clear hS1) | (with_reducible refine wpList_box1_st hS rfl rfl rfl ?_; intro g1 w1 hS1; clear hS; replace hS := hS1; clear hS1) | (with_reducible refine wpList_alloc_st hS rfl rfl (by assumption) ?_; intro g1 w1 hS1; clear hS; replace hS := hS1; clear hS1) | (with_reducible refine wpList_alloc1_st hS rfl rfl (by assumption) rfl ?_; intro g1 w1 hS1; clear hS; replace hS := hS1; clear hS1) | ((with_reducible refine wpList_load_st 0 hS rfl rfl rfl rfl ?_ rfl ?_); focus (simp [scalarB, go_sem]; done)) | ((with_reducible refine wpList_loadall_st 0 hS rfl rfl rfl rfl ?_ (by kernel_rfl) ?_); focus (simp [rowB, go_sem]; done)) | ((with_reducible refine wpList_store_st 0 hS rfl rfl rfl rfl (by kernel_rfl) rfl rfl ?_); intro w1 hS1; clear hS; replace hS := hS1; clear hS1; try simp only [List.set_cons_zero, List.set_cons_succ, List.setIfInBounds_toArray, List.take_succ_cons, List.take_zero, List.drop_succ_cons, List.drop_zero, List.nil_append, List.cons_append, List.append_nil, List.drop_nil, List.take_nil, List.length_cons, List.length_nil, Nat.zero_add, Nat.add_zero, Nat.reduceAdd] at hS) | ((with_reducible refine wpList_storerow_st 0 hS rfl rfl rfl rfl (by kernel_rfl) rfl rfl rfl rfl ?_); intro w1 hS1; clear hS; replace hS := hS1; clear hS1; try simp only [List.set_cons_zero, List.set_cons_succ, List.setIfInBounds_toArray, List.take_succ_cons, List.take_zero, List.drop_succ_cons, List.drop_zero, List.nil_append, List.cons_append, List.append_nil, List.drop_nil, List.take_nil, List.length_cons, List.length_nil, Nat.zero_add, Nat.add_zero, Nat.reduceAdd] at hS))
  go_ret
  exact ⟨rfl, hS.below⟩

theorem rrecords_any (sv wv : Value) (d : Dk) (r : Rg) (size k : Nat) (w w0 : World) (F : List Nat) (hD : St w0 F (rdr sv wv d) w) (h1 : 1 ≤ r.n) (h2 : r.src + r.n ≤ size) (hn : r.n ≤ 1000) (hfit : d.Fit size k) (hs : size ≤ 100000) (hk : k ≤ 100000) (hat : r.head ≤ 1099511627776) :
    Calls Try.prog 89 #[.agg #[sv, wv, .int .i64 d.fuse, .bool d.dead], .agg #[.int .i64 r.src, .int .i64 r.n, .int .i64 r.head, .int .i64 r.life]] w fun e w' => ∃ v t recs, e = .returned (.tuple #[v, .int .i64 (t : Nat)]) ∧ d.Runs r 1 r.head recs t ∧ St w [] [Ch.row 9 1 v recs.length (recs.map vs)] w' := by
  have hS := St.start w
  have cR := fun (at' : Nat) (least : Int) (ha : r.head ≤ at' ∧ at' ≤ r.head + r.n ∧ at' ≤ 1099511627776) W (hb : Below w.heap.size w W) => rrecord_any sv wv d r size k at' least W w0 F (hD.keepB hb) h1 h2 hn hfit hs hk ha
  have ex := elem_tx
  obtain ⟨fz, hfz⟩ : ∃ z, d.fuse = z := ⟨_, rfl⟩
  obtain ⟨dz, hdz⟩ : ∃ z, d.dead = z := ⟨_, rfl⟩
  rw [hfz, hdz] at cR ⊢
  clear hD hfit hs hk hfz hdz h2
  replace cR := Lib.hid cR
  go_enter Try.func89, Try.ntmps89
  go_wp2_with (first
    | ((with_reducible refine wpList_build0_st hS rfl rfl Try.underlying26 ex ?_); intro g3 w3 hS1; clear hS; have hS := hS1; clear hS1)
    | ((with_reducible refine wpList_box_st hS rfl rfl rfl ?_); intro gd w1 hS1; clear hS; have hS : St w [] [Ch.blk gd 29 #[sv, wv, .int .i64 fz, .bool dz]] w1 := hS1; clear hS1)
    | ((with_reducible refine wpList_box_st hS rfl rfl rfl ?_); intro gb w2 hS1; clear hS; have hS := hS1; clear hS1)
    | (with_reducible refine wpList_box_st hS rfl rfl rfl ?_; intro g1 w1 hS1; clear hS; replace hS := hS1; clear hS1) | (with_reducible refine wpList_box1_st hS rfl rfl rfl ?_; intro g1 w1 hS1; clear hS; replace hS := hS1; clear hS1) | (with_reducible refine wpList_alloc_st hS rfl rfl (by assumption) ?_; intro g1 w1 hS1; clear hS; replace hS := hS1; clear hS1) | (with_reducible refine wpList_alloc1_st hS rfl rfl (by assumption) rfl ?_; intro g1 w1 hS1; clear hS; replace hS := hS1; clear hS1) | ((with_reducible refine wpList_load_st 0 hS rfl rfl rfl rfl ?_ rfl ?_); focus (simp [scalarB, go_sem]; done)) | ((with_reducible refine wpList_loadall_st 0 hS rfl rfl rfl rfl ?_ (by kernel_rfl) ?_); focus (simp [rowB, go_sem]; done)) | ((with_reducible refine wpList_store_st 0 hS rfl rfl rfl rfl (by kernel_rfl) rfl rfl ?_); intro w1 hS1; clear hS; replace hS := hS1; clear hS1; try simp only [List.set_cons_zero, List.set_cons_succ, List.setIfInBounds_toArray, List.take_succ_cons, List.take_zero, List.drop_succ_cons, List.drop_zero, List.nil_append, List.cons_append, List.append_nil, List.drop_nil, List.take_nil, List.length_cons, List.length_nil, Nat.zero_add, Nat.add_zero, Nat.reduceAdd] at hS) | ((with_reducible refine wpList_storerow_st 0 hS rfl rfl rfl rfl (by kernel_rfl) rfl rfl rfl rfl ?_); intro w1 hS1; clear hS; replace hS := hS1; clear hS1; try simp only [List.set_cons_zero, List.set_cons_succ, List.setIfInBounds_toArray, List.take_succ_cons, List.take_zero, List.drop_succ_cons, List.drop_zero, List.nil_append, List.cons_append, List.append_nil, List.drop_nil, List.take_nil, List.length_cons, List.length_nil, Nat.zero_add, Nat.add_zero, Nat.reduceAdd] at hS) | ((with_reducible refine wpList_load_st 1 hS rfl rfl rfl rfl ?_ rfl ?_); focus (simp [scalarB, go_sem]; done)) | ((with_reducible refine wpList_loadall_st 1 hS rfl rfl rfl rfl ?_ (by kernel_rfl) ?_); focus (simp [rowB, go_sem]; done)) | ((with_reducible refine wpList_store_st 1 hS rfl rfl rfl rfl (by kernel_rfl) rfl rfl ?_); intro w1 hS1; clear hS; replace hS := hS1; clear hS1; try simp only [List.set_cons_zero, List.set_cons_succ, List.setIfInBounds_toArray, List.take_succ_cons, List.take_zero, List.drop_succ_cons, List.drop_zero, List.nil_append, List.cons_append, List.append_nil, List.drop_nil, List.take_nil, List.length_cons, List.length_nil, Nat.zero_add, Nat.add_zero, Nat.reduceAdd] at hS) | ((with_reducible refine wpList_storerow_st 1 hS rfl rfl rfl rfl (by kernel_rfl) rfl rfl rfl rfl ?_); intro w1 hS1; clear hS; replace hS := hS1; clear hS1; try simp only [List.set_cons_zero, List.set_cons_succ, List.setIfInBounds_toArray, List.take_succ_cons, List.take_zero, List.drop_succ_cons, List.drop_zero, List.nil_append, List.cons_append, List.append_nil, List.drop_nil, List.take_nil, List.length_cons, List.length_nil, Nat.zero_add, Nat.add_zero, Nat.reduceAdd] at hS))
  go_loopg [6, 7, 8] (r.n + 1) (fun gk vr vt vl wr => ∃ (at' : Nat) (least : Int) (m : List ByteArray) (rv : Value), rv = vr ∧ vt = .int .i64 (at' : Nat) ∧ vl = .int .i64 least ∧ at' + gk = r.head + r.n + 1 ∧ r.head ≤ at' ∧ at' ≤ r.head + r.n ∧ at' ≤ 1099511627776 ∧ m.length ≤ at' ∧ Hid (∀ x e, d.Runs r least at' x e → d.Runs r 1 r.head (m ++ x) e) ∧ St w [] [Ch.row 9 1 rv m.length (m.map vs), Ch.blk gb 87 #[.int .i64 r.src, .int .i64 r.n, .int .i64 r.head, .int .i64 r.life], Ch.blk gd 29 #[sv, wv, .int .i64 fz, .bool dz]] wr)
  case atStart => exact ⟨r.head, 1, [], _, rfl, rfl, rfl, by omega, by omega, by omega, by omega, by simp, Lib.hid fun x e hx => hx, hS⟩
  case round =>
    clear hS
    obtain ⟨at', least, m, rv, rfl, rfl, rfl, hat2, ha1, ha2, ha3, hml, hI, hS⟩ := hrel
    have cRj := fun W hb => cR.out at' least ⟨ha1, ha2, ha3⟩ W hb
    cases hrec : d.recAt r least at' with
    | none =>
      have hx := hI.out [] at' (.stop hrec)
      rw [List.append_nil] at hx
      have cN : ∀ W, Below w.heap.size w W → Calls Try.prog 106 #[.agg #[sv, wv, .int .i64 fz, .bool dz], .agg #[.int .i64 r.src, .int .i64 r.n, .int .i64 r.head, .int .i64 r.life], .int .i64 at', .int .i64 least] W fun e w' => ∃ s t y, e = .returned (.tuple #[.string s, .int .i64 t, .int .i64 y, .bool false]) ∧ Below W.heap.size W w' := fun W hb => (cRj W hb).mono fun e w' ⟨s, t, y, ok, h1, h2, h3⟩ => by
        rw [hrec] at h2
        rcases h2 with ⟨-, rfl⟩ | ⟨t', h2, -⟩
        · exact ⟨s, t, y, h1, h3⟩
        · cases h2
      clear cRj hI hrec cR
      replace cN := Lib.hid cN
      replace hx := Lib.hid hx
      go_wp2_with (first
        | (go_at_call 106; (with_reducible refine (cN.out _ hS.below).mono ?_); rintro _ w8 ⟨s8, t8, y8, rfl, hb8⟩; have hS1 := hS.keepB hb8; clear hb8 hS; have hS := hS1; clear hS1)
        | (with_reducible refine wpList_box_st hS rfl rfl rfl ?_; intro g1 w1 hS1; clear hS; replace hS := hS1; clear hS1) | (with_reducible refine wpList_box1_st hS rfl rfl rfl ?_; intro g1 w1 hS1; clear hS; replace hS := hS1; clear hS1) | (with_reducible refine wpList_alloc_st hS rfl rfl (by assumption) ?_; intro g1 w1 hS1; clear hS; replace hS := hS1; clear hS1) | (with_reducible refine wpList_alloc1_st hS rfl rfl (by assumption) rfl ?_; intro g1 w1 hS1; clear hS; replace hS := hS1; clear hS1) | ((with_reducible refine wpList_load_st 0 hS rfl rfl rfl rfl ?_ rfl ?_); focus (simp [scalarB, go_sem]; done)) | ((with_reducible refine wpList_loadall_st 0 hS rfl rfl rfl rfl ?_ (by kernel_rfl) ?_); focus (simp [rowB, go_sem]; done)) | ((with_reducible refine wpList_store_st 0 hS rfl rfl rfl rfl (by kernel_rfl) rfl rfl ?_); intro w1 hS1; clear hS; replace hS := hS1; clear hS1; try simp only [List.set_cons_zero, List.set_cons_succ, List.setIfInBounds_toArray, List.take_succ_cons, List.take_zero, List.drop_succ_cons, List.drop_zero, List.nil_append, List.cons_append, List.append_nil, List.drop_nil, List.take_nil, List.length_cons, List.length_nil, Nat.zero_add, Nat.add_zero, Nat.reduceAdd] at hS) | ((with_reducible refine wpList_storerow_st 0 hS rfl rfl rfl rfl (by kernel_rfl) rfl rfl rfl rfl ?_); intro w1 hS1; clear hS; replace hS := hS1; clear hS1; try simp only [List.set_cons_zero, List.set_cons_succ, List.setIfInBounds_toArray, List.take_succ_cons, List.take_zero, List.drop_succ_cons, List.drop_zero, List.nil_append, List.cons_append, List.append_nil, List.drop_nil, List.take_nil, List.length_cons, List.length_nil, Nat.zero_add, Nat.add_zero, Nat.reduceAdd] at hS) | ((with_reducible refine wpList_load_st 1 hS rfl rfl rfl rfl ?_ rfl ?_); focus (simp [scalarB, go_sem]; done)) | ((with_reducible refine wpList_loadall_st 1 hS rfl rfl rfl rfl ?_ (by kernel_rfl) ?_); focus (simp [rowB, go_sem]; done)) | ((with_reducible refine wpList_store_st 1 hS rfl rfl rfl rfl (by kernel_rfl) rfl rfl ?_); intro w1 hS1; clear hS; replace hS := hS1; clear hS1; try simp only [List.set_cons_zero, List.set_cons_succ, List.setIfInBounds_toArray, List.take_succ_cons, List.take_zero, List.drop_succ_cons, List.drop_zero, List.nil_append, List.cons_append, List.append_nil, List.drop_nil, List.take_nil, List.length_cons, List.length_nil, Nat.zero_add, Nat.add_zero, Nat.reduceAdd] at hS) | ((with_reducible refine wpList_storerow_st 1 hS rfl rfl rfl rfl (by kernel_rfl) rfl rfl rfl rfl ?_); intro w1 hS1; clear hS; replace hS := hS1; clear hS1; try simp only [List.set_cons_zero, List.set_cons_succ, List.setIfInBounds_toArray, List.take_succ_cons, List.take_zero, List.drop_succ_cons, List.drop_zero, List.nil_append, List.cons_append, List.append_nil, List.drop_nil, List.take_nil, List.length_cons, List.length_nil, Nat.zero_add, Nat.add_zero, Nat.reduceAdd] at hS) | ((with_reducible refine wpList_load_st 2 hS rfl rfl rfl rfl ?_ rfl ?_); focus (simp [scalarB, go_sem]; done)) | ((with_reducible refine wpList_loadall_st 2 hS rfl rfl rfl rfl ?_ (by kernel_rfl) ?_); focus (simp [rowB, go_sem]; done)) | ((with_reducible refine wpList_store_st 2 hS rfl rfl rfl rfl (by kernel_rfl) rfl rfl ?_); intro w1 hS1; clear hS; replace hS := hS1; clear hS1; try simp only [List.set_cons_zero, List.set_cons_succ, List.setIfInBounds_toArray, List.take_succ_cons, List.take_zero, List.drop_succ_cons, List.drop_zero, List.nil_append, List.cons_append, List.append_nil, List.drop_nil, List.take_nil, List.length_cons, List.length_nil, Nat.zero_add, Nat.add_zero, Nat.reduceAdd] at hS) | ((with_reducible refine wpList_storerow_st 2 hS rfl rfl rfl rfl (by kernel_rfl) rfl rfl rfl rfl ?_); intro w1 hS1; clear hS; replace hS := hS1; clear hS1; try simp only [List.set_cons_zero, List.set_cons_succ, List.setIfInBounds_toArray, List.take_succ_cons, List.take_zero, List.drop_succ_cons, List.drop_zero, List.nil_append, List.cons_append, List.append_nil, List.drop_nil, List.take_nil, List.length_cons, List.length_nil, Nat.zero_add, Nat.add_zero, Nat.reduceAdd] at hS))
      go_ret2
      exact ⟨_, _, m, rfl, hx.out, hS.fore (A := [_])⟩
    | some x =>
      obtain ⟨s, t', y⟩ := x
      have htop := (Dk.recAt_top hrec).1
      have hto := Dk.recAt_to hrec
      have hI2 := Lib.hid (show ∀ x e, d.Runs r y t' x e → d.Runs r 1 r.head ((m ++ [s]) ++ x) e from fun x e hx => by
        have := hI.out (s :: x) e (.more hrec hx)
        simpa using this)
      have cN : ∀ W, Below w.heap.size w W → Calls Try.prog 106 #[.agg #[sv, wv, .int .i64 fz, .bool dz], .agg #[.int .i64 r.src, .int .i64 r.n, .int .i64 r.head, .int .i64 r.life], .int .i64 at', .int .i64 least] W fun e w' => e = .returned (.tuple #[.string s, .int .i64 t', .int .i64 y, .bool true]) ∧ Below W.heap.size W w' := fun W hb => (cRj W hb).mono fun e w' ⟨s1, t1, y1, ok, h1, h2, h3⟩ => by
        rw [hrec] at h2
        rcases h2 with ⟨h2, -⟩ | ⟨t2, h2, rfl, rfl⟩
        · cases h2
        · cases h2
          exact ⟨h1, h3⟩
      have hms : (m.map vs) ++ [Value.string s] = (m ++ [s]).map vs := by simp [vs]
      clear cRj hI hrec cR
      replace cN := Lib.hid cN
      replace hms := Lib.hid hms
      go_wp2_with (first
        | (go_at_call 106; (with_reducible refine (cN.out _ hS.below).mono ?_); rintro _ w8 ⟨rfl, hb8⟩; have hS1 := hS.keepB hb8; clear hb8 hS; have hS := hS1; clear hS1)
        | ((with_reducible refine wpList_build1c_st hS rfl rfl Try.underlying26 ex rfl ?_); intro g21 w21 hS1; clear hS; have hS := hS1; clear hS1)
        | (at_builtin; ((with_reducible refine wpList_app_st 1 hS rfl rfl rfl Try.underlying26 ex rfl (Src.slice Try.underlying26 (hS.blksl2 0 rfl) rfl) rfl (by simp [Value.oneCell']) (by omega) (by unfold maxLen; omega) ?_); intro v22 w22 hS1; clear hS; have hS := hS1.drop; clear hS1; simp only [List.set_cons_zero, List.set_cons_succ, hms.out] at hS))
        | (with_reducible refine wpList_box_st hS rfl rfl rfl ?_; intro g1 w1 hS1; clear hS; replace hS := hS1; clear hS1) | (with_reducible refine wpList_box1_st hS rfl rfl rfl ?_; intro g1 w1 hS1; clear hS; replace hS := hS1; clear hS1) | (with_reducible refine wpList_alloc_st hS rfl rfl (by assumption) ?_; intro g1 w1 hS1; clear hS; replace hS := hS1; clear hS1) | (with_reducible refine wpList_alloc1_st hS rfl rfl (by assumption) rfl ?_; intro g1 w1 hS1; clear hS; replace hS := hS1; clear hS1) | ((with_reducible refine wpList_load_st 0 hS rfl rfl rfl rfl ?_ rfl ?_); focus (simp [scalarB, go_sem]; done)) | ((with_reducible refine wpList_loadall_st 0 hS rfl rfl rfl rfl ?_ (by kernel_rfl) ?_); focus (simp [rowB, go_sem]; done)) | ((with_reducible refine wpList_store_st 0 hS rfl rfl rfl rfl (by kernel_rfl) rfl rfl ?_); intro w1 hS1; clear hS; replace hS := hS1; clear hS1; try simp only [List.set_cons_zero, List.set_cons_succ, List.setIfInBounds_toArray, List.take_succ_cons, List.take_zero, List.drop_succ_cons, List.drop_zero, List.nil_append, List.cons_append, List.append_nil, List.drop_nil, List.take_nil, List.length_cons, List.length_nil, Nat.zero_add, Nat.add_zero, Nat.reduceAdd] at hS) | ((with_reducible refine wpList_storerow_st 0 hS rfl rfl rfl rfl (by kernel_rfl) rfl rfl rfl rfl ?_); intro w1 hS1; clear hS; replace hS := hS1; clear hS1; try simp only [List.set_cons_zero, List.set_cons_succ, List.setIfInBounds_toArray, List.take_succ_cons, List.take_zero, List.drop_succ_cons, List.drop_zero, List.nil_append, List.cons_append, List.append_nil, List.drop_nil, List.take_nil, List.length_cons, List.length_nil, Nat.zero_add, Nat.add_zero, Nat.reduceAdd] at hS) | ((with_reducible refine wpList_load_st 1 hS rfl rfl rfl rfl ?_ rfl ?_); focus (simp [scalarB, go_sem]; done)) | ((with_reducible refine wpList_loadall_st 1 hS rfl rfl rfl rfl ?_ (by kernel_rfl) ?_); focus (simp [rowB, go_sem]; done)) | ((with_reducible refine wpList_store_st 1 hS rfl rfl rfl rfl (by kernel_rfl) rfl rfl ?_); intro w1 hS1; clear hS; replace hS := hS1; clear hS1; try simp only [List.set_cons_zero, List.set_cons_succ, List.setIfInBounds_toArray, List.take_succ_cons, List.take_zero, List.drop_succ_cons, List.drop_zero, List.nil_append, List.cons_append, List.append_nil, List.drop_nil, List.take_nil, List.length_cons, List.length_nil, Nat.zero_add, Nat.add_zero, Nat.reduceAdd] at hS) | ((with_reducible refine wpList_storerow_st 1 hS rfl rfl rfl rfl (by kernel_rfl) rfl rfl rfl rfl ?_); intro w1 hS1; clear hS; replace hS := hS1; clear hS1; try simp only [List.set_cons_zero, List.set_cons_succ, List.setIfInBounds_toArray, List.take_succ_cons, List.take_zero, List.drop_succ_cons, List.drop_zero, List.nil_append, List.cons_append, List.append_nil, List.drop_nil, List.take_nil, List.length_cons, List.length_nil, Nat.zero_add, Nat.add_zero, Nat.reduceAdd] at hS) | ((with_reducible refine wpList_load_st 2 hS rfl rfl rfl rfl ?_ rfl ?_); focus (simp [scalarB, go_sem]; done)) | ((with_reducible refine wpList_loadall_st 2 hS rfl rfl rfl rfl ?_ (by kernel_rfl) ?_); focus (simp [rowB, go_sem]; done)) | ((with_reducible refine wpList_store_st 2 hS rfl rfl rfl rfl (by kernel_rfl) rfl rfl ?_); intro w1 hS1; clear hS; replace hS := hS1; clear hS1; try simp only [List.set_cons_zero, List.set_cons_succ, List.setIfInBounds_toArray, List.take_succ_cons, List.take_zero, List.drop_succ_cons, List.drop_zero, List.nil_append, List.cons_append, List.append_nil, List.drop_nil, List.take_nil, List.length_cons, List.length_nil, Nat.zero_add, Nat.add_zero, Nat.reduceAdd] at hS) | ((with_reducible refine wpList_storerow_st 2 hS rfl rfl rfl rfl (by kernel_rfl) rfl rfl rfl rfl ?_); intro w1 hS1; clear hS; replace hS := hS1; clear hS1; try simp only [List.set_cons_zero, List.set_cons_succ, List.setIfInBounds_toArray, List.take_succ_cons, List.take_zero, List.drop_succ_cons, List.drop_zero, List.nil_append, List.cons_append, List.append_nil, List.drop_nil, List.take_nil, List.length_cons, List.length_nil, Nat.zero_add, Nat.add_zero, Nat.reduceAdd] at hS))
      go_roundg (r.head + r.n + 1 - t')
      case measure => omega
      case rel => exact ⟨t', y, m ++ [s], _, rfl, rfl, rfl, by omega, by omega, by omega, htop, by simp; omega, hI2, by simpa using hS⟩
end Go.Proofs.Ytlhpibniecfofaa
end

section
/- The reference's disks: New. -/
set_option linter.unusedSimpArgs false
set_option linter.unusedVariables false
namespace Go.Proofs.Ytlhpibniecfofaa
open Go.RowKit Go.Ofp
set_option linter.unusedVariables false
set_option maxRecDepth 100000
set_option maxHeartbeats 4000000

theorem rnew_any (n : Nat) (w : World) (hn : n ≤ 100000) : Calls Try.prog 13 #[.int .i64 n] w fun e w' => ∃ sv, e = .returned (.agg #[sv, .slice none 0 0, .int .i64 (-1), .bool false]) ∧ St w [] [Ch.row 9 1 sv n ((Dk.new n).sec.map rsc)] w' := by
  have hS := St.start w
  have ez := elem_rdk
  have hz : (Dk.new n).sec.map rsc = List.replicate n (.string (str (List.replicate 64 0))) := by
    simp [Dk.new, rsc]
  rw [hz]
  clear hz
  have cZ : ∀ W : World, Calls Try.prog 66 #[] W fun e w' => e = .returned (.string (str (List.replicate 64 0))) ∧ Below W.heap.size W w' := rzero_any
  generalize str (List.replicate 64 0) = Z at *
  replace cZ := Lib.hid cZ
  go_enter Try.func13, Try.ntmps13
  go_wp2_with (first | (with_reducible refine wpList_box_st hS rfl rfl rfl ?_; intro g1 w1 hS1; clear hS; replace hS := hS1; clear hS1) | (with_reducible refine wpList_box1_st hS rfl rfl rfl ?_; intro g1 w1 hS1; clear hS; replace hS := hS1; clear hS1) | (with_reducible refine wpList_alloc_st hS rfl rfl (by assumption) ?_; intro g1 w1 hS1; clear hS; replace hS := hS1; clear hS1) | (with_reducible refine wpList_alloc1_st hS rfl rfl (by assumption) rfl ?_; intro g1 w1 hS1; clear hS; replace hS := hS1; clear hS1) | ((with_reducible refine wpList_load_st 0 hS rfl rfl rfl rfl ?_ rfl ?_); focus (simp [scalarB, go_sem]; done)) | ((with_reducible refine wpList_loadall_st 0 hS rfl rfl rfl rfl ?_ (by kernel_rfl) ?_); focus (simp [rowB, go_sem]; done)) | ((with_reducible refine wpList_store_st 0 hS rfl rfl rfl rfl (by kernel_rfl) rfl rfl ?_); intro w1 hS1; clear hS; replace hS := hS1; clear hS1; try simp only [List.set_cons_zero, List.set_cons_succ, List.setIfInBounds_toArray, List.take_succ_cons, List.take_zero, List.drop_succ_cons, List.drop_zero, List.nil_append, List.cons_append, List.append_nil, List.drop_nil, List.take_nil, List.length_cons, List.length_nil, Nat.zero_add, Nat.add_zero, Nat.reduceAdd] at hS) | ((with_reducible refine wpList_storerow_st 0 hS rfl rfl rfl rfl (by kernel_rfl) rfl rfl rfl rfl ?_); intro w1 hS1; clear hS; replace hS := hS1; clear hS1; try simp only [List.set_cons_zero, List.set_cons_succ, List.setIfInBounds_toArray, List.take_succ_cons, List.take_zero, List.drop_succ_cons, List.drop_zero, List.nil_append, List.cons_append, List.append_nil, List.drop_nil, List.take_nil, List.length_cons, List.length_nil, Nat.zero_add, Nat.add_zero, Nat.reduceAdd] at hS) | ((with_reducible refine wpList_load_st 1 hS rfl rfl rfl rfl ?_ rfl ?_); focus (simp [scalarB, go_sem]; done)) | ((with_reducible refine wpList_loadall_st 1 hS rfl rfl rfl rfl ?_ (by kernel_rfl) ?_); focus (simp [rowB, go_sem]; done)) | ((with_reducible refine wpList_store_st 1 hS rfl rfl rfl rfl (by kernel_rfl) rfl rfl ?_); intro w1 hS1; clear hS; replace hS := hS1; clear hS1; try simp only [List.set_cons_zero, List.set_cons_succ, List.setIfInBounds_toArray, List.take_succ_cons, List.take_zero, List.drop_succ_cons, List.drop_zero, List.nil_append, List.cons_append, List.append_nil, List.drop_nil, List.take_nil, List.length_cons, List.length_nil, Nat.zero_add, Nat.add_zero, Nat.reduceAdd] at hS) | ((with_reducible refine wpList_storerow_st 1 hS rfl rfl rfl rfl (by kernel_rfl) rfl rfl rfl rfl ?_); intro w1 hS1; clear hS; replace hS := hS1; clear hS1; try simp only [List.set_cons_zero, List.set_cons_succ, List.setIfInBounds_toArray, List.take_succ_cons, List.take_zero, List.drop_succ_cons, List.drop_zero, List.nil_append, List.cons_append, List.append_nil, List.drop_nil, List.take_nil, List.length_cons, List.length_nil, Nat.zero_add, Nat.add_zero, Nat.reduceAdd] at hS))
  have hS1 := hS.nilrow 9 1
  clear hS
  have hS := hS1.rot3
  clear hS1
  rename_i gr _ _ _ _
  go_loopg [4] n (fun gk vx wr => ∃ (j : Nat) (sv : Value), j + gk = n ∧ vx = .int .i64 j ∧ St w [] [Ch.blk g1 29 #[sv, .slice none 0 0, .int .i64 (-1), .bool false], Ch.blk gr 29 #[.slice none 0 0, .slice none 0 0, .int .i64 0, .bool false], Ch.row 9 1 sv j (List.replicate j (.string Z))] wr)
  case atStart => exact ⟨0, _, by omega, rfl, hS⟩
  case round =>
    clear hS
    obtain ⟨j, sv, hj, rfl, hS⟩ := hrel
    by_cases hlt : j < n
    · go_wp2_with fail
      refine mixs_beginE (by kernel_rfl) hS ?_
      clear hS
      intro w2 hS hC
      refine mixs_take 0 (v := ?_) rfl (by kernel_rfl) (fun _ _ _ h => h) (by kernel_rfl) (by assumption) (fun s => ?hy) ?_; case hy => (go_simp <;> with_reducible rfl)
      try simp only [List.getElem_toArray, List.getElem_cons_succ, List.getElem_cons_zero, Act.put, List.setIfInBounds_toArray, List.set_cons_zero, List.set_cons_succ]
      refine mixs_two 1 2 (by kernel_rfl) rfl rfl (fun K hK => ?_) (fun K hK => ?_)
      ·
        refine op_load_st (by kernel_rfl) 0 hS rfl rfl rfl (by simp [scalarB, go_sem]) rfl ?_
        try clear hC
        refine hK.out _ _ _ (fun _ h => h) (by first | exact hS | exact hS.drop | exact hS.drop.drop | exact hS.drop.drop.drop | exact hS.drop.drop.drop.drop | exact hS.empty | exact hS.one 0 rfl | exact hS.one 1 rfl | exact hS.one 2 rfl | exact hS.one 3 rfl | exact hS.one 4 rfl | exact hS.one 5 rfl | exact hS.one 6 rfl | exact hS.one 7 rfl | exact hS.one 8 rfl | exact hS.one 9 rfl | exact hS.one 10 rfl | exact hS.one 11 rfl) (fun hC => ?_)
        clear hK K
        try simp only [List.getElem_toArray, List.getElem_cons_succ, List.getElem_cons_zero, Act.put, List.setIfInBounds_toArray, List.set_cons_zero, List.set_cons_succ]
        refine mixs_one 2 (by kernel_rfl) rfl (fun K hK => ?_)
        go_simp
        ( first | (go_at_call 66; (with_reducible refine (cZ.out _).mono ?_); rintro _ w5 ⟨rfl, hb5⟩; have hS1 := hS.keepB hb5; clear hb5 hS; have hS := hS1; clear hS1) | (refine op_build1c_st (by kernel_rfl) hS rfl Try.underlying26 elem_str rfl ?_; intro g5 w3 hS1; clear hS; have hS := hS1; clear hS1) | (refine op_app_st (by kernel_rfl) 3 (news := [.string Z]) hS rfl rfl Try.underlying26 elem_str rfl (Src.slice Try.underlying26 (hS.blksl2 0 rfl) rfl) rfl (by simp [Value.oneCell']) (by omega) (by unfold maxLen; omega) ?_; intro v6 w6 hS1; clear hS; simp only [List.set_cons_zero, List.set_cons_succ] at hS1; obtain ⟨a6, c6, rfl, -⟩ := hS1.row 3 rfl; have hS := hS1; clear hS1) )
        try clear hC
        refine hK.out _ _ _ (fun _ h => h) (by first | exact hS | exact hS.drop | exact hS.drop.drop | exact hS.drop.drop.drop | exact hS.drop.drop.drop.drop | exact hS.empty | exact hS.one 0 rfl | exact hS.one 1 rfl | exact hS.one 2 rfl | exact hS.one 3 rfl | exact hS.one 4 rfl | exact hS.one 5 rfl | exact hS.one 6 rfl | exact hS.one 7 rfl | exact hS.one 8 rfl | exact hS.one 9 rfl | exact hS.one 10 rfl | exact hS.one 11 rfl) (fun hC => ?_)
        clear hK K
        try simp only [List.getElem_toArray, List.getElem_cons_succ, List.getElem_cons_zero, Act.put, List.setIfInBounds_toArray, List.set_cons_zero, List.set_cons_succ]
        refine mixs_one 3 (by kernel_rfl) rfl (fun K hK => ?_)
        ( first | (go_at_call 66; (with_reducible refine (cZ.out _).mono ?_); rintro _ w5 ⟨rfl, hb5⟩; have hS1 := hS.keepB hb5; clear hb5 hS; have hS := hS1; clear hS1) | (refine op_build1c_st (by kernel_rfl) hS rfl Try.underlying26 elem_str rfl ?_; intro g5 w3 hS1; clear hS; have hS := hS1; clear hS1) | (refine op_app_st (by kernel_rfl) 3 (news := [.string Z]) hS rfl rfl Try.underlying26 elem_str rfl (Src.slice Try.underlying26 (hS.blksl2 0 rfl) rfl) rfl (by simp [Value.oneCell']) (by omega) (by unfold maxLen; omega) ?_; intro v6 w6 hS1; clear hS; simp only [List.set_cons_zero, List.set_cons_succ] at hS1; obtain ⟨a6, c6, rfl, -⟩ := hS1.row 3 rfl; have hS := hS1; clear hS1) )
        try clear hC
        refine hK.out _ _ _ (fun _ h => h) (by first | exact hS | exact hS.drop | exact hS.drop.drop | exact hS.drop.drop.drop | exact hS.drop.drop.drop.drop | exact hS.empty | exact hS.one 0 rfl | exact hS.one 1 rfl | exact hS.one 2 rfl | exact hS.one 3 rfl | exact hS.one 4 rfl | exact hS.one 5 rfl | exact hS.one 6 rfl | exact hS.one 7 rfl | exact hS.one 8 rfl | exact hS.one 9 rfl | exact hS.one 10 rfl | exact hS.one 11 rfl) (fun hC => ?_)
        clear hK K
        try simp only [List.getElem_toArray, List.getElem_cons_succ, List.getElem_cons_zero, Act.put, List.setIfInBounds_toArray, List.set_cons_zero, List.set_cons_succ]
        refine mixs_one 4 (by kernel_rfl) rfl (fun K hK => ?_)
        ( first | (go_at_call 66; (with_reducible refine (cZ.out _).mono ?_); rintro _ w5 ⟨rfl, hb5⟩; have hS1 := hS.keepB hb5; clear hb5 hS; have hS := hS1; clear hS1) | (refine op_build1c_st (by kernel_rfl) hS rfl Try.underlying26 elem_str rfl ?_; intro g5 w3 hS1; clear hS; have hS := hS1; clear hS1) | (refine op_app_st (by kernel_rfl) 3 (news := [.string Z]) hS rfl rfl Try.underlying26 elem_str rfl (Src.slice Try.underlying26 (hS.blksl2 0 rfl) rfl) rfl (by simp [Value.oneCell']) (by omega) (by unfold maxLen; omega) ?_; intro v6 w6 hS1; clear hS; simp only [List.set_cons_zero, List.set_cons_succ] at hS1; obtain ⟨a6, c6, rfl, -⟩ := hS1.row 3 rfl; have hS := hS1; clear hS1) )
        try clear hC
        refine hK.out _ _ _ (fun _ h => h) (by first | exact hS | exact hS.drop | exact hS.drop.drop | exact hS.drop.drop.drop | exact hS.drop.drop.drop.drop | exact hS.empty | exact hS.one 0 rfl | exact hS.one 1 rfl | exact hS.one 2 rfl | exact hS.one 3 rfl | exact hS.one 4 rfl | exact hS.one 5 rfl | exact hS.one 6 rfl | exact hS.one 7 rfl | exact hS.one 8 rfl | exact hS.one 9 rfl | exact hS.one 10 rfl | exact hS.one 11 rfl) (fun hC => ?_)
        clear hK K
        try simp only [List.getElem_toArray, List.getElem_cons_succ, List.getElem_cons_zero, Act.put, List.setIfInBounds_toArray, List.set_cons_zero, List.set_cons_succ]
        refine mixs_take 5 (v := ?_) rfl (by kernel_rfl) (fun _ _ _ h => h) (by kernel_rfl) (by assumption) (fun s => ?hy) ?_; case hy => (go_simp <;> with_reducible rfl)
        try simp only [List.getElem_toArray, List.getElem_cons_succ, List.getElem_cons_zero, Act.put, List.setIfInBounds_toArray, List.set_cons_zero, List.set_cons_succ]
        refine mixs_one 6 (by kernel_rfl) rfl (fun K hK => ?_)
        refine op_store_st (by kernel_rfl) 1 hS rfl rfl rfl (by kernel_rfl) rfl rfl ?_
        intro w1 hS1; clear hS; have hS := hS1; clear hS1; try simp only [List.set_cons_zero, List.set_cons_succ, List.setIfInBounds_toArray, List.take_succ_cons, List.take_zero, List.drop_succ_cons, List.drop_zero, List.nil_append, List.cons_append, List.append_nil, List.drop_nil, List.take_nil, List.length_cons, List.length_nil, Nat.zero_add, Nat.add_zero, Nat.reduceAdd] at hS
        try clear hC
        refine hK.out _ _ _ (fun _ h => h) (by first | exact hS | exact hS.drop | exact hS.drop.drop | exact hS.drop.drop.drop | exact hS.drop.drop.drop.drop | exact hS.empty | exact hS.one 0 rfl | exact hS.one 1 rfl | exact hS.one 2 rfl | exact hS.one 3 rfl | exact hS.one 4 rfl | exact hS.one 5 rfl | exact hS.one 6 rfl | exact hS.one 7 rfl | exact hS.one 8 rfl | exact hS.one 9 rfl | exact hS.one 10 rfl | exact hS.one 11 rfl) (fun hC => ?_)
        clear hK K
        try simp only [List.getElem_toArray, List.getElem_cons_succ, List.getElem_cons_zero, Act.put, List.setIfInBounds_toArray, List.set_cons_zero, List.set_cons_succ]
        refine wpAnyH_done (by kernel_rfl) ?_ _
        try clear hC
        have e1 : List.replicate j (Value.string Z) ++ [.string Z] = List.replicate (j + 1) (.string Z) := by rw [List.replicate_succ']
        rw [e1] at hS
        go_wp2_with fail
        go_roundg (n - (j + 1))
        case measure => omega
        case rel => exact ⟨j + 1, _, by omega, by go_num, hS.drop⟩
      ·
        go_simp
        ( first | (go_at_call 66; (with_reducible refine (cZ.out _).mono ?_); rintro _ w5 ⟨rfl, hb5⟩; have hS1 := hS.keepB hb5; clear hb5 hS; have hS := hS1; clear hS1) | (refine op_build1c_st (by kernel_rfl) hS rfl Try.underlying26 elem_str rfl ?_; intro g5 w3 hS1; clear hS; have hS := hS1; clear hS1) | (refine op_app_st (by kernel_rfl) 3 (news := [.string Z]) hS rfl rfl Try.underlying26 elem_str rfl (Src.slice Try.underlying26 (hS.blksl2 0 rfl) rfl) rfl (by simp [Value.oneCell']) (by omega) (by unfold maxLen; omega) ?_; intro v6 w6 hS1; clear hS; simp only [List.set_cons_zero, List.set_cons_succ] at hS1; obtain ⟨a6, c6, rfl, -⟩ := hS1.row 3 rfl; have hS := hS1; clear hS1) )
        try clear hC
        refine hK.out _ _ _ (fun _ h => h) (by first | exact hS | exact hS.drop | exact hS.drop.drop | exact hS.drop.drop.drop | exact hS.drop.drop.drop.drop | exact hS.empty | exact hS.one 0 rfl | exact hS.one 1 rfl | exact hS.one 2 rfl | exact hS.one 3 rfl | exact hS.one 4 rfl | exact hS.one 5 rfl | exact hS.one 6 rfl | exact hS.one 7 rfl | exact hS.one 8 rfl | exact hS.one 9 rfl | exact hS.one 10 rfl | exact hS.one 11 rfl) (fun hC => ?_)
        clear hK K
        try simp only [List.getElem_toArray, List.getElem_cons_succ, List.getElem_cons_zero, Act.put, List.setIfInBounds_toArray, List.set_cons_zero, List.set_cons_succ]
        refine mixs_two 1 3 (by kernel_rfl) rfl rfl (fun K hK => ?_) (fun K hK => ?_)
        ·
          refine op_load_st (by kernel_rfl) 0 hS rfl rfl rfl (by simp [scalarB, go_sem]) rfl ?_
          try clear hC
          refine hK.out _ _ _ (fun _ h => h) (by first | exact hS | exact hS.drop | exact hS.drop.drop | exact hS.drop.drop.drop | exact hS.drop.drop.drop.drop | exact hS.empty | exact hS.one 0 rfl | exact hS.one 1 rfl | exact hS.one 2 rfl | exact hS.one 3 rfl | exact hS.one 4 rfl | exact hS.one 5 rfl | exact hS.one 6 rfl | exact hS.one 7 rfl | exact hS.one 8 rfl | exact hS.one 9 rfl | exact hS.one 10 rfl | exact hS.one 11 rfl) (fun hC => ?_)
          clear hK K
          try simp only [List.getElem_toArray, List.getElem_cons_succ, List.getElem_cons_zero, Act.put, List.setIfInBounds_toArray, List.set_cons_zero, List.set_cons_succ]
          refine mixs_one 3 (by kernel_rfl) rfl (fun K hK => ?_)
          ( first | (go_at_call 66; (with_reducible refine (cZ.out _).mono ?_); rintro _ w5 ⟨rfl, hb5⟩; have hS1 := hS.keepB hb5; clear hb5 hS; have hS := hS1; clear hS1) | (refine op_build1c_st (by kernel_rfl) hS rfl Try.underlying26 elem_str rfl ?_; intro g5 w3 hS1; clear hS; have hS := hS1; clear hS1) | (refine op_app_st (by kernel_rfl) 3 (news := [.string Z]) hS rfl rfl Try.underlying26 elem_str rfl (Src.slice Try.underlying26 (hS.blksl2 0 rfl) rfl) rfl (by simp [Value.oneCell']) (by omega) (by unfold maxLen; omega) ?_; intro v6 w6 hS1; clear hS; simp only [List.set_cons_zero, List.set_cons_succ] at hS1; obtain ⟨a6, c6, rfl, -⟩ := hS1.row 3 rfl; have hS := hS1; clear hS1) )
          try clear hC
          refine hK.out _ _ _ (fun _ h => h) (by first | exact hS | exact hS.drop | exact hS.drop.drop | exact hS.drop.drop.drop | exact hS.drop.drop.drop.drop | exact hS.empty | exact hS.one 0 rfl | exact hS.one 1 rfl | exact hS.one 2 rfl | exact hS.one 3 rfl | exact hS.one 4 rfl | exact hS.one 5 rfl | exact hS.one 6 rfl | exact hS.one 7 rfl | exact hS.one 8 rfl | exact hS.one 9 rfl | exact hS.one 10 rfl | exact hS.one 11 rfl) (fun hC => ?_)
          clear hK K
          try simp only [List.getElem_toArray, List.getElem_cons_succ, List.getElem_cons_zero, Act.put, List.setIfInBounds_toArray, List.set_cons_zero, List.set_cons_succ]
          refine mixs_one 4 (by kernel_rfl) rfl (fun K hK => ?_)
          ( first | (go_at_call 66; (with_reducible refine (cZ.out _).mono ?_); rintro _ w5 ⟨rfl, hb5⟩; have hS1 := hS.keepB hb5; clear hb5 hS; have hS := hS1; clear hS1) | (refine op_build1c_st (by kernel_rfl) hS rfl Try.underlying26 elem_str rfl ?_; intro g5 w3 hS1; clear hS; have hS := hS1; clear hS1) | (refine op_app_st (by kernel_rfl) 3 (news := [.string Z]) hS rfl rfl Try.underlying26 elem_str rfl (Src.slice Try.underlying26 (hS.blksl2 0 rfl) rfl) rfl (by simp [Value.oneCell']) (by omega) (by unfold maxLen; omega) ?_; intro v6 w6 hS1; clear hS; simp only [List.set_cons_zero, List.set_cons_succ] at hS1; obtain ⟨a6, c6, rfl, -⟩ := hS1.row 3 rfl; have hS := hS1; clear hS1) )
          try clear hC
          refine hK.out _ _ _ (fun _ h => h) (by first | exact hS | exact hS.drop | exact hS.drop.drop | exact hS.drop.drop.drop | exact hS.drop.drop.drop.drop | exact hS.empty | exact hS.one 0 rfl | exact hS.one 1 rfl | exact hS.one 2 rfl | exact hS.one 3 rfl | exact hS.one 4 rfl | exact hS.one 5 rfl | exact hS.one 6 rfl | exact hS.one 7 rfl | exact hS.one 8 rfl | exact hS.one 9 rfl | exact hS.one 10 rfl | exact hS.one 11 rfl) (fun hC => ?_)
          clear hK K
          try simp only [List.getElem_toArray, List.getElem_cons_succ, List.getElem_cons_zero, Act.put, List.setIfInBounds_toArray, List.set_cons_zero, List.set_cons_succ]
          refine mixs_take 5 (v := ?_) rfl (by kernel_rfl) (fun _ _ _ h => h) (by kernel_rfl) (by assumption) (fun s => ?hy) ?_; case hy => (go_simp <;> with_reducible rfl)
          try simp only [List.getElem_toArray, List.getElem_cons_succ, List.getElem_cons_zero, Act.put, List.setIfInBounds_toArray, List.set_cons_zero, List.set_cons_succ]
          refine mixs_one 6 (by kernel_rfl) rfl (fun K hK => ?_)
          refine op_store_st (by kernel_rfl) 1 hS rfl rfl rfl (by kernel_rfl) rfl rfl ?_
          intro w1 hS1; clear hS; have hS := hS1; clear hS1; try simp only [List.set_cons_zero, List.set_cons_succ, List.setIfInBounds_toArray, List.take_succ_cons, List.take_zero, List.drop_succ_cons, List.drop_zero, List.nil_append, List.cons_append, List.append_nil, List.drop_nil, List.take_nil, List.length_cons, List.length_nil, Nat.zero_add, Nat.add_zero, Nat.reduceAdd] at hS
          try clear hC
          refine hK.out _ _ _ (fun _ h => h) (by first | exact hS | exact hS.drop | exact hS.drop.drop | exact hS.drop.drop.drop | exact hS.drop.drop.drop.drop | exact hS.empty | exact hS.one 0 rfl | exact hS.one 1 rfl | exact hS.one 2 rfl | exact hS.one 3 rfl | exact hS.one 4 rfl | exact hS.one 5 rfl | exact hS.one 6 rfl | exact hS.one 7 rfl | exact hS.one 8 rfl | exact hS.one 9 rfl | exact hS.one 10 rfl | exact hS.one 11 rfl) (fun hC => ?_)
          clear hK K
          try simp only [List.getElem_toArray, List.getElem_cons_succ, List.getElem_cons_zero, Act.put, List.setIfInBounds_toArray, List.set_cons_zero, List.set_cons_succ]
          refine wpAnyH_done (by kernel_rfl) ?_ _
          try clear hC
          have e1 : List.replicate j (Value.string Z) ++ [.string Z] = List.replicate (j + 1) (.string Z) := by rw [List.replicate_succ']
          rw [e1] at hS
          go_wp2_with fail
          go_roundg (n - (j + 1))
          case measure => omega
          case rel => exact ⟨j + 1, _, by omega, by go_num, hS.drop⟩
        ·
          ( first | (go_at_call 66; (with_reducible refine (cZ.out _).mono ?_); rintro _ w5 ⟨rfl, hb5⟩; have hS1 := hS.keepB hb5; clear hb5 hS; have hS := hS1; clear hS1) | (refine op_build1c_st (by kernel_rfl) hS rfl Try.underlying26 elem_str rfl ?_; intro g5 w3 hS1; clear hS; have hS := hS1; clear hS1) | (refine op_app_st (by kernel_rfl) 3 (news := [.string Z]) hS rfl rfl Try.underlying26 elem_str rfl (Src.slice Try.underlying26 (hS.blksl2 0 rfl) rfl) rfl (by simp [Value.oneCell']) (by omega) (by unfold maxLen; omega) ?_; intro v6 w6 hS1; clear hS; simp only [List.set_cons_zero, List.set_cons_succ] at hS1; obtain ⟨a6, c6, rfl, -⟩ := hS1.row 3 rfl; have hS := hS1; clear hS1) )
          try clear hC
          refine hK.out _ _ _ (fun _ h => h) (by first | exact hS | exact hS.drop | exact hS.drop.drop | exact hS.drop.drop.drop | exact hS.drop.drop.drop.drop | exact hS.empty | exact hS.one 0 rfl | exact hS.one 1 rfl | exact hS.one 2 rfl | exact hS.one 3 rfl | exact hS.one 4 rfl | exact hS.one 5 rfl | exact hS.one 6 rfl | exact hS.one 7 rfl | exact hS.one 8 rfl | exact hS.one 9 rfl | exact hS.one 10 rfl | exact hS.one 11 rfl) (fun hC => ?_)
          clear hK K
          try simp only [List.getElem_toArray, List.getElem_cons_succ, List.getElem_cons_zero, Act.put, List.setIfInBounds_toArray, List.set_cons_zero, List.set_cons_succ]
          refine mixs_one 1 (by kernel_rfl) rfl (fun K hK => ?_)
          refine op_load_st (by kernel_rfl) 1 hS rfl rfl rfl (by simp [scalarB, go_sem]) rfl ?_
          try clear hC
          refine hK.out _ _ _ (fun _ h => h) (by first | exact hS | exact hS.drop | exact hS.drop.drop | exact hS.drop.drop.drop | exact hS.drop.drop.drop.drop | exact hS.empty | exact hS.one 0 rfl | exact hS.one 1 rfl | exact hS.one 2 rfl | exact hS.one 3 rfl | exact hS.one 4 rfl | exact hS.one 5 rfl | exact hS.one 6 rfl | exact hS.one 7 rfl | exact hS.one 8 rfl | exact hS.one 9 rfl | exact hS.one 10 rfl | exact hS.one 11 rfl) (fun hC => ?_)
          clear hK K
          try simp only [List.getElem_toArray, List.getElem_cons_succ, List.getElem_cons_zero, Act.put, List.setIfInBounds_toArray, List.set_cons_zero, List.set_cons_succ]
          refine mixs_one 4 (by kernel_rfl) rfl (fun K hK => ?_)
          ( first | (go_at_call 66; (with_reducible refine (cZ.out _).mono ?_); rintro _ w5 ⟨rfl, hb5⟩; have hS1 := hS.keepB hb5; clear hb5 hS; have hS := hS1; clear hS1) | (refine op_build1c_st (by kernel_rfl) hS rfl Try.underlying26 elem_str rfl ?_; intro g5 w3 hS1; clear hS; have hS := hS1; clear hS1) | (refine op_app_st (by kernel_rfl) 3 (news := [.string Z]) hS rfl rfl Try.underlying26 elem_str rfl (Src.slice Try.underlying26 (hS.blksl2 0 rfl) rfl) rfl (by simp [Value.oneCell']) (by omega) (by unfold maxLen; omega) ?_; intro v6 w6 hS1; clear hS; simp only [List.set_cons_zero, List.set_cons_succ] at hS1; obtain ⟨a6, c6, rfl, -⟩ := hS1.row 3 rfl; have hS := hS1; clear hS1) )
          try clear hC
          refine hK.out _ _ _ (fun _ h => h) (by first | exact hS | exact hS.drop | exact hS.drop.drop | exact hS.drop.drop.drop | exact hS.drop.drop.drop.drop | exact hS.empty | exact hS.one 0 rfl | exact hS.one 1 rfl | exact hS.one 2 rfl | exact hS.one 3 rfl | exact hS.one 4 rfl | exact hS.one 5 rfl | exact hS.one 6 rfl | exact hS.one 7 rfl | exact hS.one 8 rfl | exact hS.one 9 rfl | exact hS.one 10 rfl | exact hS.one 11 rfl) (fun hC => ?_)
          clear hK K
          try simp only [List.getElem_toArray, List.getElem_cons_succ, List.getElem_cons_zero, Act.put, List.setIfInBounds_toArray, List.set_cons_zero, List.set_cons_succ]
          refine mixs_take 5 (v := ?_) rfl (by kernel_rfl) (fun _ _ _ h => h) (by kernel_rfl) (by assumption) (fun s => ?hy) ?_; case hy => (go_simp <;> with_reducible rfl)
          try simp only [List.getElem_toArray, List.getElem_cons_succ, List.getElem_cons_zero, Act.put, List.setIfInBounds_toArray, List.set_cons_zero, List.set_cons_succ]
          refine mixs_one 6 (by kernel_rfl) rfl (fun K hK => ?_)
          refine op_store_st (by kernel_rfl) 1 hS rfl rfl rfl (by kernel_rfl) rfl rfl ?_
          intro w1 hS1; clear hS; have hS := hS1; clear hS1; try simp only [List.set_cons_zero, List.set_cons_succ, List.setIfInBounds_toArray, List.take_succ_cons, List.take_zero, List.drop_succ_cons, List.drop_zero, List.nil_append, List.cons_append, List.append_nil, List.drop_nil, List.take_nil, List.length_cons, List.length_nil, Nat.zero_add, Nat.add_zero, Nat.reduceAdd] at hS
          try clear hC
          refine hK.out _ _ _ (fun _ h => h) (by first | exact hS | exact hS.drop | exact hS.drop.drop | exact hS.drop.drop.drop | exact hS.drop.drop.drop.drop | exact hS.empty | exact hS.one 0 rfl | exact hS.one 1 rfl | exact hS.one 2 rfl | exact hS.one 3 rfl | exact hS.one 4 rfl | exact hS.one 5 rfl | exact hS.one 6 rfl | exact hS.one 7 rfl | exact hS.one 8 rfl | exact hS.one 9 rfl | exact hS.one 10 rfl | exact hS.one 11 rfl) (fun hC => ?_)
          clear hK K
          try simp only [List.getElem_toArray, List.getElem_cons_succ, List.getElem_cons_zero, Act.put, List.setIfInBounds_toArray, List.set_cons_zero, List.set_cons_succ]
          refine wpAnyH_done (by kernel_rfl) ?_ _
          try clear hC
          have e1 : List.replicate j (Value.string Z) ++ [.string Z] = List.replicate (j + 1) (.string Z) := by rw [List.replicate_succ']
          rw [e1] at hS
          go_wp2_with fail
          go_roundg (n - (j + 1))
          case measure => omega
          case rel => exact ⟨j + 1, _, by omega, by go_num, hS.drop⟩
    · have hjn : j = n := by omega
      subst hjn
      obtain ⟨a7, c7, rfl, -⟩ := hS.row 2 rfl
      go_wp2_with (first | (with_reducible refine wpList_box_st hS rfl rfl rfl ?_; intro g1 w1 hS1; clear hS; replace hS := hS1; clear hS1) | (with_reducible refine wpList_box1_st hS rfl rfl rfl ?_; intro g1 w1 hS1; clear hS; replace hS := hS1; clear hS1) | (with_reducible refine wpList_alloc_st hS rfl rfl (by assumption) ?_; intro g1 w1 hS1; clear hS; replace hS := hS1; clear hS1) | (with_reducible refine wpList_alloc1_st hS rfl rfl (by assumption) rfl ?_; intro g1 w1 hS1; clear hS; replace hS := hS1; clear hS1) | ((with_reducible refine wpList_load_st 0 hS rfl rfl rfl rfl ?_ rfl ?_); focus (simp [scalarB, go_sem]; done)) | ((with_reducible refine wpList_loadall_st 0 hS rfl rfl rfl rfl ?_ (by kernel_rfl) ?_); focus (simp [rowB, go_sem]; done)) | ((with_reducible refine wpList_store_st 0 hS rfl rfl rfl rfl (by kernel_rfl) rfl rfl ?_); intro w1 hS1; clear hS; replace hS := hS1; clear hS1; try simp only [List.set_cons_zero, List.set_cons_succ, List.setIfInBounds_toArray, List.take_succ_cons, List.take_zero, List.drop_succ_cons, List.drop_zero, List.nil_append, List.cons_append, List.append_nil, List.drop_nil, List.take_nil, List.length_cons, List.length_nil, Nat.zero_add, Nat.add_zero, Nat.reduceAdd] at hS) | ((with_reducible refine wpList_storerow_st 0 hS rfl rfl rfl rfl (by kernel_rfl) rfl rfl rfl rfl ?_); intro w1 hS1; clear hS; replace hS := hS1; clear hS1; try simp only [List.set_cons_zero, List.set_cons_succ, List.setIfInBounds_toArray, List.take_succ_cons, List.take_zero, List.drop_succ_cons, List.drop_zero, List.nil_append, List.cons_append, List.append_nil, List.drop_nil, List.take_nil, List.length_cons, List.length_nil, Nat.zero_add, Nat.add_zero, Nat.reduceAdd] at hS) | ((with_reducible refine wpList_load_st 1 hS rfl rfl rfl rfl ?_ rfl ?_); focus (simp [scalarB, go_sem]; done)) | ((with_reducible refine wpList_loadall_st 1 hS rfl rfl rfl rfl ?_ (by kernel_rfl) ?_); focus (simp [rowB, go_sem]; done)) | ((with_reducible refine wpList_store_st 1 hS rfl rfl rfl rfl (by kernel_rfl) rfl rfl ?_); intro w1 hS1; clear hS; replace hS := hS1; clear hS1; try simp only [List.set_cons_zero, List.set_cons_succ, List.setIfInBounds_toArray, List.take_succ_cons, List.take_zero, List.drop_succ_cons, List.drop_zero, List.nil_append, List.cons_append, List.append_nil, List.drop_nil, List.take_nil, List.length_cons, List.length_nil, Nat.zero_add, Nat.add_zero, Nat.reduceAdd] at hS) | ((with_reducible refine wpList_storerow_st 1 hS rfl rfl rfl rfl (by kernel_rfl) rfl rfl rfl rfl ?_); intro w1 hS1; clear hS; replace hS := hS1; clear hS1; try simp only [List.set_cons_zero, List.set_cons_succ, List.setIfInBounds_toArray, List.take_succ_cons, List.take_zero, List.drop_succ_cons, List.drop_zero, List.nil_append, List.cons_append, List.append_nil, List.drop_nil, List.take_nil, List.length_cons, List.length_nil, Nat.zero_add, Nat.add_zero, Nat.reduceAdd] at hS))
      have c := hS.cell 1 rfl
      refine bodyPost_ret (v := .agg #[.slice a7 j c7, .slice none 0 0, .int .i64 (-1), .bool false]) (by simp [results, Try.results13, go_sem, c]) rfl ⟨_, rfl, hS.drop.drop⟩
end Go.Proofs.Ytlhpibniecfofaa
end

section
/- The reference's disks: Sync. -/
set_option linter.unusedSimpArgs false
set_option linter.unusedVariables false
namespace Go.Proofs.Ytlhpibniecfofaa
open Go.RowKit Go.Ofp
set_option linter.unusedVariables false
set_option maxRecDepth 100000
set_option maxHeartbeats 4000000

end Go.Proofs.Ytlhpibniecfofaa
end
