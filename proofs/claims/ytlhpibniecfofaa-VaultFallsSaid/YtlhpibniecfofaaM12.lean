/- Texts laid together: Ring3 St12 St13. -/
import Derived.WalkMore
import Derived.Test.YtlhpibniecfofaaM11
import Derived.Test.YtlhpibniecfofaaM4
import Derived.Test.YtlhpibniecfofaaM5
import Derived.Test.YtlhpibniecfofaaM6
section
/- Rings: Open. -/
set_option linter.unusedSimpArgs false
set_option linter.unusedVariables false
namespace Go.Proofs.Ytlhpibniecfofaa
open Go.RowKit Go.Ofp
set_option linter.unusedVariables false
set_option maxRecDepth 100000
set_option maxHeartbeats 8000000

theorem elem_tx : Elem Try.prog 9 (.string ⟨#[]⟩) 1 16 := Elem.mk (by kernel_rfl) (by rfl) (by decide)
def vs (s : ByteArray) : Value := .string s
theorem rows_snoc (l : List Pc) (p : Pc) {b : Bool} (h : p.last = b) : (l.map Pc.row).flatten ++ [.int .i64 p.life, .int .i64 p.place, .bool p.first, .bool b, .string p.body] = ((l ++ [p]).map Pc.row).flatten := by subst h; simp [Pc.row]

/-- What the inner loop knows. -/
theorem open_last {d : Dk} {r : Rg} {least : Int} {at' K j : Nat} {acc : List Pc} {p : Pc} (hK : at' + K = r.head + r.n) (hG : gather (fun i => fits least r.life (d.pc r.src r.n i)) K at' = (gather (fun i => fits least r.life (d.pc r.src r.n i)) (K - j) (at' + j)).map (acc ++ ·)) (hj : acc.length = j) (hlt : j < K)
    (hf : fits least r.life (d.pc r.src r.n ((at' + j : Nat) : Int)) = some p) (hl : p.last = true) : d.recAt r least at' = recOf (some (acc ++ [p])) at' := by
  have e : K - j = (K - (j + 1)) + 1 := by omega
  rw [e, gather_last (p := p) hf hl] at hG
  unfold Dk.recAt
  rw [show r.head + r.n - at' = K by omega, hG]
  rfl
theorem open_next {d : Dk} {r : Rg} {least : Int} {at' K j : Nat} {acc : List Pc} {p : Pc} (hG : gather (fun i => fits least r.life (d.pc r.src r.n i)) K at' = (gather (fun i => fits least r.life (d.pc r.src r.n i)) (K - j) (at' + j)).map (acc ++ ·)) (hlt : j < K)
    (hf : fits least r.life (d.pc r.src r.n ((at' + j : Nat) : Int)) = some p) (hl : p.last = false) : gather (fun i => fits least r.life (d.pc r.src r.n i)) K at' = (gather (fun i => fits least r.life (d.pc r.src r.n i)) (K - (j + 1)) (at' + (j + 1))).map ((acc ++ [p]) ++ ·) := by
  have e : K - j = (K - (j + 1)) + 1 := by omega
  rw [hG, e, gather_more (p := p) hf hl, Option.map_map]
  congr 1
  funext m
  simp
theorem open_stop {d : Dk} {r : Rg} {least : Int} {at' K j : Nat} {acc : List Pc} (hK : at' + K = r.head + r.n) (hG : gather (fun i => fits least r.life (d.pc r.src r.n i)) K at' = (gather (fun i => fits least r.life (d.pc r.src r.n i)) (K - j) (at' + j)).map (acc ++ ·))
    (hf : j = K ∨ fits least r.life (d.pc r.src r.n ((at' + j : Nat) : Int)) = none) : d.recAt r least at' = none := by
  unfold Dk.recAt
  rw [show r.head + r.n - at' = K by omega, hG]
  rcases hf with rfl | hf
  · rw [Nat.sub_self]; rfl
  · rw [gather_none hf]; rfl

theorem rgopen_any (bd : Nat) (sv wv : Value) (d : Dk) (f n h l size k : Nat) (w : World) (hD : St w (feet (dks bd sv wv d)) (dks bd sv wv d) w) (hfit : d.Fit size k) (hs : size ≤ 100000) (hk : k ≤ 100000) (hb : ringOk size f n h l = true) (hd : d.dead = false) :
    Calls Try.prog 45 #[.pointer (some ⟨bd, 0, none⟩), .int .i64 f, .int .i64 n, .int .i64 h, .int .i64 l] w fun e w' => ∃ g v t recs, e = .returned (.tuple #[.pointer (some ⟨g, 0, none⟩), v, .int .i64 0]) ∧ d.Runs ⟨f, n, h, h, l⟩ 1 h recs t ∧ St w (feet (dks bd sv wv d)) (Ch.row 9 1 v recs.length (recs.map vs) :: rng g bd ⟨f, n, h, t, l⟩ :: dks bd sv wv d) w' := by
  have hsz := hfit.sec
  have hb0 := hb
  rw [← hsz] at hb
  have cN := fun W hh => rgnew_any bd sv wv d f n h l W hh (by omega)
  have cN1 : ∀ W, St W (feet (dks bd sv wv d)) (dks bd sv wv d) W → Calls Try.prog 42 #[.pointer (some ⟨bd, 0, none⟩), .int .i64 f, .int .i64 n, .int .i64 h, .int .i64 l] W fun e w' => ∃ g, e = .returned (.pointer (some ⟨g, 0, none⟩)) ∧ St W [] [rng g bd ⟨f, n, h, h, l⟩] w' := fun W hh => (cN W hh).mono fun e w' hk => hk.2 hb
  rw [ringOk_iff] at hb0
  obtain ⟨-, hn1, hf1, hfn, -, hh1, hl1, hl2⟩ := hb0
  have hro : ∀ t : Nat, h ≤ t → t ≤ h + n → t ≤ 1099511627776 → (⟨f, n, h, t, l⟩ : Rg).Ok size := fun t h1 h2 h3 => ⟨by simp only; omega, by simp only; omega, ⟨h1, h2⟩, h3, by simp only; omega⟩
  have cD := fun W hh => dead_any bd sv wv d W hh
  rw [hd] at cD
  have cR := fun (g t : Nat) (ht : h ≤ t ∧ t ≤ h + n ∧ t ≤ 1099511627776) (place : Int) (hp : 0 ≤ place ∧ place ≤ 2199023255552) W hh => rgread_any g bd sv wv d ⟨f, n, h, t, l⟩ size k place W hh (hro t ht.1 ht.2.1 ht.2.2) hfit hs hk hp
  simp only at cR
  have hS : St w (feet (dks bd sv wv d)) (dks bd sv wv d ++ []) w := by rw [List.append_nil]; exact hD
  generalize feet (dks bd sv wv d) = F at hS ⊢
  obtain ⟨q, hq⟩ : ∃ q : Rg, q = ⟨f, n, h, h, l⟩ := ⟨_, rfl⟩
  have hqs : q.src = f ∧ q.n = n ∧ q.head = h ∧ q.life = l := by subst hq; exact ⟨rfl, rfl, rfl, rfl⟩
  rw [← hq]
  replace hq := Lib.hid hq
  replace hqs := Lib.hid hqs
  replace cN1 := Lib.hid cN1
  replace cD := Lib.hid cD
  replace cR := Lib.hid cR
  have hhn : h ≤ 1099511627776 := by omega
  clear cN hD hro hb hh1 hl1 hl2
  go_enter Try.func45, Try.ntmps45
  go_wp2_with fail
  go_step3
  go_wp2_with (first
    | (go_at_call 42; (with_reducible refine (cN1.out _ (hS.preM (A := []) (B := dks bd sv wv d) (R := []))).mono ?_); rintro _ w2 ⟨g, rfl, hk⟩; have hS1 := hS.made hk; clear hS hk; have hS : St w F (rng g bd ⟨f, n, h, h, l⟩ :: (dks bd sv wv d ++ [])) w2 := hS1; clear hS1)
    | (go_at_call 24; (with_reducible refine (cD.out _ (hS.preM (A := [_]) (B := dks bd sv wv d) (R := []))).mono ?_); rintro _ _ ⟨rfl, rfl⟩))
  clear cN1 cD
  have hS1 := hS.nilrow 9 1
  clear hS
  have hS := hS1
  clear hS1
  go_step3
  go_wp2_with fail
  go_loopg [14, 15] (n + 1) (fun gk vr vl wr => ∃ (at' : Nat) (least : Int) (m : List ByteArray) (rv : Value), rv = vr ∧ at' + gk = h + n + 1 ∧ h ≤ at' ∧ at' ≤ h + n ∧ at' ≤ 1099511627776 ∧ m.length ≤ at' ∧ vl = .int .i64 least ∧ Hid (∀ x e, d.Runs q least at' x e → d.Runs q 1 h (m ++ x) e) ∧ St w F (Ch.row 9 1 rv m.length (m.map vs) :: rng g bd ⟨f, n, h, at', l⟩ :: (dks bd sv wv d ++ [])) wr)
  case atStart => exact ⟨h, 1, [], _, rfl, by omega, by omega, by omega, by omega, by simp, rfl, Lib.hid fun x e hx => hx, hS⟩
  case round =>
    clear hS
    obtain ⟨at', least, m, rv, rfl, hat, ha1, ha2, ha3, hml, rfl, hI, hS⟩ := hrel
    have ez := elem_pc
    have ex := elem_tx
    obtain ⟨K, hK⟩ : ∃ K, at' + K = h + n := ⟨h + n - at', by omega⟩
    have cRa := fun place hp W hh => cR.out g at' ⟨ha1, ha2, ha3⟩ place hp W hh
    replace cRa := Lib.hid cRa
    go_wp2_with (first | (with_reducible refine wpList_box_st hS rfl rfl rfl ?_; intro g1 w1 hS1; clear hS; replace hS := hS1; clear hS1) | (with_reducible refine wpList_box1_st hS rfl rfl rfl ?_; intro g1 w1 hS1; clear hS; replace hS := hS1; clear hS1) | (with_reducible refine wpList_alloc_st hS rfl rfl (by assumption) ?_; intro g1 w1 hS1; clear hS; replace hS := hS1; clear hS1) | (with_reducible refine wpList_alloc1_st hS rfl rfl (by assumption) rfl ?_; intro g1 w1 hS1; clear hS; replace hS := hS1; clear hS1) | ((with_reducible refine wpList_load_st 0 hS rfl rfl rfl rfl ?_ rfl ?_); focus (simp [scalarB, go_sem]; done)) | ((with_reducible refine wpList_loadall_st 0 hS rfl rfl rfl rfl ?_ (by kernel_rfl) ?_); focus (simp [rowB, go_sem]; done)) | ((with_reducible refine wpList_store_st 0 hS rfl rfl rfl rfl (by kernel_rfl) rfl rfl ?_); intro w1 hS1; clear hS; replace hS := hS1; clear hS1; try simp only [List.set_cons_zero, List.set_cons_succ, List.setIfInBounds_toArray, List.take_succ_cons, List.take_zero, List.drop_succ_cons, List.drop_zero, List.nil_append, List.cons_append, List.append_nil, List.drop_nil, List.take_nil, List.length_cons, List.length_nil, Nat.zero_add, Nat.add_zero, Nat.reduceAdd] at hS) | ((with_reducible refine wpList_storerow_st 0 hS rfl rfl rfl rfl (by kernel_rfl) rfl rfl rfl rfl ?_); intro w1 hS1; clear hS; replace hS := hS1; clear hS1; try simp only [List.set_cons_zero, List.set_cons_succ, List.setIfInBounds_toArray, List.take_succ_cons, List.take_zero, List.drop_succ_cons, List.drop_zero, List.nil_append, List.cons_append, List.append_nil, List.drop_nil, List.take_nil, List.length_cons, List.length_nil, Nat.zero_add, Nat.add_zero, Nat.reduceAdd] at hS) | ((with_reducible refine wpList_load_st 1 hS rfl rfl rfl rfl ?_ rfl ?_); focus (simp [scalarB, go_sem]; done)) | ((with_reducible refine wpList_loadall_st 1 hS rfl rfl rfl rfl ?_ (by kernel_rfl) ?_); focus (simp [rowB, go_sem]; done)) | ((with_reducible refine wpList_store_st 1 hS rfl rfl rfl rfl (by kernel_rfl) rfl rfl ?_); intro w1 hS1; clear hS; replace hS := hS1; clear hS1; try simp only [List.set_cons_zero, List.set_cons_succ, List.setIfInBounds_toArray, List.take_succ_cons, List.take_zero, List.drop_succ_cons, List.drop_zero, List.nil_append, List.cons_append, List.append_nil, List.drop_nil, List.take_nil, List.length_cons, List.length_nil, Nat.zero_add, Nat.add_zero, Nat.reduceAdd] at hS) | ((with_reducible refine wpList_storerow_st 1 hS rfl rfl rfl rfl (by kernel_rfl) rfl rfl rfl rfl ?_); intro w1 hS1; clear hS; replace hS := hS1; clear hS1; try simp only [List.set_cons_zero, List.set_cons_succ, List.setIfInBounds_toArray, List.take_succ_cons, List.take_zero, List.drop_succ_cons, List.drop_zero, List.nil_append, List.cons_append, List.append_nil, List.drop_nil, List.take_nil, List.length_cons, List.length_nil, Nat.zero_add, Nat.add_zero, Nat.reduceAdd] at hS))
    have hS1 := hS.nilrow 148 5
    clear hS
    have hS := hS1
    clear hS1
    go_loopg [16, 17] K (fun gj vl vp wr => ∃ (j : Nat) (acc : List Pc) (lv : Value), lv = vl ∧ j + gj = K ∧ acc.length = j ∧ vp = .int .i64 ((at' + j : Nat) : Int) ∧ Hid (gather (fun i => fits least q.life (d.pc q.src q.n i)) K at' = (gather (fun i => fits least q.life (d.pc q.src q.n i)) (K - j) (at' + j)).map (acc ++ ·)) ∧ St w F (Ch.row 148 5 lv j (acc.map Pc.row).flatten :: Ch.row 9 1 rv m.length (m.map vs) :: rng g bd ⟨f, n, h, at', l⟩ :: (dks bd sv wv d ++ [])) wr)
    case atStart => exact ⟨0, [], _, rfl, by omega, rfl, by simp, Lib.hid (by simp), hS⟩
    case round =>
      clear hS
      obtain ⟨j, acc, lv, rfl, hj, hacc, rfl, hG, hS⟩ := hrel
      obtain ⟨pl, hpl⟩ : ∃ z : Int, ((at' + j : Nat) : Int) = z := ⟨_, rfl⟩
      have hsub : IntKind.i64.wrap (pl - (h : Int)) = pl - h := IntWalk.i64_in _ (by omega)
      have hadd : IntKind.i64.wrap (pl + 1) = ((at' + (j + 1) : Nat) : Int) := by rw [IntWalk.i64_in _ (by omega)]; omega
      rw [hpl]
      have hKq : at' + K = q.head + q.n := by rw [hqs.out.2.2.1, hqs.out.2.1]; exact hK
      by_cases hjK : j < K
      · have hlt : pl - (h : Int) < n := by omega
        obtain ⟨p, ok, hpc⟩ : ∃ p ok, d.pc q.src q.n pl = (p, ok) := ⟨_, _, rfl⟩
        have cRj := fun W hh => cRa.out pl (by omega) W hh
        have hpf : d.pc f n pl = (p, ok) := by rw [← hpc, hqs.out.1, hqs.out.2.1]
        rw [hpf] at cRj
        simp only at cRj
        have hpk := hpc
        rw [← hpl] at hpk
        have hx1 : fits least q.life (p, ok) = none → d.Runs q 1 h m at' := fun hf => by
          have := hI.out [] at' (.stop (open_stop hKq hG.out (.inr (by rw [hpk]; exact hf))))
          rwa [List.append_nil] at this
        have hql : q.life = l := hqs.out.2.2.2
        rw [hql] at hx1
        replace cRj := Lib.hid cRj
        replace hpl := Lib.hid hpl
        replace hpk := Lib.hid hpk
        replace hx1 := Lib.hid hx1
        clear hpf hpc cR cRa hql
        cases ok with
        | false =>
          go_wp2_with fail
          revert hS
          apply wp_cut0
          · intro hS
            refine mixs_beginC 2 (by kernel_rfl) hS rfl ?_
            clear hS
            intro w6 hS hC
            have kC := hC.kblk 0 rfl
            refine mixs_take 0 (v := ?_) rfl (by kernel_rfl) (fun _ _ _ h => h) (by kernel_rfl) (by assumption) (fun s => ?hy) ?_; case hy => (go_simp <;> with_reducible rfl)
            try simp only [List.getElem_toArray, List.getElem_cons_succ, List.getElem_cons_zero, Act.put, List.setIfInBounds_toArray, List.set_cons_zero, List.set_cons_succ]
            refine mixs_take 1 (v := ?_) rfl (by kernel_rfl) (fun _ _ _ h => h) (by kernel_rfl) (by assumption) (fun s => ?hy) ?_; case hy => (go_simp <;> with_reducible rfl)
            try simp only [List.getElem_toArray, List.getElem_cons_succ, List.getElem_cons_zero, Act.put, List.setIfInBounds_toArray, List.set_cons_zero, List.set_cons_succ]
            refine mixs_take 2 (v := ?_) rfl (by kernel_rfl) (fun _ _ _ h => h) (by kernel_rfl) (by assumption) (fun s => ?hy) ?_; case hy => (go_simp <;> with_reducible rfl)
            try simp only [List.getElem_toArray, List.getElem_cons_succ, List.getElem_cons_zero, Act.put, List.setIfInBounds_toArray, List.set_cons_zero, List.set_cons_succ]
            refine mixs_take 3 (v := ?_) rfl (by kernel_rfl) (fun _ _ _ h => h) (by kernel_rfl) (by assumption) (fun s => ?hy) ?_; case hy => (go_simp <;> with_reducible rfl)
            try simp only [List.getElem_toArray, List.getElem_cons_succ, List.getElem_cons_zero, Act.put, List.setIfInBounds_toArray, List.set_cons_zero, List.set_cons_succ]
            refine mixs_take 4 (v := ?_) rfl (by kernel_rfl) (fun _ _ _ h => h) (by kernel_rfl) (by assumption) (fun s => ?hy) ?_; case hy => (go_simp <;> with_reducible rfl)
            try simp only [List.getElem_toArray, List.getElem_cons_succ, List.getElem_cons_zero, Act.put, List.setIfInBounds_toArray, List.set_cons_zero, List.set_cons_succ]
            refine mixs_take 5 (v := ?_) rfl (by kernel_rfl) (fun _ _ _ h => h) (by kernel_rfl) (by assumption) (fun s => ?hy) ?_; case hy => (go_simp <;> with_reducible rfl)
            try simp only [List.getElem_toArray, List.getElem_cons_succ, List.getElem_cons_zero, Act.put, List.setIfInBounds_toArray, List.set_cons_zero, List.set_cons_succ]
            refine mixs_take 6 (v := ?_) rfl (by kernel_rfl) (fun _ _ _ h => h) (by kernel_rfl) (by assumption) (fun s => ?hy) ?_; case hy => (go_simp <;> with_reducible rfl)
            try simp only [List.getElem_toArray, List.getElem_cons_succ, List.getElem_cons_zero, Act.put, List.setIfInBounds_toArray, List.set_cons_zero, List.set_cons_succ]
            refine mixs_take 7 (v := ?_) rfl (by kernel_rfl) (fun _ _ _ h => h) (by kernel_rfl) (by assumption) (fun s => ?hy) ?_; case hy => (go_simp <;> with_reducible rfl)
            try simp only [List.getElem_toArray, List.getElem_cons_succ, List.getElem_cons_zero, Act.put, List.setIfInBounds_toArray, List.set_cons_zero, List.set_cons_succ]
            refine mixs_take 8 (v := ?_) rfl (by kernel_rfl) (fun _ _ _ h => h) (by kernel_rfl) (by assumption) (fun s => ?hy) ?_; case hy => (go_simp <;> with_reducible rfl)
            try simp only [List.getElem_toArray, List.getElem_cons_succ, List.getElem_cons_zero, Act.put, List.setIfInBounds_toArray, List.set_cons_zero, List.set_cons_succ]
            refine mixs_take 9 (v := ?_) rfl (by kernel_rfl) (fun _ _ _ h => h) (by kernel_rfl) (by assumption) (fun s => ?hy) ?_; case hy => (go_simp <;> with_reducible rfl)
            try simp only [List.getElem_toArray, List.getElem_cons_succ, List.getElem_cons_zero, Act.put, List.setIfInBounds_toArray, List.set_cons_zero, List.set_cons_succ]
            refine mixs_take 10 (v := ?_) rfl (by kernel_rfl) (fun _ _ _ h => h) (by kernel_rfl) (by assumption) (fun s => ?hy) ?_; case hy => (go_simp <;> with_reducible rfl)
            try simp only [List.getElem_toArray, List.getElem_cons_succ, List.getElem_cons_zero, Act.put, List.setIfInBounds_toArray, List.set_cons_zero, List.set_cons_succ]
            refine wpAnyH_done (by kernel_rfl) ?_ _
            exact ⟨rfl, hS⟩
          intro w7 hS
          go_wp2_with (first
            | (go_at_call 87; (with_reducible refine (cRj.out _ (hS.preM (A := [_, _]) (B := rng g bd _ :: dks bd sv wv d) (R := []))).mono ?_); rintro _ w8 ⟨rfl, hk⟩; have hS1 := hS.callM (A := [_, _]) (R := []) hk; clear hS hk; have hS := hS1; clear hS1; simp only [List.cons_append, List.nil_append] at hS)
            | ((with_reducible refine wpList_alloc_st hS rfl rfl ez ?_); intro g18 w9 hS1; clear hS; have hS := hS1; clear hS1)
            | ((with_reducible refine wpList_storerow_st 0 hS rfl rfl rfl rfl (by kernel_rfl) rfl rfl rfl rfl ?_); intro w10 hS1; clear hS; have hS := hS1; clear hS1; try simp only [List.set_cons_zero, List.set_cons_succ, List.setIfInBounds_toArray, List.take_succ_cons, List.take_zero, List.drop_succ_cons, List.drop_zero, List.nil_append, List.cons_append, List.append_nil, List.drop_nil, List.take_nil, List.length_cons, List.length_nil, Nat.zero_add, Nat.add_zero, Nat.reduceAdd] at hS; have hcl := hS.cell 0 rfl)
            | (with_reducible refine wpList_box_st hS rfl rfl rfl ?_; intro g1 w1 hS1; clear hS; replace hS := hS1; clear hS1) | (with_reducible refine wpList_box1_st hS rfl rfl rfl ?_; intro g1 w1 hS1; clear hS; replace hS := hS1; clear hS1) | (with_reducible refine wpList_alloc_st hS rfl rfl (by assumption) ?_; intro g1 w1 hS1; clear hS; replace hS := hS1; clear hS1) | (with_reducible refine wpList_alloc1_st hS rfl rfl (by assumption) rfl ?_; intro g1 w1 hS1; clear hS; replace hS := hS1; clear hS1) | ((with_reducible refine wpList_load_st 0 hS rfl rfl rfl rfl ?_ rfl ?_); focus (simp [scalarB, go_sem]; done)) | ((with_reducible refine wpList_loadall_st 0 hS rfl rfl rfl rfl ?_ (by kernel_rfl) ?_); focus (simp [rowB, go_sem]; done)) | ((with_reducible refine wpList_store_st 0 hS rfl rfl rfl rfl (by kernel_rfl) rfl rfl ?_); intro w1 hS1; clear hS; replace hS := hS1; clear hS1; try simp only [List.set_cons_zero, List.set_cons_succ, List.setIfInBounds_toArray, List.take_succ_cons, List.take_zero, List.drop_succ_cons, List.drop_zero, List.nil_append, List.cons_append, List.append_nil, List.drop_nil, List.take_nil, List.length_cons, List.length_nil, Nat.zero_add, Nat.add_zero, Nat.reduceAdd] at hS) | ((with_reducible refine wpList_storerow_st 0 hS rfl rfl rfl rfl (by kernel_rfl) rfl rfl rfl rfl ?_); intro w1 hS1; clear hS; replace hS := hS1; clear hS1; try simp only [List.set_cons_zero, List.set_cons_succ, List.setIfInBounds_toArray, List.take_succ_cons, List.take_zero, List.drop_succ_cons, List.drop_zero, List.nil_append, List.cons_append, List.append_nil, List.drop_nil, List.take_nil, List.length_cons, List.length_nil, Nat.zero_add, Nat.add_zero, Nat.reduceAdd] at hS))
          rw [Exit.noGoto_ret]
          go_ret3
          exact ⟨g, _, at', m, rfl, hx1.out (by rw [fits, if_neg (by simp)]), by simpa using hS.drop.drop⟩
        | true =>
          by_cases hf1 : p.life < least
          · skip
            go_wp2_with fail
            revert hS
            apply wp_cut0
            · intro hS
              refine mixs_beginC 2 (by kernel_rfl) hS rfl ?_
              clear hS
              intro w6 hS hC
              have kC := hC.kblk 0 rfl
              refine mixs_take 0 (v := ?_) rfl (by kernel_rfl) (fun _ _ _ h => h) (by kernel_rfl) (by assumption) (fun s => ?hy) ?_; case hy => (go_simp <;> with_reducible rfl)
              try simp only [List.getElem_toArray, List.getElem_cons_succ, List.getElem_cons_zero, Act.put, List.setIfInBounds_toArray, List.set_cons_zero, List.set_cons_succ]
              refine mixs_take 1 (v := ?_) rfl (by kernel_rfl) (fun _ _ _ h => h) (by kernel_rfl) (by assumption) (fun s => ?hy) ?_; case hy => (go_simp <;> with_reducible rfl)
              try simp only [List.getElem_toArray, List.getElem_cons_succ, List.getElem_cons_zero, Act.put, List.setIfInBounds_toArray, List.set_cons_zero, List.set_cons_succ]
              refine mixs_take 2 (v := ?_) rfl (by kernel_rfl) (fun _ _ _ h => h) (by kernel_rfl) (by assumption) (fun s => ?hy) ?_; case hy => (go_simp <;> with_reducible rfl)
              try simp only [List.getElem_toArray, List.getElem_cons_succ, List.getElem_cons_zero, Act.put, List.setIfInBounds_toArray, List.set_cons_zero, List.set_cons_succ]
              refine mixs_take 3 (v := ?_) rfl (by kernel_rfl) (fun _ _ _ h => h) (by kernel_rfl) (by assumption) (fun s => ?hy) ?_; case hy => (go_simp <;> with_reducible rfl)
              try simp only [List.getElem_toArray, List.getElem_cons_succ, List.getElem_cons_zero, Act.put, List.setIfInBounds_toArray, List.set_cons_zero, List.set_cons_succ]
              refine mixs_take 4 (v := ?_) rfl (by kernel_rfl) (fun _ _ _ h => h) (by kernel_rfl) (by assumption) (fun s => ?hy) ?_; case hy => (go_simp <;> with_reducible rfl)
              try simp only [List.getElem_toArray, List.getElem_cons_succ, List.getElem_cons_zero, Act.put, List.setIfInBounds_toArray, List.set_cons_zero, List.set_cons_succ]
              refine mixs_take 5 (v := ?_) rfl (by kernel_rfl) (fun _ _ _ h => h) (by kernel_rfl) (by assumption) (fun s => ?hy) ?_; case hy => (go_simp <;> with_reducible rfl)
              try simp only [List.getElem_toArray, List.getElem_cons_succ, List.getElem_cons_zero, Act.put, List.setIfInBounds_toArray, List.set_cons_zero, List.set_cons_succ]
              refine mixs_take 6 (v := ?_) rfl (by kernel_rfl) (fun _ _ _ h => h) (by kernel_rfl) (by assumption) (fun s => ?hy) ?_; case hy => (go_simp <;> with_reducible rfl)
              try simp only [List.getElem_toArray, List.getElem_cons_succ, List.getElem_cons_zero, Act.put, List.setIfInBounds_toArray, List.set_cons_zero, List.set_cons_succ]
              refine mixs_take 7 (v := ?_) rfl (by kernel_rfl) (fun _ _ _ h => h) (by kernel_rfl) (by assumption) (fun s => ?hy) ?_; case hy => (go_simp <;> with_reducible rfl)
              try simp only [List.getElem_toArray, List.getElem_cons_succ, List.getElem_cons_zero, Act.put, List.setIfInBounds_toArray, List.set_cons_zero, List.set_cons_succ]
              refine mixs_take 8 (v := ?_) rfl (by kernel_rfl) (fun _ _ _ h => h) (by kernel_rfl) (by assumption) (fun s => ?hy) ?_; case hy => (go_simp <;> with_reducible rfl)
              try simp only [List.getElem_toArray, List.getElem_cons_succ, List.getElem_cons_zero, Act.put, List.setIfInBounds_toArray, List.set_cons_zero, List.set_cons_succ]
              refine mixs_take 9 (v := ?_) rfl (by kernel_rfl) (fun _ _ _ h => h) (by kernel_rfl) (by assumption) (fun s => ?hy) ?_; case hy => (go_simp <;> with_reducible rfl)
              try simp only [List.getElem_toArray, List.getElem_cons_succ, List.getElem_cons_zero, Act.put, List.setIfInBounds_toArray, List.set_cons_zero, List.set_cons_succ]
              refine mixs_take 10 (v := ?_) rfl (by kernel_rfl) (fun _ _ _ h => h) (by kernel_rfl) (by assumption) (fun s => ?hy) ?_; case hy => (go_simp <;> with_reducible rfl)
              try simp only [List.getElem_toArray, List.getElem_cons_succ, List.getElem_cons_zero, Act.put, List.setIfInBounds_toArray, List.set_cons_zero, List.set_cons_succ]
              refine wpAnyH_done (by kernel_rfl) ?_ _
              exact ⟨rfl, hS⟩
            intro w7 hS
            go_wp2_with (first
              | (go_at_call 87; (with_reducible refine (cRj.out _ (hS.preM (A := [_, _]) (B := rng g bd _ :: dks bd sv wv d) (R := []))).mono ?_); rintro _ w8 ⟨rfl, hk⟩; have hS1 := hS.callM (A := [_, _]) (R := []) hk; clear hS hk; have hS := hS1; clear hS1; simp only [List.cons_append, List.nil_append] at hS)
              | ((with_reducible refine wpList_alloc_st hS rfl rfl ez ?_); intro g18 w9 hS1; clear hS; have hS := hS1; clear hS1)
              | ((with_reducible refine wpList_storerow_st 0 hS rfl rfl rfl rfl (by kernel_rfl) rfl rfl rfl rfl ?_); intro w10 hS1; clear hS; have hS := hS1; clear hS1; try simp only [List.set_cons_zero, List.set_cons_succ, List.setIfInBounds_toArray, List.take_succ_cons, List.take_zero, List.drop_succ_cons, List.drop_zero, List.nil_append, List.cons_append, List.append_nil, List.drop_nil, List.take_nil, List.length_cons, List.length_nil, Nat.zero_add, Nat.add_zero, Nat.reduceAdd] at hS; have hcl := hS.cell 0 rfl)
              | (with_reducible refine wpList_box_st hS rfl rfl rfl ?_; intro g1 w1 hS1; clear hS; replace hS := hS1; clear hS1) | (with_reducible refine wpList_box1_st hS rfl rfl rfl ?_; intro g1 w1 hS1; clear hS; replace hS := hS1; clear hS1) | (with_reducible refine wpList_alloc_st hS rfl rfl (by assumption) ?_; intro g1 w1 hS1; clear hS; replace hS := hS1; clear hS1) | (with_reducible refine wpList_alloc1_st hS rfl rfl (by assumption) rfl ?_; intro g1 w1 hS1; clear hS; replace hS := hS1; clear hS1) | ((with_reducible refine wpList_load_st 0 hS rfl rfl rfl rfl ?_ rfl ?_); focus (simp [scalarB, go_sem]; done)) | ((with_reducible refine wpList_loadall_st 0 hS rfl rfl rfl rfl ?_ (by kernel_rfl) ?_); focus (simp [rowB, go_sem]; done)) | ((with_reducible refine wpList_store_st 0 hS rfl rfl rfl rfl (by kernel_rfl) rfl rfl ?_); intro w1 hS1; clear hS; replace hS := hS1; clear hS1; try simp only [List.set_cons_zero, List.set_cons_succ, List.setIfInBounds_toArray, List.take_succ_cons, List.take_zero, List.drop_succ_cons, List.drop_zero, List.nil_append, List.cons_append, List.append_nil, List.drop_nil, List.take_nil, List.length_cons, List.length_nil, Nat.zero_add, Nat.add_zero, Nat.reduceAdd] at hS) | ((with_reducible refine wpList_storerow_st 0 hS rfl rfl rfl rfl (by kernel_rfl) rfl rfl rfl rfl ?_); intro w1 hS1; clear hS; replace hS := hS1; clear hS1; try simp only [List.set_cons_zero, List.set_cons_succ, List.setIfInBounds_toArray, List.take_succ_cons, List.take_zero, List.drop_succ_cons, List.drop_zero, List.nil_append, List.cons_append, List.append_nil, List.drop_nil, List.take_nil, List.length_cons, List.length_nil, Nat.zero_add, Nat.add_zero, Nat.reduceAdd] at hS))
            rw [Exit.noGoto_ret]
            go_ret3
            exact ⟨g, _, at', m, rfl, hx1.out (by rw [fits, if_neg (by simp only; omega)]), by simpa using hS.drop.drop⟩
          · replace hf1 : least ≤ p.life := by omega
            by_cases hf2 : (l : Int) < p.life
            · skip
              go_wp2_with fail
              revert hS
              apply wp_cut0
              · intro hS
                refine mixs_beginC 2 (by kernel_rfl) hS rfl ?_
                clear hS
                intro w6 hS hC
                have kC := hC.kblk 0 rfl
                refine mixs_take 0 (v := ?_) rfl (by kernel_rfl) (fun _ _ _ h => h) (by kernel_rfl) (by assumption) (fun s => ?hy) ?_; case hy => (go_simp <;> with_reducible rfl)
                try simp only [List.getElem_toArray, List.getElem_cons_succ, List.getElem_cons_zero, Act.put, List.setIfInBounds_toArray, List.set_cons_zero, List.set_cons_succ]
                refine mixs_take 1 (v := ?_) rfl (by kernel_rfl) (fun _ _ _ h => h) (by kernel_rfl) (by assumption) (fun s => ?hy) ?_; case hy => (go_simp <;> with_reducible rfl)
                try simp only [List.getElem_toArray, List.getElem_cons_succ, List.getElem_cons_zero, Act.put, List.setIfInBounds_toArray, List.set_cons_zero, List.set_cons_succ]
                refine mixs_take 2 (v := ?_) rfl (by kernel_rfl) (fun _ _ _ h => h) (by kernel_rfl) (by assumption) (fun s => ?hy) ?_; case hy => (go_simp <;> with_reducible rfl)
                try simp only [List.getElem_toArray, List.getElem_cons_succ, List.getElem_cons_zero, Act.put, List.setIfInBounds_toArray, List.set_cons_zero, List.set_cons_succ]
                refine mixs_take 3 (v := ?_) rfl (by kernel_rfl) (fun _ _ _ h => h) (by kernel_rfl) (by assumption) (fun s => ?hy) ?_; case hy => (go_simp <;> with_reducible rfl)
                try simp only [List.getElem_toArray, List.getElem_cons_succ, List.getElem_cons_zero, Act.put, List.setIfInBounds_toArray, List.set_cons_zero, List.set_cons_succ]
                refine mixs_take 4 (v := ?_) rfl (by kernel_rfl) (fun _ _ _ h => h) (by kernel_rfl) (by assumption) (fun s => ?hy) ?_; case hy => (go_simp <;> with_reducible rfl)
                try simp only [List.getElem_toArray, List.getElem_cons_succ, List.getElem_cons_zero, Act.put, List.setIfInBounds_toArray, List.set_cons_zero, List.set_cons_succ]
                refine mixs_take 5 (v := ?_) rfl (by kernel_rfl) (fun _ _ _ h => h) (by kernel_rfl) (by assumption) (fun s => ?hy) ?_; case hy => (go_simp <;> with_reducible rfl)
                try simp only [List.getElem_toArray, List.getElem_cons_succ, List.getElem_cons_zero, Act.put, List.setIfInBounds_toArray, List.set_cons_zero, List.set_cons_succ]
                refine mixs_take 6 (v := ?_) rfl (by kernel_rfl) (fun _ _ _ h => h) (by kernel_rfl) (by assumption) (fun s => ?hy) ?_; case hy => (go_simp <;> with_reducible rfl)
                try simp only [List.getElem_toArray, List.getElem_cons_succ, List.getElem_cons_zero, Act.put, List.setIfInBounds_toArray, List.set_cons_zero, List.set_cons_succ]
                refine mixs_take 7 (v := ?_) rfl (by kernel_rfl) (fun _ _ _ h => h) (by kernel_rfl) (by assumption) (fun s => ?hy) ?_; case hy => (go_simp <;> with_reducible rfl)
                try simp only [List.getElem_toArray, List.getElem_cons_succ, List.getElem_cons_zero, Act.put, List.setIfInBounds_toArray, List.set_cons_zero, List.set_cons_succ]
                refine mixs_take 8 (v := ?_) rfl (by kernel_rfl) (fun _ _ _ h => h) (by kernel_rfl) (by assumption) (fun s => ?hy) ?_; case hy => (go_simp <;> with_reducible rfl)
                try simp only [List.getElem_toArray, List.getElem_cons_succ, List.getElem_cons_zero, Act.put, List.setIfInBounds_toArray, List.set_cons_zero, List.set_cons_succ]
                refine mixs_take 9 (v := ?_) rfl (by kernel_rfl) (fun _ _ _ h => h) (by kernel_rfl) (by assumption) (fun s => ?hy) ?_; case hy => (go_simp <;> with_reducible rfl)
                try simp only [List.getElem_toArray, List.getElem_cons_succ, List.getElem_cons_zero, Act.put, List.setIfInBounds_toArray, List.set_cons_zero, List.set_cons_succ]
                refine mixs_take 10 (v := ?_) rfl (by kernel_rfl) (fun _ _ _ h => h) (by kernel_rfl) (by assumption) (fun s => ?hy) ?_; case hy => (go_simp <;> with_reducible rfl)
                try simp only [List.getElem_toArray, List.getElem_cons_succ, List.getElem_cons_zero, Act.put, List.setIfInBounds_toArray, List.set_cons_zero, List.set_cons_succ]
                refine wpAnyH_done (by kernel_rfl) ?_ _
                exact ⟨rfl, hS⟩
              intro w7 hS
              go_wp2_with (first
                | (go_at_call 87; (with_reducible refine (cRj.out _ (hS.preM (A := [_, _]) (B := rng g bd _ :: dks bd sv wv d) (R := []))).mono ?_); rintro _ w8 ⟨rfl, hk⟩; have hS1 := hS.callM (A := [_, _]) (R := []) hk; clear hS hk; have hS := hS1; clear hS1; simp only [List.cons_append, List.nil_append] at hS)
                | ((with_reducible refine wpList_alloc_st hS rfl rfl ez ?_); intro g18 w9 hS1; clear hS; have hS := hS1; clear hS1)
                | ((with_reducible refine wpList_storerow_st 0 hS rfl rfl rfl rfl (by kernel_rfl) rfl rfl rfl rfl ?_); intro w10 hS1; clear hS; have hS := hS1; clear hS1; try simp only [List.set_cons_zero, List.set_cons_succ, List.setIfInBounds_toArray, List.take_succ_cons, List.take_zero, List.drop_succ_cons, List.drop_zero, List.nil_append, List.cons_append, List.append_nil, List.drop_nil, List.take_nil, List.length_cons, List.length_nil, Nat.zero_add, Nat.add_zero, Nat.reduceAdd] at hS; have hcl := hS.cell 0 rfl)
                | (with_reducible refine wpList_box_st hS rfl rfl rfl ?_; intro g1 w1 hS1; clear hS; replace hS := hS1; clear hS1) | (with_reducible refine wpList_box1_st hS rfl rfl rfl ?_; intro g1 w1 hS1; clear hS; replace hS := hS1; clear hS1) | (with_reducible refine wpList_alloc_st hS rfl rfl (by assumption) ?_; intro g1 w1 hS1; clear hS; replace hS := hS1; clear hS1) | (with_reducible refine wpList_alloc1_st hS rfl rfl (by assumption) rfl ?_; intro g1 w1 hS1; clear hS; replace hS := hS1; clear hS1) | ((with_reducible refine wpList_load_st 0 hS rfl rfl rfl rfl ?_ rfl ?_); focus (simp [scalarB, go_sem]; done)) | ((with_reducible refine wpList_loadall_st 0 hS rfl rfl rfl rfl ?_ (by kernel_rfl) ?_); focus (simp [rowB, go_sem]; done)) | ((with_reducible refine wpList_store_st 0 hS rfl rfl rfl rfl (by kernel_rfl) rfl rfl ?_); intro w1 hS1; clear hS; replace hS := hS1; clear hS1; try simp only [List.set_cons_zero, List.set_cons_succ, List.setIfInBounds_toArray, List.take_succ_cons, List.take_zero, List.drop_succ_cons, List.drop_zero, List.nil_append, List.cons_append, List.append_nil, List.drop_nil, List.take_nil, List.length_cons, List.length_nil, Nat.zero_add, Nat.add_zero, Nat.reduceAdd] at hS) | ((with_reducible refine wpList_storerow_st 0 hS rfl rfl rfl rfl (by kernel_rfl) rfl rfl rfl rfl ?_); intro w1 hS1; clear hS; replace hS := hS1; clear hS1; try simp only [List.set_cons_zero, List.set_cons_succ, List.setIfInBounds_toArray, List.take_succ_cons, List.take_zero, List.drop_succ_cons, List.drop_zero, List.nil_append, List.cons_append, List.append_nil, List.drop_nil, List.take_nil, List.length_cons, List.length_nil, Nat.zero_add, Nat.add_zero, Nat.reduceAdd] at hS))
              rw [Exit.noGoto_ret]
              go_ret3
              exact ⟨g, _, at', m, rfl, hx1.out (by rw [fits, if_neg (by simp only; omega)]), by simpa using hS.drop.drop⟩
            · replace hf2 : p.life ≤ l := by omega
              have hfit1 : fits least q.life (d.pc q.src q.n ((at' + j : Nat) : Int)) = some p := by rw [hpk.out, fits, if_pos ⟨rfl, hf1, by rw [hqs.out.2.2.2]; exact hf2⟩]
              replace hfit1 := Lib.hid hfit1
              cases hlast : p.last with
              | false =>
                have hG2 := Lib.hid (open_next hG.out hjK hfit1.out hlast)
                clear hx1 hG hfit1 hI hqs
                rw [hlast] at cRj
                have hrs := Lib.hid (rows_snoc acc p hlast)
                go_wp2_with fail
                revert hS
                apply wp_cut0
                · intro hS
                  refine mixs_beginC 2 (by kernel_rfl) hS rfl ?_
                  clear hS
                  intro w6 hS hC
                  have kC := hC.kblk 0 rfl
                  refine mixs_take 0 (v := ?_) rfl (by kernel_rfl) (fun _ _ _ h => h) (by kernel_rfl) (by assumption) (fun s => ?hy) ?_; case hy => (go_simp <;> with_reducible rfl)
                  try simp only [List.getElem_toArray, List.getElem_cons_succ, List.getElem_cons_zero, Act.put, List.setIfInBounds_toArray, List.set_cons_zero, List.set_cons_succ]
                  refine mixs_take 1 (v := ?_) rfl (by kernel_rfl) (fun _ _ _ h => h) (by kernel_rfl) (by assumption) (fun s => ?hy) ?_; case hy => (go_simp <;> with_reducible rfl)
                  try simp only [List.getElem_toArray, List.getElem_cons_succ, List.getElem_cons_zero, Act.put, List.setIfInBounds_toArray, List.set_cons_zero, List.set_cons_succ]
                  refine mixs_take 2 (v := ?_) rfl (by kernel_rfl) (fun _ _ _ h => h) (by kernel_rfl) (by assumption) (fun s => ?hy) ?_; case hy => (go_simp <;> with_reducible rfl)
                  try simp only [List.getElem_toArray, List.getElem_cons_succ, List.getElem_cons_zero, Act.put, List.setIfInBounds_toArray, List.set_cons_zero, List.set_cons_succ]
                  refine mixs_take 3 (v := ?_) rfl (by kernel_rfl) (fun _ _ _ h => h) (by kernel_rfl) (by assumption) (fun s => ?hy) ?_; case hy => (go_simp <;> with_reducible rfl)
                  try simp only [List.getElem_toArray, List.getElem_cons_succ, List.getElem_cons_zero, Act.put, List.setIfInBounds_toArray, List.set_cons_zero, List.set_cons_succ]
                  refine mixs_take 4 (v := ?_) rfl (by kernel_rfl) (fun _ _ _ h => h) (by kernel_rfl) (by assumption) (fun s => ?hy) ?_; case hy => (go_simp <;> with_reducible rfl)
                  try simp only [List.getElem_toArray, List.getElem_cons_succ, List.getElem_cons_zero, Act.put, List.setIfInBounds_toArray, List.set_cons_zero, List.set_cons_succ]
                  refine mixs_take 5 (v := ?_) rfl (by kernel_rfl) (fun _ _ _ h => h) (by kernel_rfl) (by assumption) (fun s => ?hy) ?_; case hy => (go_simp <;> with_reducible rfl)
                  try simp only [List.getElem_toArray, List.getElem_cons_succ, List.getElem_cons_zero, Act.put, List.setIfInBounds_toArray, List.set_cons_zero, List.set_cons_succ]
                  refine mixs_take 6 (v := ?_) rfl (by kernel_rfl) (fun _ _ _ h => h) (by kernel_rfl) (by assumption) (fun s => ?hy) ?_; case hy => (go_simp <;> with_reducible rfl)
                  try simp only [List.getElem_toArray, List.getElem_cons_succ, List.getElem_cons_zero, Act.put, List.setIfInBounds_toArray, List.set_cons_zero, List.set_cons_succ]
                  refine mixs_take 7 (v := ?_) rfl (by kernel_rfl) (fun _ _ _ h => h) (by kernel_rfl) (by assumption) (fun s => ?hy) ?_; case hy => (go_simp <;> with_reducible rfl)
                  try simp only [List.getElem_toArray, List.getElem_cons_succ, List.getElem_cons_zero, Act.put, List.setIfInBounds_toArray, List.set_cons_zero, List.set_cons_succ]
                  refine mixs_take 8 (v := ?_) rfl (by kernel_rfl) (fun _ _ _ h => h) (by kernel_rfl) (by assumption) (fun s => ?hy) ?_; case hy => (go_simp <;> with_reducible rfl)
                  try simp only [List.getElem_toArray, List.getElem_cons_succ, List.getElem_cons_zero, Act.put, List.setIfInBounds_toArray, List.set_cons_zero, List.set_cons_succ]
                  refine mixs_take 9 (v := ?_) rfl (by kernel_rfl) (fun _ _ _ h => h) (by kernel_rfl) (by assumption) (fun s => ?hy) ?_; case hy => (go_simp <;> with_reducible rfl)
                  try simp only [List.getElem_toArray, List.getElem_cons_succ, List.getElem_cons_zero, Act.put, List.setIfInBounds_toArray, List.set_cons_zero, List.set_cons_succ]
                  refine mixs_take 10 (v := ?_) rfl (by kernel_rfl) (fun _ _ _ h => h) (by kernel_rfl) (by assumption) (fun s => ?hy) ?_; case hy => (go_simp <;> with_reducible rfl)
                  try simp only [List.getElem_toArray, List.getElem_cons_succ, List.getElem_cons_zero, Act.put, List.setIfInBounds_toArray, List.set_cons_zero, List.set_cons_succ]
                  refine wpAnyH_done (by kernel_rfl) ?_ _
                  exact ⟨rfl, hS⟩
                intro w7 hS
                go_wp2_with (first
                  | (go_at_call 87; (with_reducible refine (cRj.out _ (hS.preM (A := [_, _]) (B := rng g bd _ :: dks bd sv wv d) (R := []))).mono ?_); rintro _ w8 ⟨rfl, hk⟩; have hS1 := hS.callM (A := [_, _]) (R := []) hk; clear hS hk; have hS := hS1; clear hS1; simp only [List.cons_append, List.nil_append] at hS)
                  | ((with_reducible refine wpList_alloc_st hS rfl rfl ez ?_); intro g18 w9 hS1; clear hS; have hS := hS1; clear hS1)
                  | ((with_reducible refine wpList_storerow_st 0 hS rfl rfl rfl rfl (by kernel_rfl) rfl rfl rfl rfl ?_); intro w10 hS1; clear hS; have hS := hS1; clear hS1; try simp only [List.set_cons_zero, List.set_cons_succ, List.setIfInBounds_toArray, List.take_succ_cons, List.take_zero, List.drop_succ_cons, List.drop_zero, List.nil_append, List.cons_append, List.append_nil, List.drop_nil, List.take_nil, List.length_cons, List.length_nil, Nat.zero_add, Nat.add_zero, Nat.reduceAdd] at hS; have hcl := hS.cell 0 rfl)
                  | ((with_reducible refine wpList_built_st hS rfl rfl Try.underlying145 ez rfl rfl (by omega) ?_); intro g11 w11 hS1; clear hS hcl; have hS := hS1; clear hS1)
                  | (at_builtin; ((with_reducible refine wpList_app_st 2 hS rfl rfl rfl Try.underlying145 ez rfl (Src.slice Try.underlying145 (hS.blksl2 0 rfl) rfl) rfl (by simp [Value.oneCell']) (by omega) (by unfold maxLen; omega) ?_); intro v12 w12 hS1; clear hS; have hS := hS1.drop; clear hS1; simp only [List.set_cons_zero, List.set_cons_succ, hrs.out] at hS; obtain ⟨a5, c5, rfl, -⟩ := hS.row 1 rfl))
                  | (with_reducible refine wpList_box_st hS rfl rfl rfl ?_; intro g1 w1 hS1; clear hS; replace hS := hS1; clear hS1) | (with_reducible refine wpList_box1_st hS rfl rfl rfl ?_; intro g1 w1 hS1; clear hS; replace hS := hS1; clear hS1) | (with_reducible refine wpList_alloc_st hS rfl rfl (by assumption) ?_; intro g1 w1 hS1; clear hS; replace hS := hS1; clear hS1) | (with_reducible refine wpList_alloc1_st hS rfl rfl (by assumption) rfl ?_; intro g1 w1 hS1; clear hS; replace hS := hS1; clear hS1) | ((with_reducible refine wpList_load_st 0 hS rfl rfl rfl rfl ?_ rfl ?_); focus (simp [scalarB, go_sem]; done)) | ((with_reducible refine wpList_loadall_st 0 hS rfl rfl rfl rfl ?_ (by kernel_rfl) ?_); focus (simp [rowB, go_sem]; done)) | ((with_reducible refine wpList_store_st 0 hS rfl rfl rfl rfl (by kernel_rfl) rfl rfl ?_); intro w1 hS1; clear hS; replace hS := hS1; clear hS1; try simp only [List.set_cons_zero, List.set_cons_succ, List.setIfInBounds_toArray, List.take_succ_cons, List.take_zero, List.drop_succ_cons, List.drop_zero, List.nil_append, List.cons_append, List.append_nil, List.drop_nil, List.take_nil, List.length_cons, List.length_nil, Nat.zero_add, Nat.add_zero, Nat.reduceAdd] at hS) | ((with_reducible refine wpList_storerow_st 0 hS rfl rfl rfl rfl (by kernel_rfl) rfl rfl rfl rfl ?_); intro w1 hS1; clear hS; replace hS := hS1; clear hS1; try simp only [List.set_cons_zero, List.set_cons_succ, List.setIfInBounds_toArray, List.take_succ_cons, List.take_zero, List.drop_succ_cons, List.drop_zero, List.nil_append, List.cons_append, List.append_nil, List.drop_nil, List.take_nil, List.length_cons, List.length_nil, Nat.zero_add, Nat.add_zero, Nat.reduceAdd] at hS))
                go_roundg (K - (j + 1))
                case measure => omega
                case rel => exact ⟨j + 1, acc ++ [p], _, rfl, by omega, by simp; omega, rfl, hG2, hS.drop⟩
              | true =>
                have hrc := open_last hKq hG.out hacc hjK hfit1.out hlast
                obtain ⟨s, ok2, hjo⟩ : ∃ s ok2, joinB (acc ++ [p]) = (s, ok2) := ⟨_, _, rfl⟩
                have cJ : ∀ (a : Option Addr) (c : Nat) (W : World), Sl W a ((acc ++ [p]).map Pc.row).flatten → Calls Try.prog 88 #[.slice a (j + 1 : Nat) c] W fun e w' => e = .returned (.tuple #[.string s, .bool ok2]) ∧ Below W.heap.size W w' := fun a c W hs => by
                  have := pjoin_any a (acc ++ [p]) (j + 1) c W hs (by simp; omega) (by omega)
                  rw [hjo] at this
                  exact this
                replace cJ := Lib.hid cJ
                clear hx1 hG hfit1
                rw [hlast] at cRj
                have hrs := Lib.hid (rows_snoc acc p hlast)
                cases ok2 with
                | false =>
                  have hx2 : d.Runs q 1 h m at' := by
                    have := hI.out [] at' (.stop (by
                      rw [hrc, recOf]
                      unfold joinB at hjo
                      split at hjo
                      · cases hjo
                      · rename_i hno
                        exact if_neg hno))
                    rwa [List.append_nil] at this
                  replace hx2 := Lib.hid hx2
                  clear hrc hjo hI
                  go_wp2_with fail
                  revert hS
                  apply wp_cut0
                  · intro hS
                    refine mixs_beginC 2 (by kernel_rfl) hS rfl ?_
                    clear hS
                    intro w6 hS hC
                    have kC := hC.kblk 0 rfl
                    refine mixs_take 0 (v := ?_) rfl (by kernel_rfl) (fun _ _ _ h => h) (by kernel_rfl) (by assumption) (fun s => ?hy) ?_; case hy => (go_simp <;> with_reducible rfl)
                    try simp only [List.getElem_toArray, List.getElem_cons_succ, List.getElem_cons_zero, Act.put, List.setIfInBounds_toArray, List.set_cons_zero, List.set_cons_succ]
                    refine mixs_take 1 (v := ?_) rfl (by kernel_rfl) (fun _ _ _ h => h) (by kernel_rfl) (by assumption) (fun s => ?hy) ?_; case hy => (go_simp <;> with_reducible rfl)
                    try simp only [List.getElem_toArray, List.getElem_cons_succ, List.getElem_cons_zero, Act.put, List.setIfInBounds_toArray, List.set_cons_zero, List.set_cons_succ]
                    refine mixs_take 2 (v := ?_) rfl (by kernel_rfl) (fun _ _ _ h => h) (by kernel_rfl) (by assumption) (fun s => ?hy) ?_; case hy => (go_simp <;> with_reducible rfl)
                    try simp only [List.getElem_toArray, List.getElem_cons_succ, List.getElem_cons_zero, Act.put, List.setIfInBounds_toArray, List.set_cons_zero, List.set_cons_succ]
                    refine mixs_take 3 (v := ?_) rfl (by kernel_rfl) (fun _ _ _ h => h) (by kernel_rfl) (by assumption) (fun s => ?hy) ?_; case hy => (go_simp <;> with_reducible rfl)
                    try simp only [List.getElem_toArray, List.getElem_cons_succ, List.getElem_cons_zero, Act.put, List.setIfInBounds_toArray, List.set_cons_zero, List.set_cons_succ]
                    refine mixs_take 4 (v := ?_) rfl (by kernel_rfl) (fun _ _ _ h => h) (by kernel_rfl) (by assumption) (fun s => ?hy) ?_; case hy => (go_simp <;> with_reducible rfl)
                    try simp only [List.getElem_toArray, List.getElem_cons_succ, List.getElem_cons_zero, Act.put, List.setIfInBounds_toArray, List.set_cons_zero, List.set_cons_succ]
                    refine mixs_take 5 (v := ?_) rfl (by kernel_rfl) (fun _ _ _ h => h) (by kernel_rfl) (by assumption) (fun s => ?hy) ?_; case hy => (go_simp <;> with_reducible rfl)
                    try simp only [List.getElem_toArray, List.getElem_cons_succ, List.getElem_cons_zero, Act.put, List.setIfInBounds_toArray, List.set_cons_zero, List.set_cons_succ]
                    refine mixs_take 6 (v := ?_) rfl (by kernel_rfl) (fun _ _ _ h => h) (by kernel_rfl) (by assumption) (fun s => ?hy) ?_; case hy => (go_simp <;> with_reducible rfl)
                    try simp only [List.getElem_toArray, List.getElem_cons_succ, List.getElem_cons_zero, Act.put, List.setIfInBounds_toArray, List.set_cons_zero, List.set_cons_succ]
                    refine mixs_take 7 (v := ?_) rfl (by kernel_rfl) (fun _ _ _ h => h) (by kernel_rfl) (by assumption) (fun s => ?hy) ?_; case hy => (go_simp <;> with_reducible rfl)
                    try simp only [List.getElem_toArray, List.getElem_cons_succ, List.getElem_cons_zero, Act.put, List.setIfInBounds_toArray, List.set_cons_zero, List.set_cons_succ]
                    refine mixs_take 8 (v := ?_) rfl (by kernel_rfl) (fun _ _ _ h => h) (by kernel_rfl) (by assumption) (fun s => ?hy) ?_; case hy => (go_simp <;> with_reducible rfl)
                    try simp only [List.getElem_toArray, List.getElem_cons_succ, List.getElem_cons_zero, Act.put, List.setIfInBounds_toArray, List.set_cons_zero, List.set_cons_succ]
                    refine mixs_take 9 (v := ?_) rfl (by kernel_rfl) (fun _ _ _ h => h) (by kernel_rfl) (by assumption) (fun s => ?hy) ?_; case hy => (go_simp <;> with_reducible rfl)
                    try simp only [List.getElem_toArray, List.getElem_cons_succ, List.getElem_cons_zero, Act.put, List.setIfInBounds_toArray, List.set_cons_zero, List.set_cons_succ]
                    refine mixs_take 10 (v := ?_) rfl (by kernel_rfl) (fun _ _ _ h => h) (by kernel_rfl) (by assumption) (fun s => ?hy) ?_; case hy => (go_simp <;> with_reducible rfl)
                    try simp only [List.getElem_toArray, List.getElem_cons_succ, List.getElem_cons_zero, Act.put, List.setIfInBounds_toArray, List.set_cons_zero, List.set_cons_succ]
                    refine wpAnyH_done (by kernel_rfl) ?_ _
                    exact ⟨rfl, hS⟩
                  intro w7 hS
                  go_wp2_with (first
                    | (go_at_call 87; (with_reducible refine (cRj.out _ (hS.preM (A := [_, _]) (B := rng g bd _ :: dks bd sv wv d) (R := []))).mono ?_); rintro _ w8 ⟨rfl, hk⟩; have hS1 := hS.callM (A := [_, _]) (R := []) hk; clear hS hk; have hS := hS1; clear hS1; simp only [List.cons_append, List.nil_append] at hS)
                    | ((with_reducible refine wpList_alloc_st hS rfl rfl ez ?_); intro g18 w9 hS1; clear hS; have hS := hS1; clear hS1)
                    | ((with_reducible refine wpList_storerow_st 0 hS rfl rfl rfl rfl (by kernel_rfl) rfl rfl rfl rfl ?_); intro w10 hS1; clear hS; have hS := hS1; clear hS1; try simp only [List.set_cons_zero, List.set_cons_succ, List.setIfInBounds_toArray, List.take_succ_cons, List.take_zero, List.drop_succ_cons, List.drop_zero, List.nil_append, List.cons_append, List.append_nil, List.drop_nil, List.take_nil, List.length_cons, List.length_nil, Nat.zero_add, Nat.add_zero, Nat.reduceAdd] at hS; have hcl := hS.cell 0 rfl)
                    | ((with_reducible refine wpList_built_st hS rfl rfl Try.underlying145 ez rfl rfl (by omega) ?_); intro g11 w11 hS1; clear hS hcl; have hS := hS1; clear hS1)
                    | (at_builtin; ((with_reducible refine wpList_app_st 2 hS rfl rfl rfl Try.underlying145 ez rfl (Src.slice Try.underlying145 (hS.blksl2 0 rfl) rfl) rfl (by simp [Value.oneCell']) (by omega) (by unfold maxLen; omega) ?_); intro v12 w12 hS1; clear hS; have hS := hS1.drop; clear hS1; simp only [List.set_cons_zero, List.set_cons_succ, hrs.out] at hS; obtain ⟨a5, c5, rfl, -⟩ := hS.row 1 rfl))
                    | (go_at_call 88; (with_reducible refine (cJ.out _ _ _ (hS.rowsl 1 rfl)).mono ?_); rintro _ w20 ⟨rfl, hb20⟩; have hS1 := hS.keepB hb20; clear hb20 hS; have hS := hS1; clear hS1)
                    | (with_reducible refine wpList_box_st hS rfl rfl rfl ?_; intro g1 w1 hS1; clear hS; replace hS := hS1; clear hS1) | (with_reducible refine wpList_box1_st hS rfl rfl rfl ?_; intro g1 w1 hS1; clear hS; replace hS := hS1; clear hS1) | (with_reducible refine wpList_alloc_st hS rfl rfl (by assumption) ?_; intro g1 w1 hS1; clear hS; replace hS := hS1; clear hS1) | (with_reducible refine wpList_alloc1_st hS rfl rfl (by assumption) rfl ?_; intro g1 w1 hS1; clear hS; replace hS := hS1; clear hS1) | ((with_reducible refine wpList_load_st 0 hS rfl rfl rfl rfl ?_ rfl ?_); focus (simp [scalarB, go_sem]; done)) | ((with_reducible refine wpList_loadall_st 0 hS rfl rfl rfl rfl ?_ (by kernel_rfl) ?_); focus (simp [rowB, go_sem]; done)) | ((with_reducible refine wpList_store_st 0 hS rfl rfl rfl rfl (by kernel_rfl) rfl rfl ?_); intro w1 hS1; clear hS; replace hS := hS1; clear hS1; try simp only [List.set_cons_zero, List.set_cons_succ, List.setIfInBounds_toArray, List.take_succ_cons, List.take_zero, List.drop_succ_cons, List.drop_zero, List.nil_append, List.cons_append, List.append_nil, List.drop_nil, List.take_nil, List.length_cons, List.length_nil, Nat.zero_add, Nat.add_zero, Nat.reduceAdd] at hS) | ((with_reducible refine wpList_storerow_st 0 hS rfl rfl rfl rfl (by kernel_rfl) rfl rfl rfl rfl ?_); intro w1 hS1; clear hS; replace hS := hS1; clear hS1; try simp only [List.set_cons_zero, List.set_cons_succ, List.setIfInBounds_toArray, List.take_succ_cons, List.take_zero, List.drop_succ_cons, List.drop_zero, List.nil_append, List.cons_append, List.append_nil, List.drop_nil, List.take_nil, List.length_cons, List.length_nil, Nat.zero_add, Nat.add_zero, Nat.reduceAdd] at hS))
                  rw [Exit.noGoto_ret]
                  go_ret3
                  exact ⟨g, _, at', m, rfl, hx2.out, by simpa using hS.drop.drop⟩
                | true =>
                  obtain ⟨y0, hy0⟩ : ∃ y0, ((acc ++ [p]).headD noPc).life = y0 := ⟨_, rfl⟩
                  obtain ⟨t', ht'⟩ : ∃ t', at' + (j + 1) = t' := ⟨_, rfl⟩
                  have hrec : d.recAt q least at' = some (s, t', y0) := by
                    rw [hrc, recOf]
                    unfold joinB at hjo
                    split at hjo
                    · rename_i hyes
                      simp only [Prod.mk.injEq, and_true] at hjo
                      rw [if_pos hyes, hjo, hy0, ← ht']
                      simp [hacc]
                    · cases hjo
                  have htop := (Dk.recAt_top hrec).1
                  have hI2 := Lib.hid (show ∀ x e, d.Runs q y0 t' x e → d.Runs q 1 h ((m ++ [s]) ++ x) e from fun x e hx => by
                    have := hI.out (s :: x) e (.more hrec hx)
                    simpa using this)
                  obtain ⟨p0, hp0, hp0l⟩ : ∃ p0, (acc ++ [p])[0]? = some p0 ∧ p0.life = y0 := by
                    refine ⟨(acc ++ [p]).headD noPc, ?_, hy0⟩
                    cases acc <;> rfl
                  have hwt : IntKind.i64.wrap ((at' : Int) + ((j : Int) + 1)) = t' := by rw [IntWalk.i64_in _ (by omega)]; omega
                  have hms : (m.map vs) ++ [Value.string s] = (m ++ [s]).map vs := by simp [vs]
                  replace hp0 := Lib.hid hp0
                  replace hp0l := Lib.hid hp0l
                  replace ht' := Lib.hid ht'
                  replace hms := Lib.hid hms
                  clear hrc hjo hI hrec hy0
                  go_wp2_with fail
                  revert hS
                  apply wp_cut0
                  · intro hS
                    refine mixs_beginC 2 (by kernel_rfl) hS rfl ?_
                    clear hS
                    intro w6 hS hC
                    have kC := hC.kblk 0 rfl
                    refine mixs_take 0 (v := ?_) rfl (by kernel_rfl) (fun _ _ _ h => h) (by kernel_rfl) (by assumption) (fun s => ?hy) ?_; case hy => (go_simp <;> with_reducible rfl)
                    try simp only [List.getElem_toArray, List.getElem_cons_succ, List.getElem_cons_zero, Act.put, List.setIfInBounds_toArray, List.set_cons_zero, List.set_cons_succ]
                    refine mixs_take 1 (v := ?_) rfl (by kernel_rfl) (fun _ _ _ h => h) (by kernel_rfl) (by assumption) (fun s => ?hy) ?_; case hy => (go_simp <;> with_reducible rfl)
                    try simp only [List.getElem_toArray, List.getElem_cons_succ, List.getElem_cons_zero, Act.put, List.setIfInBounds_toArray, List.set_cons_zero, List.set_cons_succ]
                    refine mixs_take 2 (v := ?_) rfl (by kernel_rfl) (fun _ _ _ h => h) (by kernel_rfl) (by assumption) (fun s => ?hy) ?_; case hy => (go_simp <;> with_reducible rfl)
                    try simp only [List.getElem_toArray, List.getElem_cons_succ, List.getElem_cons_zero, Act.put, List.setIfInBounds_toArray, List.set_cons_zero, List.set_cons_succ]
                    refine mixs_take 3 (v := ?_) rfl (by kernel_rfl) (fun _ _ _ h => h) (by kernel_rfl) (by assumption) (fun s => ?hy) ?_; case hy => (go_simp <;> with_reducible rfl)
                    try simp only [List.getElem_toArray, List.getElem_cons_succ, List.getElem_cons_zero, Act.put, List.setIfInBounds_toArray, List.set_cons_zero, List.set_cons_succ]
                    refine mixs_take 4 (v := ?_) rfl (by kernel_rfl) (fun _ _ _ h => h) (by kernel_rfl) (by assumption) (fun s => ?hy) ?_; case hy => (go_simp <;> with_reducible rfl)
                    try simp only [List.getElem_toArray, List.getElem_cons_succ, List.getElem_cons_zero, Act.put, List.setIfInBounds_toArray, List.set_cons_zero, List.set_cons_succ]
                    refine mixs_take 5 (v := ?_) rfl (by kernel_rfl) (fun _ _ _ h => h) (by kernel_rfl) (by assumption) (fun s => ?hy) ?_; case hy => (go_simp <;> with_reducible rfl)
                    try simp only [List.getElem_toArray, List.getElem_cons_succ, List.getElem_cons_zero, Act.put, List.setIfInBounds_toArray, List.set_cons_zero, List.set_cons_succ]
                    refine mixs_take 6 (v := ?_) rfl (by kernel_rfl) (fun _ _ _ h => h) (by kernel_rfl) (by assumption) (fun s => ?hy) ?_; case hy => (go_simp <;> with_reducible rfl)
                    try simp only [List.getElem_toArray, List.getElem_cons_succ, List.getElem_cons_zero, Act.put, List.setIfInBounds_toArray, List.set_cons_zero, List.set_cons_succ]
                    refine mixs_take 7 (v := ?_) rfl (by kernel_rfl) (fun _ _ _ h => h) (by kernel_rfl) (by assumption) (fun s => ?hy) ?_; case hy => (go_simp <;> with_reducible rfl)
                    try simp only [List.getElem_toArray, List.getElem_cons_succ, List.getElem_cons_zero, Act.put, List.setIfInBounds_toArray, List.set_cons_zero, List.set_cons_succ]
                    refine mixs_take 8 (v := ?_) rfl (by kernel_rfl) (fun _ _ _ h => h) (by kernel_rfl) (by assumption) (fun s => ?hy) ?_; case hy => (go_simp <;> with_reducible rfl)
                    try simp only [List.getElem_toArray, List.getElem_cons_succ, List.getElem_cons_zero, Act.put, List.setIfInBounds_toArray, List.set_cons_zero, List.set_cons_succ]
                    refine mixs_take 9 (v := ?_) rfl (by kernel_rfl) (fun _ _ _ h => h) (by kernel_rfl) (by assumption) (fun s => ?hy) ?_; case hy => (go_simp <;> with_reducible rfl)
                    try simp only [List.getElem_toArray, List.getElem_cons_succ, List.getElem_cons_zero, Act.put, List.setIfInBounds_toArray, List.set_cons_zero, List.set_cons_succ]
                    refine mixs_take 10 (v := ?_) rfl (by kernel_rfl) (fun _ _ _ h => h) (by kernel_rfl) (by assumption) (fun s => ?hy) ?_; case hy => (go_simp <;> with_reducible rfl)
                    try simp only [List.getElem_toArray, List.getElem_cons_succ, List.getElem_cons_zero, Act.put, List.setIfInBounds_toArray, List.set_cons_zero, List.set_cons_succ]
                    refine wpAnyH_done (by kernel_rfl) ?_ _
                    exact ⟨rfl, hS⟩
                  intro w7 hS
                  go_wp2_with (first
                    | (go_at_call 87; (with_reducible refine (cRj.out _ (hS.preM (A := [_, _]) (B := rng g bd _ :: dks bd sv wv d) (R := []))).mono ?_); rintro _ w8 ⟨rfl, hk⟩; have hS1 := hS.callM (A := [_, _]) (R := []) hk; clear hS hk; have hS := hS1; clear hS1; simp only [List.cons_append, List.nil_append] at hS)
                    | ((with_reducible refine wpList_alloc_st hS rfl rfl ez ?_); intro g18 w9 hS1; clear hS; have hS := hS1; clear hS1)
                    | ((with_reducible refine wpList_storerow_st 0 hS rfl rfl rfl rfl (by kernel_rfl) rfl rfl rfl rfl ?_); intro w10 hS1; clear hS; have hS := hS1; clear hS1; try simp only [List.set_cons_zero, List.set_cons_succ, List.setIfInBounds_toArray, List.take_succ_cons, List.take_zero, List.drop_succ_cons, List.drop_zero, List.nil_append, List.cons_append, List.append_nil, List.drop_nil, List.take_nil, List.length_cons, List.length_nil, Nat.zero_add, Nat.add_zero, Nat.reduceAdd] at hS; have hcl := hS.cell 0 rfl)
                    | ((with_reducible refine wpList_built_st hS rfl rfl Try.underlying145 ez rfl rfl (by omega) ?_); intro g11 w11 hS1; clear hS hcl; have hS := hS1; clear hS1)
                    | (at_builtin; ((with_reducible refine wpList_app_st 2 hS rfl rfl rfl Try.underlying145 ez rfl (Src.slice Try.underlying145 (hS.blksl2 0 rfl) rfl) rfl (by simp [Value.oneCell']) (by omega) (by unfold maxLen; omega) ?_); intro v12 w12 hS1; clear hS; have hS := hS1.drop; clear hS1; simp only [List.set_cons_zero, List.set_cons_succ, hrs.out] at hS; obtain ⟨a5, c5, rfl, -⟩ := hS.row 1 rfl))
                    | (go_at_call 88; (with_reducible refine (cJ.out _ _ _ (hS.rowsl 1 rfl)).mono ?_); rintro _ w20 ⟨rfl, hb20⟩; have hS1 := hS.keepB hb20; clear hb20 hS; have hS := hS1; clear hS1)
                    | ((with_reducible refine wpList_build1c_st hS rfl rfl Try.underlying26 ex rfl ?_); intro g21 w21 hS1; clear hS; have hS := hS1; clear hS1)
                    | (at_builtin; ((with_reducible refine wpList_app_st 3 hS rfl rfl rfl Try.underlying26 ex rfl (Src.slice Try.underlying26 (hS.blksl2 0 rfl) rfl) rfl (by simp [Value.oneCell']) (by omega) (by unfold maxLen; omega) ?_); intro v22 w22 hS1; clear hS; have hS := hS1.drop; clear hS1; simp only [List.set_cons_zero, List.set_cons_succ, hms.out] at hS; obtain ⟨b8, o8, rfl, c80, -⟩ := Ps.get (hS.rowsl 1 rfl) 0 p0 hp0.out; rw [hp0l.out] at c80; simp only [Nat.zero_mul, Nat.add_zero] at c80))
                    | (with_reducible refine wpList_box_st hS rfl rfl rfl ?_; intro g1 w1 hS1; clear hS; replace hS := hS1; clear hS1) | (with_reducible refine wpList_box1_st hS rfl rfl rfl ?_; intro g1 w1 hS1; clear hS; replace hS := hS1; clear hS1) | (with_reducible refine wpList_alloc_st hS rfl rfl (by assumption) ?_; intro g1 w1 hS1; clear hS; replace hS := hS1; clear hS1) | (with_reducible refine wpList_alloc1_st hS rfl rfl (by assumption) rfl ?_; intro g1 w1 hS1; clear hS; replace hS := hS1; clear hS1) | ((with_reducible refine wpList_load_st 0 hS rfl rfl rfl rfl ?_ rfl ?_); focus (simp [scalarB, go_sem]; done)) | ((with_reducible refine wpList_loadall_st 0 hS rfl rfl rfl rfl ?_ (by kernel_rfl) ?_); focus (simp [rowB, go_sem]; done)) | ((with_reducible refine wpList_store_st 0 hS rfl rfl rfl rfl (by kernel_rfl) rfl rfl ?_); intro w1 hS1; clear hS; replace hS := hS1; clear hS1; try simp only [List.set_cons_zero, List.set_cons_succ, List.setIfInBounds_toArray, List.take_succ_cons, List.take_zero, List.drop_succ_cons, List.drop_zero, List.nil_append, List.cons_append, List.append_nil, List.drop_nil, List.take_nil, List.length_cons, List.length_nil, Nat.zero_add, Nat.add_zero, Nat.reduceAdd] at hS) | ((with_reducible refine wpList_storerow_st 0 hS rfl rfl rfl rfl (by kernel_rfl) rfl rfl rfl rfl ?_); intro w1 hS1; clear hS; replace hS := hS1; clear hS1; try simp only [List.set_cons_zero, List.set_cons_succ, List.setIfInBounds_toArray, List.take_succ_cons, List.take_zero, List.drop_succ_cons, List.drop_zero, List.nil_append, List.cons_append, List.append_nil, List.drop_nil, List.take_nil, List.length_cons, List.length_nil, Nat.zero_add, Nat.add_zero, Nat.reduceAdd] at hS) | ((with_reducible refine wpList_load_st 1 hS rfl rfl rfl rfl ?_ rfl ?_); focus (simp [scalarB, go_sem]; done)) | ((with_reducible refine wpList_loadall_st 1 hS rfl rfl rfl rfl ?_ (by kernel_rfl) ?_); focus (simp [rowB, go_sem]; done)) | ((with_reducible refine wpList_store_st 1 hS rfl rfl rfl rfl (by kernel_rfl) rfl rfl ?_); intro w1 hS1; clear hS; replace hS := hS1; clear hS1; try simp only [List.set_cons_zero, List.set_cons_succ, List.setIfInBounds_toArray, List.take_succ_cons, List.take_zero, List.drop_succ_cons, List.drop_zero, List.nil_append, List.cons_append, List.append_nil, List.drop_nil, List.take_nil, List.length_cons, List.length_nil, Nat.zero_add, Nat.add_zero, Nat.reduceAdd] at hS) | ((with_reducible refine wpList_storerow_st 1 hS rfl rfl rfl rfl (by kernel_rfl) rfl rfl rfl rfl ?_); intro w1 hS1; clear hS; replace hS := hS1; clear hS1; try simp only [List.set_cons_zero, List.set_cons_succ, List.setIfInBounds_toArray, List.take_succ_cons, List.take_zero, List.drop_succ_cons, List.drop_zero, List.nil_append, List.cons_append, List.append_nil, List.drop_nil, List.take_nil, List.length_cons, List.length_nil, Nat.zero_add, Nat.add_zero, Nat.reduceAdd] at hS) | ((with_reducible refine wpList_load_st 2 hS rfl rfl rfl rfl ?_ rfl ?_); focus (simp [scalarB, go_sem]; done)) | ((with_reducible refine wpList_loadall_st 2 hS rfl rfl rfl rfl ?_ (by kernel_rfl) ?_); focus (simp [rowB, go_sem]; done)) | ((with_reducible refine wpList_store_st 2 hS rfl rfl rfl rfl (by kernel_rfl) rfl rfl ?_); intro w1 hS1; clear hS; replace hS := hS1; clear hS1; try simp only [List.set_cons_zero, List.set_cons_succ, List.setIfInBounds_toArray, List.take_succ_cons, List.take_zero, List.drop_succ_cons, List.drop_zero, List.nil_append, List.cons_append, List.append_nil, List.drop_nil, List.take_nil, List.length_cons, List.length_nil, Nat.zero_add, Nat.add_zero, Nat.reduceAdd] at hS) | ((with_reducible refine wpList_storerow_st 2 hS rfl rfl rfl rfl (by kernel_rfl) rfl rfl rfl rfl ?_); intro w1 hS1; clear hS; replace hS := hS1; clear hS1; try simp only [List.set_cons_zero, List.set_cons_succ, List.setIfInBounds_toArray, List.take_succ_cons, List.take_zero, List.drop_succ_cons, List.drop_zero, List.nil_append, List.cons_append, List.append_nil, List.drop_nil, List.take_nil, List.length_cons, List.length_nil, Nat.zero_add, Nat.add_zero, Nat.reduceAdd] at hS) | ((with_reducible refine wpList_load_st 3 hS rfl rfl rfl rfl ?_ rfl ?_); focus (simp [scalarB, go_sem]; done)) | ((with_reducible refine wpList_loadall_st 3 hS rfl rfl rfl rfl ?_ (by kernel_rfl) ?_); focus (simp [rowB, go_sem]; done)) | ((with_reducible refine wpList_store_st 3 hS rfl rfl rfl rfl (by kernel_rfl) rfl rfl ?_); intro w1 hS1; clear hS; replace hS := hS1; clear hS1; try simp only [List.set_cons_zero, List.set_cons_succ, List.setIfInBounds_toArray, List.take_succ_cons, List.take_zero, List.drop_succ_cons, List.drop_zero, List.nil_append, List.cons_append, List.append_nil, List.drop_nil, List.take_nil, List.length_cons, List.length_nil, Nat.zero_add, Nat.add_zero, Nat.reduceAdd] at hS) | ((with_reducible refine wpList_storerow_st 3 hS rfl rfl rfl rfl (by kernel_rfl) rfl rfl rfl rfl ?_); intro w1 hS1; clear hS; replace hS := hS1; clear hS1; try simp only [List.set_cons_zero, List.set_cons_succ, List.setIfInBounds_toArray, List.take_succ_cons, List.take_zero, List.drop_succ_cons, List.drop_zero, List.nil_append, List.cons_append, List.append_nil, List.drop_nil, List.take_nil, List.length_cons, List.length_nil, Nat.zero_add, Nat.add_zero, Nat.reduceAdd] at hS))
                  go_roundg (h + n + 1 - t')
                  case measure => have := ht'.out; omega
                  case rel => exact ⟨t', y0, m ++ [s], _, rfl, by have := ht'.out; omega, by have := ht'.out; omega, by have := ht'.out; omega, htop, by have := ht'.out; simp; omega, rfl, hI2, by simpa using hS.drop.drop⟩
      · have hjK2 : j = K := by omega
        have hge : (n : Int) ≤ pl - h := by omega
        have hx2 : d.Runs q 1 h m at' := by
          have := hI.out [] at' (.stop (open_stop hKq hG.out (.inl hjK2)))
          rwa [List.append_nil] at this
        replace hx2 := Lib.hid hx2
        clear hG hI hjK
        go_wp2_with fail
        revert hS
        apply wp_cut0
        · intro hS
          refine mixs_beginC 2 (by kernel_rfl) hS rfl ?_
          clear hS
          intro w6 hS hC
          have kC := hC.kblk 0 rfl
          refine mixs_take 0 (v := ?_) rfl (by kernel_rfl) (fun _ _ _ h => h) (by kernel_rfl) (by assumption) (fun s => ?hy) ?_; case hy => (go_simp <;> with_reducible rfl)
          try simp only [List.getElem_toArray, List.getElem_cons_succ, List.getElem_cons_zero, Act.put, List.setIfInBounds_toArray, List.set_cons_zero, List.set_cons_succ]
          refine mixs_take 1 (v := ?_) rfl (by kernel_rfl) (fun _ _ _ h => h) (by kernel_rfl) (by assumption) (fun s => ?hy) ?_; case hy => (go_simp <;> with_reducible rfl)
          try simp only [List.getElem_toArray, List.getElem_cons_succ, List.getElem_cons_zero, Act.put, List.setIfInBounds_toArray, List.set_cons_zero, List.set_cons_succ]
          refine mixs_take 2 (v := ?_) rfl (by kernel_rfl) (fun _ _ _ h => h) (by kernel_rfl) (by assumption) (fun s => ?hy) ?_; case hy => (go_simp <;> with_reducible rfl)
          try simp only [List.getElem_toArray, List.getElem_cons_succ, List.getElem_cons_zero, Act.put, List.setIfInBounds_toArray, List.set_cons_zero, List.set_cons_succ]
          refine mixs_take 3 (v := ?_) rfl (by kernel_rfl) (fun _ _ _ h => h) (by kernel_rfl) (by assumption) (fun s => ?hy) ?_; case hy => (go_simp <;> with_reducible rfl)
          try simp only [List.getElem_toArray, List.getElem_cons_succ, List.getElem_cons_zero, Act.put, List.setIfInBounds_toArray, List.set_cons_zero, List.set_cons_succ]
          refine mixs_take 4 (v := ?_) rfl (by kernel_rfl) (fun _ _ _ h => h) (by kernel_rfl) (by assumption) (fun s => ?hy) ?_; case hy => (go_simp <;> with_reducible rfl)
          try simp only [List.getElem_toArray, List.getElem_cons_succ, List.getElem_cons_zero, Act.put, List.setIfInBounds_toArray, List.set_cons_zero, List.set_cons_succ]
          refine mixs_take 5 (v := ?_) rfl (by kernel_rfl) (fun _ _ _ h => h) (by kernel_rfl) (by assumption) (fun s => ?hy) ?_; case hy => (go_simp <;> with_reducible rfl)
          try simp only [List.getElem_toArray, List.getElem_cons_succ, List.getElem_cons_zero, Act.put, List.setIfInBounds_toArray, List.set_cons_zero, List.set_cons_succ]
          refine mixs_take 6 (v := ?_) rfl (by kernel_rfl) (fun _ _ _ h => h) (by kernel_rfl) (by assumption) (fun s => ?hy) ?_; case hy => (go_simp <;> with_reducible rfl)
          try simp only [List.getElem_toArray, List.getElem_cons_succ, List.getElem_cons_zero, Act.put, List.setIfInBounds_toArray, List.set_cons_zero, List.set_cons_succ]
          refine mixs_take 7 (v := ?_) rfl (by kernel_rfl) (fun _ _ _ h => h) (by kernel_rfl) (by assumption) (fun s => ?hy) ?_; case hy => (go_simp <;> with_reducible rfl)
          try simp only [List.getElem_toArray, List.getElem_cons_succ, List.getElem_cons_zero, Act.put, List.setIfInBounds_toArray, List.set_cons_zero, List.set_cons_succ]
          refine mixs_take 8 (v := ?_) rfl (by kernel_rfl) (fun _ _ _ h => h) (by kernel_rfl) (by assumption) (fun s => ?hy) ?_; case hy => (go_simp <;> with_reducible rfl)
          try simp only [List.getElem_toArray, List.getElem_cons_succ, List.getElem_cons_zero, Act.put, List.setIfInBounds_toArray, List.set_cons_zero, List.set_cons_succ]
          refine mixs_take 9 (v := ?_) rfl (by kernel_rfl) (fun _ _ _ h => h) (by kernel_rfl) (by assumption) (fun s => ?hy) ?_; case hy => (go_simp <;> with_reducible rfl)
          try simp only [List.getElem_toArray, List.getElem_cons_succ, List.getElem_cons_zero, Act.put, List.setIfInBounds_toArray, List.set_cons_zero, List.set_cons_succ]
          refine mixs_take 10 (v := ?_) rfl (by kernel_rfl) (fun _ _ _ h => h) (by kernel_rfl) (by assumption) (fun s => ?hy) ?_; case hy => (go_simp <;> with_reducible rfl)
          try simp only [List.getElem_toArray, List.getElem_cons_succ, List.getElem_cons_zero, Act.put, List.setIfInBounds_toArray, List.set_cons_zero, List.set_cons_succ]
          refine wpAnyH_done (by kernel_rfl) ?_ _
          exact ⟨rfl, hS⟩
        intro w7 hS
        go_wp2_with fail
        rw [Exit.noGoto_ret]
        go_ret3
        exact ⟨g, _, at', m, rfl, hx2.out, by simpa using hS.drop⟩
end Go.Proofs.Ytlhpibniecfofaa
end

section
/- Pieces change places. -/
set_option linter.unusedSimpArgs false
set_option linter.unusedVariables false
namespace Go.Ofp
open Go.RowKit
namespace St
variable {w0 w w' : World} {F : List Nat} {A B C R L : List Ch} {c : Ch}
/-- Two runs of pieces change places. -/
theorem mid (h : St w0 F (A ++ (B ++ (C ++ R))) w) : St w0 F (A ++ (C ++ (B ++ R))) w := by
  refine h.pick (fun i => if i < A.length then i else if i < A.length + C.length then i + B.length else if i < A.length + C.length + B.length then i - C.length else i) ?_ ?_
  · intro i d hd
    by_cases h1 : i < A.length
    · rw [List.getElem?_append_left h1] at hd
      simp only [h1, if_true]
      rw [List.getElem?_append_left h1]
      exact hd
    · rw [List.getElem?_append_right (by omega)] at hd
      simp only [h1, if_false]
      by_cases h2 : i < A.length + C.length
      · rw [List.getElem?_append_left (by omega)] at hd
        simp only [h2, if_true]
        rw [List.getElem?_append_right (by omega), List.getElem?_append_right (by omega), List.getElem?_append_left (by omega), show i + B.length - A.length - B.length = i - A.length by omega]
        exact hd
      · rw [List.getElem?_append_right (by omega)] at hd
        simp only [h2, if_false]
        by_cases h3 : i < A.length + C.length + B.length
        · rw [List.getElem?_append_left (by omega)] at hd
          simp only [h3, if_true]
          rw [List.getElem?_append_right (by omega), List.getElem?_append_left (by omega), show i - C.length - A.length = i - A.length - C.length by omega]
          exact hd
        · rw [List.getElem?_append_right (by omega)] at hd
          simp only [h3, if_false]
          rw [List.getElem?_append_right (by omega), List.getElem?_append_right (by omega), List.getElem?_append_right (by omega), show i - A.length - B.length - C.length = i - A.length - C.length - B.length by omega]
          exact hd
  · intro i j hi hj hij
    split <;> split <;> (try split) <;> (try split) <;> (try split) <;> (try split) <;> omega
end St
end Go.Ofp
end

section
/- A result that lies in a block of the call's own. -/
set_option linter.unusedSimpArgs false
set_option linter.unusedVariables false
namespace Go.Ofp
open Go.RowKit
theorem take_loadrow {P : Program} {w0 : World} {F : List Nat} {L : List Ch} {o : Oper} {a : Act} {t : TypeId} {x : Operand} {p : Addr} {vs : Array Value} (s : Cl w0 F L) (ho : o.op = .load t x) (hx : a.eval x = .pointer (some p))
    (h : ∀ s : Cl w0 F L, (Instr.loadAt t (.pointer (some p))).run P s.1 = .ok (.agg vs) s.1) : (execOp a.eval o).run P s.1 = .ok (.value (.agg vs)) s.1 := by
  unfold execOp
  simp only [ho, hx, Sem.run_bind, h s, Result.andThen_ok, Sem.run_pure]

/-- A guarded operation outside of a drawn region, by the law of a drawn one. -/
theorem wpList_of_op {P : Program} {ops : Array Oper} {Q : Exit → Act → World → Prop} {a : Act} {w : World} {rest : List Oper} {o : Oper}
    (h : ∀ K : Act → World → Prop, (∀ a w, wpList P ops Q rest a w → K a w) → if Region.wanted o (yielded ops a.tmps) = true then Oper.wp P o a w K Q else K (a.put o.dst undef) w) : wpList P ops Q (o :: rest) a w :=
  wpList_step fun K hK => h K hK
theorem wpList_gload_st {P : Program} {w w0 : World} {F : List Nat} {L : List Ch} {ops : Array Oper} {rest : List Oper} {o : Oper} {a : Act} {Q : Exit → Act → World → Prop} (i : Nat) {g j T : Nat} {cs : Array Value} (hS : St w0 F L w) (hi : L[i]? = some (Ch.blk g T cs)) (hw : Region.wanted o (yielded ops a.tmps) = true) {t : TypeId} {x : Operand} (ho : o.op = .load t x) (hx : a.eval x = .pointer (some ⟨g, j, none⟩))
    (hu : scalarB P t = true) {v : Value} (hv : cs[j]? = some v) (h : wpList P ops Q rest (a.put o.dst v) w) : wpList P ops Q (o :: rest) a w :=
  wpList_of_op fun K hK => op_load_st hw i hS hi ho hx hu hv (hK _ _ h)
end Go.Ofp
end
