/- Texts laid together: Ring4 Piece3 Piece4. -/
import Derived.Test.YtlhpibniecfofaaM2
import Derived.Test.YtlhpibniecfofaaM4
import Derived.Test.YtlhpibniecfofaaM6
section
/- Rings: Add. -/
set_option linter.unusedSimpArgs false
set_option linter.unusedVariables false
namespace Go.Proofs.Ytlhpibniecfofaa
open Go.RowKit Go.Ofp
set_option linter.unusedVariables false
set_option maxRecDepth 100000
set_option maxHeartbeats 8000000

theorem lay_drop (r : Rg) (l : List Pc) (j : Nat) (p : Pc) (hp : l[j]? = some p) : (r.lay l).drop j = ((r.src : Int) + p.place % r.n, putB p) :: (r.lay l).drop (j + 1) := by
  obtain ⟨hj, rfl⟩ := List.getElem?_eq_some_iff.1 hp
  have hj' : j < (r.lay l).length := by simpa [Rg.lay_length] using hj
  rw [List.drop_eq_getElem_cons hj']
  simp [Rg.lay]
theorem writes_nil (d : Dk) : d.writes [] = (d, 0) := rfl
theorem writes_ok {d : Dk} {x : Int × List UInt8} {l : List (Int × List UInt8)} (h : (d.write x.1 x.2).2 = 0) : d.writes (x :: l) = (d.write x.1 x.2).1.writes l := by
  rw [Dk.writes, if_pos h]
theorem writes_bad {d : Dk} {x : Int × List UInt8} {l : List (Int × List UInt8)} (h : (d.write x.1 x.2).2 ≠ 0) : d.writes (x :: l) = d.write x.1 x.2 := by
  rw [Dk.writes, if_neg h]

theorem putB_le (p : Pc) : (putB p).length ≤ 64 := by
  by_cases h : p.ok = true
  · exact Nat.le_of_eq (putB_length p h)
  · rw [putB, if_neg h]
    simp

theorem rgadd_full (g bd : Nat) (sv wv : Value) (d : Dk) (r : Rg) (size k : Nat) (s : ByteArray) (w : World) (h : St w (feet (rng g bd r :: dks bd sv wv d)) (rng g bd r :: dks bd sv wv d) w) (hr : r.Ok size) (hs : size ≤ 100000) (hsz : s.size ≤ 1000000) (hc : r.free < manyB s.size) :
    Calls Try.prog 44 #[.pointer (some ⟨g, 0, none⟩), .string s] w fun e w' => e = .returned (.int .i64 8) ∧ St w (feet (rng g bd r :: dks bd sv wv d)) (rng g bd r :: dks bd sv wv d) w' := by
  have hS : St w (feet (rng g bd r :: dks bd sv wv d)) ([rng g bd r] ++ dks bd sv wv d) w := h
  have cM := fun W => many_any s.size W (by unfold maxLen; omega)
  have cF := fun W hh => rgfree_any g bd r size W hh hr hs
  have hcI : (r.free : Int) < manyB s.size := by omega
  generalize feet _ = F at hS ⊢
  generalize manyB s.size = mm at *
  generalize r.free = ff at *
  clear h hc
  replace cM := Lib.hid cM
  replace cF := Lib.hid cF
  go_enter Try.func44, Try.ntmps44
  go_wp2_with (first
    | (go_at_call 83; (with_reducible refine (cM.out _).mono ?_); rintro _ _ ⟨rfl, rfl⟩)
    | (go_at_call 51; (with_reducible refine (cF.out _ (hS.preM (A := []))).mono ?_); rintro _ w3 ⟨rfl, hb3⟩; have hS1 := hS.keepB hb3; clear hb3 hS; have hS := hS1; clear hS1))
  go_ret
  exact ⟨rfl, hS⟩
theorem rgadd_none (g bd : Nat) (sv wv : Value) (d : Dk) (r : Rg) (size k : Nat) (s : ByteArray) (w : World) (h : St w (feet (rng g bd r :: dks bd sv wv d)) (rng g bd r :: dks bd sv wv d) w) (hr : r.Ok size) (hs : size ≤ 100000) (hsz : s.size ≤ 1000000) (hc : manyB s.size ≤ r.free) (hn : cutB r.life r.tail s = []) :
    Calls Try.prog 44 #[.pointer (some ⟨g, 0, none⟩), .string s] w fun e w' => e = .returned (.int .i64 8) ∧ St w (feet (rng g bd r :: dks bd sv wv d)) (rng g bd r :: dks bd sv wv d) w' := by
  have hS : St w (feet (rng g bd r :: dks bd sv wv d)) ([rng g bd r] ++ dks bd sv wv d) w := h
  have cM := fun W => many_any s.size W (by unfold maxLen; omega)
  have cF := fun W hh => rgfree_any g bd r size W hh hr hs
  have cC := fun W => cut_any r.life r.tail s W hsz (by have := hr.life; omega) (by have := hr.top; omega)
  rw [hn] at cC
  have hcI : (manyB s.size : Int) ≤ r.free := by omega
  generalize feet _ = F at hS ⊢
  generalize manyB s.size = mm at *
  generalize r.free = ff at *
  clear h hc hn
  replace cM := Lib.hid cM
  replace cF := Lib.hid cF
  replace cC := Lib.hid cC
  go_enter Try.func44, Try.ntmps44
  go_wp2_with (first
    | (go_at_call 83; (with_reducible refine (cM.out _).mono ?_); rintro _ _ ⟨rfl, rfl⟩)
    | (go_at_call 51; (with_reducible refine (cF.out _ (hS.preM (A := []))).mono ?_); rintro _ w3 ⟨rfl, hb3⟩; have hS1 := hS.keepB hb3; clear hb3 hS; have hS := hS1; clear hS1))
  simp only [List.cons_append, List.nil_append] at hS
  refine mixs_beginC 0 (by kernel_rfl) hS rfl ?_
  clear hS
  intro w6 hS hC
  have kC := hC.kblk 0 rfl
  refine mixs_take 0 (v := ?_) rfl (by kernel_rfl) (fun _ _ _ h => h) (by kernel_rfl) (by assumption) (fun s => ?hy) ?_; case hy => (go_simp <;> with_reducible rfl)
  try simp only [List.getElem_toArray, List.getElem_cons_succ, List.getElem_cons_zero, Act.put, List.setIfInBounds_toArray, List.set_cons_zero, List.set_cons_succ]
  refine mixs_take 1 (v := ?_) rfl (by kernel_rfl) (fun _ _ _ h => h) (by kernel_rfl) (by assumption) (fun s => ?hy) ?_; case hy => (go_simp <;> with_reducible rfl)
  try simp only [List.getElem_toArray, List.getElem_cons_succ, List.getElem_cons_zero, Act.put, List.setIfInBounds_toArray, List.set_cons_zero, List.set_cons_succ]
  refine mixs_take 2 (v := ?_) rfl (by kernel_rfl) (fun _ _ _ h => h) (by kernel_rfl) (by assumption) (fun s => ?hy) ?_; case hy => (go_simp <;> with_reducible rfl)
  try simp only [List.getElem_toArray, List.getElem_cons_succ, List.getElem_cons_zero, Act.put, List.setIfInBounds_toArray, List.set_cons_zero, List.set_cons_succ]
  refine mixs_take 3 (v := ?_) rfl (by kernel_rfl) (fun _ _ _ h => h) (by kernel_rfl) (by assumption) (fun s => ?hy) ?_; case hy => (go_simp <;> with_reducible rfl)
  try simp only [List.getElem_toArray, List.getElem_cons_succ, List.getElem_cons_zero, Act.put, List.setIfInBounds_toArray, List.set_cons_zero, List.set_cons_succ]
  refine mixs_take 4 (v := ?_) rfl (by kernel_rfl) (fun _ _ _ h => h) (by kernel_rfl) (by assumption) (fun s => ?hy) ?_; case hy => (go_simp <;> with_reducible rfl)
  try simp only [List.getElem_toArray, List.getElem_cons_succ, List.getElem_cons_zero, Act.put, List.setIfInBounds_toArray, List.set_cons_zero, List.set_cons_succ]
  refine mixs_take 5 (v := ?_) rfl (by kernel_rfl) (fun _ _ _ h => h) (by kernel_rfl) (by assumption) (fun s => ?hy) ?_; case hy => (go_simp <;> with_reducible rfl)
  try simp only [List.getElem_toArray, List.getElem_cons_succ, List.getElem_cons_zero, Act.put, List.setIfInBounds_toArray, List.set_cons_zero, List.set_cons_succ]
  refine mixs_take 6 (v := ?_) rfl (by kernel_rfl) (fun _ _ _ h => h) (by kernel_rfl) (by assumption) (fun s => ?hy) ?_; case hy => (go_simp <;> with_reducible rfl)
  try simp only [List.getElem_toArray, List.getElem_cons_succ, List.getElem_cons_zero, Act.put, List.setIfInBounds_toArray, List.set_cons_zero, List.set_cons_succ]
  refine mixs_take 7 (v := ?_) rfl (by kernel_rfl) (fun _ _ _ h => h) (by kernel_rfl) (by assumption) (fun s => ?hy) ?_; case hy => (go_simp <;> with_reducible rfl)
  try simp only [List.getElem_toArray, List.getElem_cons_succ, List.getElem_cons_zero, Act.put, List.setIfInBounds_toArray, List.set_cons_zero, List.set_cons_succ]
  refine mixs_take 8 (v := ?_) rfl (by kernel_rfl) (fun _ _ _ h => h) (by kernel_rfl) (by assumption) (fun s => ?hy) ?_; case hy => (go_simp <;> with_reducible rfl)
  try simp only [List.getElem_toArray, List.getElem_cons_succ, List.getElem_cons_zero, Act.put, List.setIfInBounds_toArray, List.set_cons_zero, List.set_cons_succ]
  refine mixs_one 9 (by kernel_rfl) rfl (fun K hK => ?_)
  go_simp
  ( ((go_at_call 84; (with_reducible refine (cC.out _).mono ?_); rintro _ w3 ⟨a3, c3, rfl, -, -, hb3⟩; have hS1 := hS.keepB hb3; clear hb3 hS; have hS := hS1; clear hS1)) )
  try clear hC
  refine hK.out _ _ _ (fun _ h => h) (by first | exact hS | exact hS.drop | exact hS.drop.drop | exact hS.drop.drop.drop | exact hS.drop.drop.drop.drop | exact hS.empty | exact hS.one 0 rfl | exact hS.one 1 rfl | exact hS.one 2 rfl | exact hS.one 3 rfl | exact hS.one 4 rfl | exact hS.one 5 rfl | exact hS.one 6 rfl | exact hS.one 7 rfl | exact hS.one 8 rfl | exact hS.one 9 rfl | exact hS.one 10 rfl | exact hS.one 11 rfl | exact hS.fore2 | exact hS.fore3 | exact hS.drop.fore2) (fun hC => ?_)
  clear hK K
  try simp only [List.getElem_toArray, List.getElem_cons_succ, List.getElem_cons_zero, Act.put, List.setIfInBounds_toArray, List.set_cons_zero, List.set_cons_succ]
  refine mixs_take 10 (v := ?_) rfl (by kernel_rfl) (fun _ _ _ h => h) (by kernel_rfl) (by assumption) (fun s => ?hy) ?_; case hy => (go_simp <;> with_reducible rfl)
  try simp only [List.getElem_toArray, List.getElem_cons_succ, List.getElem_cons_zero, Act.put, List.setIfInBounds_toArray, List.set_cons_zero, List.set_cons_succ]
  refine wpAnyH_done (by kernel_rfl) ?_ _
  go_wp2_with fail
  go_ret
  exact ⟨rfl, hS⟩
theorem rgadd_main (g bd : Nat) (sv wv : Value) (d : Dk) (r : Rg) (size k : Nat) (s : ByteArray) (w : World) (h : St w (feet (rng g bd r :: dks bd sv wv d)) (rng g bd r :: dks bd sv wv d) w) (hr : r.Ok size) (hfit : d.Fit size k) (hs : size ≤ 100000) (hk : k + manyB s.size ≤ 100000) (hsz : s.size ≤ 1000000) (hc : manyB s.size ≤ r.free) (hn : cutB r.life r.tail s ≠ []) :
    Calls Try.prog 44 #[.pointer (some ⟨g, 0, none⟩), .string s] w fun e w' => e = .returned (.int .i64 (r.add d s).2.2) ∧ ∃ wv', St w (feet (rng g bd r :: dks bd sv wv d)) (rng g bd (r.add d s).1 :: dks bd sv wv' (r.add d s).2.1) w' := by
  have hS : St w (feet (rng g bd r :: dks bd sv wv d)) ([rng g bd r] ++ dks bd sv wv d) w := h
  have hadd : r.add d s = if (d.writes (r.lay (cutB r.life r.tail s))).2 = 0 then ({ r with tail := r.tail + manyB s.size }, (d.writes (r.lay (cutB r.life r.tail s))).1, 0) else (r, (d.writes (r.lay (cutB r.life r.tail s))).1, (d.writes (r.lay (cutB r.life r.tail s))).2) := by
    rw [Rg.add, if_neg fun e => e.elim (fun e => absurd e (by omega)) hn]
  obtain ⟨hlen, hcut⟩ := Rg.cut_len hn
  have hpos := manyB_pos s.size
  have hpl : ∀ (j : Nat) (p : Pc), (cutB r.life r.tail s)[j]? = some p → 0 ≤ p.place ∧ p.place ≤ 2199023255552 := by
    intro j p hp
    rw [cutB_get hcut] at hp
    split at hp
    · cases hp
      rw [cutOk_iff] at hcut
      simp only [pieceAt]
      omega
    · cases hp
  have htm : r.tail + manyB s.size ≤ 1099511627776 := by rw [cutOk_iff] at hcut; omega
  have cM := fun W => many_any s.size W (by unfold maxLen; omega)
  have cF := fun W hh => rgfree_any g bd r size W hh hr hs
  have cC := fun W => cut_new r.life r.tail s W hsz (by have := hr.life; omega) (by have := hr.top; omega)
  have cS := fun (place : Int) W hh hp => rgsector_any g bd r size place W hh hr hs hp
  rw [hlen] at cC
  obtain ⟨res, hres⟩ : ∃ res, r.add d s = res := ⟨_, rfl⟩
  rw [hres]
  rw [hres] at hadd
  generalize cutB r.life r.tail s = L at *
  have hcI : (manyB s.size : Int) ≤ r.free := by omega
  generalize feet _ = F at hS ⊢
  generalize manyB s.size = mm at *
  clear h hc hn hcut hres
  replace hadd := Lib.hid hadd
  generalize r.free = fr at *
  clear hr
  have hw2 : IntKind.i64.wrap ((r.tail : Int) + mm) = ((r.tail + mm : Nat) : Int) := by rw [IntWalk.i64_in _ (by omega)]; omega
  have hm0 : ((mm : Int) == 0) = false := by rw [beq_eq_false_iff_ne]; omega
  have ez := elem_pc
  replace cM := Lib.hid cM
  replace cF := Lib.hid cF
  replace cC := Lib.hid cC
  replace cS := Lib.hid cS
  replace hpl := Lib.hid hpl
  go_enter Try.func44, Try.ntmps44
  go_wp2_with (first
    | (go_at_call 83; (with_reducible refine (cM.out _).mono ?_); rintro _ _ ⟨rfl, rfl⟩)
    | (go_at_call 51; (with_reducible refine (cF.out _ (hS.preM (A := []))).mono ?_); rintro _ w3 ⟨rfl, hb3⟩; have hS1 := hS.keepB hb3; clear hb3 hS; have hS := hS1; clear hS1))
  simp only [List.cons_append, List.nil_append] at hS
  clear cM cF
  revert hS
  apply wp_cutxy
  · intro hS
    refine mixs_beginC 0 (by kernel_rfl) hS rfl ?_
    clear hS
    intro w6 hS hC
    have kC := hC.kblk 0 rfl
    refine mixs_take 0 (v := ?_) rfl (by kernel_rfl) (fun _ _ _ h => h) (by kernel_rfl) (by assumption) (fun s => ?hy) ?_; case hy => (go_simp <;> with_reducible rfl)
    try simp only [List.getElem_toArray, List.getElem_cons_succ, List.getElem_cons_zero, Act.put, List.setIfInBounds_toArray, List.set_cons_zero, List.set_cons_succ]
    refine mixs_take 1 (v := ?_) rfl (by kernel_rfl) (fun _ _ _ h => h) (by kernel_rfl) (by assumption) (fun s => ?hy) ?_; case hy => (go_simp <;> with_reducible rfl)
    try simp only [List.getElem_toArray, List.getElem_cons_succ, List.getElem_cons_zero, Act.put, List.setIfInBounds_toArray, List.set_cons_zero, List.set_cons_succ]
    refine mixs_take 2 (v := ?_) rfl (by kernel_rfl) (fun _ _ _ h => h) (by kernel_rfl) (by assumption) (fun s => ?hy) ?_; case hy => (go_simp <;> with_reducible rfl)
    try simp only [List.getElem_toArray, List.getElem_cons_succ, List.getElem_cons_zero, Act.put, List.setIfInBounds_toArray, List.set_cons_zero, List.set_cons_succ]
    refine mixs_take 3 (v := ?_) rfl (by kernel_rfl) (fun _ _ _ h => h) (by kernel_rfl) (by assumption) (fun s => ?hy) ?_; case hy => (go_simp <;> with_reducible rfl)
    try simp only [List.getElem_toArray, List.getElem_cons_succ, List.getElem_cons_zero, Act.put, List.setIfInBounds_toArray, List.set_cons_zero, List.set_cons_succ]
    refine mixs_take 4 (v := ?_) rfl (by kernel_rfl) (fun _ _ _ h => h) (by kernel_rfl) (by assumption) (fun s => ?hy) ?_; case hy => (go_simp <;> with_reducible rfl)
    try simp only [List.getElem_toArray, List.getElem_cons_succ, List.getElem_cons_zero, Act.put, List.setIfInBounds_toArray, List.set_cons_zero, List.set_cons_succ]
    refine mixs_take 5 (v := ?_) rfl (by kernel_rfl) (fun _ _ _ h => h) (by kernel_rfl) (by assumption) (fun s => ?hy) ?_; case hy => (go_simp <;> with_reducible rfl)
    try simp only [List.getElem_toArray, List.getElem_cons_succ, List.getElem_cons_zero, Act.put, List.setIfInBounds_toArray, List.set_cons_zero, List.set_cons_succ]
    refine mixs_take 6 (v := ?_) rfl (by kernel_rfl) (fun _ _ _ h => h) (by kernel_rfl) (by assumption) (fun s => ?hy) ?_; case hy => (go_simp <;> with_reducible rfl)
    try simp only [List.getElem_toArray, List.getElem_cons_succ, List.getElem_cons_zero, Act.put, List.setIfInBounds_toArray, List.set_cons_zero, List.set_cons_succ]
    refine mixs_take 7 (v := ?_) rfl (by kernel_rfl) (fun _ _ _ h => h) (by kernel_rfl) (by assumption) (fun s => ?hy) ?_; case hy => (go_simp <;> with_reducible rfl)
    try simp only [List.getElem_toArray, List.getElem_cons_succ, List.getElem_cons_zero, Act.put, List.setIfInBounds_toArray, List.set_cons_zero, List.set_cons_succ]
    refine mixs_take 8 (v := ?_) rfl (by kernel_rfl) (fun _ _ _ h => h) (by kernel_rfl) (by assumption) (fun s => ?hy) ?_; case hy => (go_simp <;> with_reducible rfl)
    try simp only [List.getElem_toArray, List.getElem_cons_succ, List.getElem_cons_zero, Act.put, List.setIfInBounds_toArray, List.set_cons_zero, List.set_cons_succ]
    refine mixs_one 9 (by kernel_rfl) rfl (fun K hK => ?_)
    go_simp
    ( ((go_at_call 84; (with_reducible refine (cC.out _).mono ?_); rintro _ w3 ⟨a3, c3, rfl, hp3, -, hb3, hx3⟩; have hS1 := hS.pushSl hb3 hp3 hx3; clear hS hp3 hb3 hx3; have hS := hS1; clear hS1)) )
    try clear hC
    refine hK.out _ _ _ (fun _ h => h) (by first | exact hS | exact hS.drop | exact hS.drop.drop | exact hS.drop.drop.drop | exact hS.drop.drop.drop.drop | exact hS.empty | exact hS.one 0 rfl | exact hS.one 1 rfl | exact hS.one 2 rfl | exact hS.one 3 rfl | exact hS.one 4 rfl | exact hS.one 5 rfl | exact hS.one 6 rfl | exact hS.one 7 rfl | exact hS.one 8 rfl | exact hS.one 9 rfl | exact hS.one 10 rfl | exact hS.one 11 rfl | exact hS.fore2 | exact hS.fore3 | exact hS.drop.fore2) (fun hC => ?_)
    clear hK K
    try simp only [List.getElem_toArray, List.getElem_cons_succ, List.getElem_cons_zero, Act.put, List.setIfInBounds_toArray, List.set_cons_zero, List.set_cons_succ]
    refine mixs_take 10 (v := ?_) rfl (by kernel_rfl) (fun _ _ _ h => h) (by kernel_rfl) (by assumption) (fun s => ?hy) ?_; case hy => (go_simp <;> with_reducible rfl)
    try simp only [List.getElem_toArray, List.getElem_cons_succ, List.getElem_cons_zero, Act.put, List.setIfInBounds_toArray, List.set_cons_zero, List.set_cons_succ]
    refine wpAnyH_done (by kernel_rfl) ?_ _
    exact ⟨a3, c3, rfl, hS⟩
  intro a3 c3 w3 hS
  clear cC
  have hS1 : St w F ((rng g bd r :: dks bd sv wv d) ++ [Ch.sl a3 (L.map Pc.row).flatten]) _ := St.rot (A := [_]) hS
  clear hS
  have hS := hS1
  clear hS1
  simp only [List.cons_append] at hS
  go_wp2_with fail
  go_loopg [32] mm (fun gk vi wr => ∃ (j : Nat) (dj : Dk) (wvj : Value), j + gk = mm ∧ vi = .int .i64 (j : Nat) ∧ dj.Fit size (k + j) ∧ Hid (d.writes (r.lay L) = dj.writes ((r.lay L).drop j)) ∧ St w F (rng g bd r :: (dks bd sv wvj dj ++ [Ch.sl a3 (L.map Pc.row).flatten])) wr)
  case atStart => exact ⟨0, d, wv, by omega, rfl, hfit, Lib.hid rfl, hS⟩
  case round =>
    clear hS hfit
    obtain ⟨j, dj, wvj, hj, rfl, hfit, hI, hS⟩ := hrel
    by_cases hjm : j < mm
    · obtain ⟨p, hp⟩ : ∃ p, L[j]? = some p := ⟨_, List.getElem?_eq_getElem (by omega)⟩
      have hpp := hpl.out j p hp
      have hdrop := lay_drop r L j p hp
      obtain ⟨b, o, rfl, c0, c1, c2, c3', c4⟩ := Ps.get (hS.slof 4 rfl) j p hp
      have cP := fun W => put_any p W
      have cW := fun W hh => write_any bd sv wvj dj (r.src + p.place % r.n) (str (putB p)) W hh (by rw [str_size]; exact Nat.le_trans (putB_le p) (by decide)) (by have := hfit.wait; omega) hfit.fuse
      simp only [str_data] at cW
      have hfit2 := hfit.write (r.src + p.place % r.n) (putB p)
      have cSp := fun W hh => cS.out p.place W hh hpp
      obtain ⟨dn, en, hwr⟩ : ∃ dn en, dj.write (r.src + p.place % r.n) (putB p) = (dn, en) := ⟨_, _, rfl⟩
      rw [hwr] at cW hfit2
      simp only [Pc.val, Pc.row] at cP
      simp only at cW hfit2
      rw [hdrop] at hI
      have hI0 : en = 0 → d.writes (r.lay L) = dn.writes ((r.lay L).drop (j + 1)) := fun he => by
        have := hI.out
        rw [writes_ok (by simp only; rw [hwr]; exact he)] at this
        simp only at this
        rw [hwr] at this
        exact this
      have hI1 : en ≠ 0 → d.writes (r.lay L) = (dn, en) := fun he => by
        have := hI.out
        rw [writes_bad (by simp only; rw [hwr]; exact he)] at this
        simp only at this
        rw [hwr] at this
        exact this
      clear hI hwr hdrop hfit hpp
      replace cP := Lib.hid cP
      replace cW := Lib.hid cW
      replace cSp := Lib.hid cSp
      replace hI0 := Lib.hid hI0
      replace hI1 := Lib.hid hI1
      replace hp := Lib.hid hp
      have hjn : (j : Int) < mm := by omega
      go_wp2_with (first
        | ((with_reducible refine wpList_alloc_st hS rfl rfl ez ?_); intro g4 w1 hS1; clear hS; have hS := hS1; clear hS1)
        | ((with_reducible refine wpList_storerow_st 0 hS rfl rfl rfl rfl (by kernel_rfl) rfl rfl rfl rfl ?_); intro w1 hS1; clear hS; have hS := hS1; clear hS1; try simp only [List.set_cons_zero, List.set_cons_succ, List.setIfInBounds_toArray, List.take_succ_cons, List.take_zero, List.drop_succ_cons, List.drop_zero, List.nil_append, List.cons_append, List.append_nil, List.drop_nil, List.take_nil, List.length_cons, List.length_nil, Nat.zero_add, Nat.add_zero, Nat.reduceAdd] at hS))
      clear c0 c1 c2 c3' c4
      revert hS
      apply wp_cutv
      · intro hS
        refine mixs_beginC2 (by kernel_rfl) hS ?_
        clear hS
        intro w6 hS hC
        have kC := hC.kblk 0 rfl
        have kC1 := hC.kblk 1 rfl
        refine mixs_take 0 (v := ?_) rfl (by kernel_rfl) (fun _ _ _ h => h) (by kernel_rfl) (by assumption) (fun s => ?hy) ?_; case hy => (go_simp <;> with_reducible rfl)
        try simp only [List.getElem_toArray, List.getElem_cons_succ, List.getElem_cons_zero, Act.put, List.setIfInBounds_toArray, List.set_cons_zero, List.set_cons_succ]
        refine mixs_take 1 (v := ?_) rfl (by kernel_rfl) (fun _ _ _ h => h) (by kernel_rfl) (by assumption) (fun s => ?hy) ?_; case hy => (go_simp <;> with_reducible rfl)
        try simp only [List.getElem_toArray, List.getElem_cons_succ, List.getElem_cons_zero, Act.put, List.setIfInBounds_toArray, List.set_cons_zero, List.set_cons_succ]
        refine mixs_take 2 (v := ?_) rfl (by kernel_rfl) (fun _ _ _ h => h) (by kernel_rfl) (by assumption) (fun s => ?hy) ?_; case hy => (go_simp <;> with_reducible rfl)
        try simp only [List.getElem_toArray, List.getElem_cons_succ, List.getElem_cons_zero, Act.put, List.setIfInBounds_toArray, List.set_cons_zero, List.set_cons_succ]
        refine mixs_take 3 (v := ?_) rfl (by kernel_rfl) (fun _ _ _ h => h) (by kernel_rfl) (by assumption) (fun s => ?hy) ?_; case hy => (go_simp <;> with_reducible rfl)
        try simp only [List.getElem_toArray, List.getElem_cons_succ, List.getElem_cons_zero, Act.put, List.setIfInBounds_toArray, List.set_cons_zero, List.set_cons_succ]
        refine mixs_take 4 (v := ?_) rfl (by kernel_rfl) (fun _ _ _ h => h) (by kernel_rfl) (by assumption) (fun s => ?hy) ?_; case hy => (go_simp <;> with_reducible rfl)
        try simp only [List.getElem_toArray, List.getElem_cons_succ, List.getElem_cons_zero, Act.put, List.setIfInBounds_toArray, List.set_cons_zero, List.set_cons_succ]
        refine mixs_take 5 (v := ?_) rfl (by kernel_rfl) (fun _ _ _ h => h) (by kernel_rfl) (by assumption) (fun s => ?hy) ?_; case hy => (go_simp <;> with_reducible rfl)
        try simp only [List.getElem_toArray, List.getElem_cons_succ, List.getElem_cons_zero, Act.put, List.setIfInBounds_toArray, List.set_cons_zero, List.set_cons_succ]
        refine mixs_take 6 (v := ?_) rfl (by kernel_rfl) (fun _ _ _ h => h) (by kernel_rfl) (by assumption) (fun s => ?hy) ?_; case hy => (go_simp <;> with_reducible rfl)
        try simp only [List.getElem_toArray, List.getElem_cons_succ, List.getElem_cons_zero, Act.put, List.setIfInBounds_toArray, List.set_cons_zero, List.set_cons_succ]
        refine mixs_take 8 (v := ?_) rfl (by kernel_rfl) (fun _ _ _ h => h) (by kernel_rfl) (by assumption) (fun s => ?hy) ?_; case hy => (go_simp <;> with_reducible rfl)
        try simp only [List.getElem_toArray, List.getElem_cons_succ, List.getElem_cons_zero, Act.put, List.setIfInBounds_toArray, List.set_cons_zero, List.set_cons_succ]
        refine mixs_one 7 (by kernel_rfl) rfl (fun K hK => ?_)
        go_simp
        ( (first | (go_at_call 85; (with_reducible refine (cSp.out _ (hS.preM (A := [_]) (B := [rng g bd r]) (R := _))).mono ?_); rintro _ w8 ⟨rfl, hk8⟩; have hS1 := hS.callM (A := [_]) (B := [rng g bd r]) (R := _) hk8; clear hS hk8; have hS := hS1; clear hS1; simp only [List.cons_append, List.nil_append] at hS) | (go_at_call 86; (with_reducible refine (cP.out _).mono ?_); rintro _ w9 ⟨rfl, hb9⟩; have hS1 := hS.keepB hb9; clear hb9 hS; have hS := hS1; clear hS1) | (go_at_call 17; (with_reducible refine (cW.out _ (hS.preM (A := [_, _]) (B := dks bd sv wvj dj) (R := _))).mono ?_); rintro _ w10 ⟨rfl, wv10, hk10⟩; have hS1 := hS.callM (A := [_, _]) (B := dks bd sv wvj dj) (R := _) hk10; clear hS hk10; have hS := hS1; clear hS1; simp only [List.cons_append, List.nil_append] at hS)) )
        try clear hC
        refine hK.out _ _ _ (fun _ h => h) (by first | exact hS | exact hS.drop | exact hS.drop.drop | exact hS.drop.drop.drop | exact hS.drop.drop.drop.drop | exact hS.empty | exact hS.one 0 rfl | exact hS.one 1 rfl | exact hS.one 2 rfl | exact hS.one 3 rfl | exact hS.one 4 rfl | exact hS.one 5 rfl | exact hS.one 6 rfl | exact hS.one 7 rfl | exact hS.one 8 rfl | exact hS.one 9 rfl | exact hS.one 10 rfl | exact hS.one 11 rfl | exact hS.fore2 | exact hS.fore3 | exact hS.drop.fore2) (fun hC => ?_)
        clear hK K
        try simp only [List.getElem_toArray, List.getElem_cons_succ, List.getElem_cons_zero, Act.put, List.setIfInBounds_toArray, List.set_cons_zero, List.set_cons_succ]
        refine mixs_one 9 (by kernel_rfl) rfl (fun K hK => ?_)
        go_simp
        ( (first | (go_at_call 85; (with_reducible refine (cSp.out _ (hS.preM (A := [_]) (B := [rng g bd r]) (R := _))).mono ?_); rintro _ w8 ⟨rfl, hk8⟩; have hS1 := hS.callM (A := [_]) (B := [rng g bd r]) (R := _) hk8; clear hS hk8; have hS := hS1; clear hS1; simp only [List.cons_append, List.nil_append] at hS) | (go_at_call 86; (with_reducible refine (cP.out _).mono ?_); rintro _ w9 ⟨rfl, hb9⟩; have hS1 := hS.keepB hb9; clear hb9 hS; have hS := hS1; clear hS1) | (go_at_call 17; (with_reducible refine (cW.out _ (hS.preM (A := [_, _]) (B := dks bd sv wvj dj) (R := _))).mono ?_); rintro _ w10 ⟨rfl, wv10, hk10⟩; have hS1 := hS.callM (A := [_, _]) (B := dks bd sv wvj dj) (R := _) hk10; clear hS hk10; have hS := hS1; clear hS1; simp only [List.cons_append, List.nil_append] at hS)) )
        try clear hC
        refine hK.out _ _ _ (fun _ h => h) (by first | exact hS | exact hS.drop | exact hS.drop.drop | exact hS.drop.drop.drop | exact hS.drop.drop.drop.drop | exact hS.empty | exact hS.one 0 rfl | exact hS.one 1 rfl | exact hS.one 2 rfl | exact hS.one 3 rfl | exact hS.one 4 rfl | exact hS.one 5 rfl | exact hS.one 6 rfl | exact hS.one 7 rfl | exact hS.one 8 rfl | exact hS.one 9 rfl | exact hS.one 10 rfl | exact hS.one 11 rfl | exact hS.fore2 | exact hS.fore3 | exact hS.drop.fore2) (fun hC => ?_)
        clear hK K
        try simp only [List.getElem_toArray, List.getElem_cons_succ, List.getElem_cons_zero, Act.put, List.setIfInBounds_toArray, List.set_cons_zero, List.set_cons_succ]
        refine mixs_one 10 (by kernel_rfl) rfl (fun K hK => ?_)
        go_simp
        ( (first | (go_at_call 85; (with_reducible refine (cSp.out _ (hS.preM (A := [_]) (B := [rng g bd r]) (R := _))).mono ?_); rintro _ w8 ⟨rfl, hk8⟩; have hS1 := hS.callM (A := [_]) (B := [rng g bd r]) (R := _) hk8; clear hS hk8; have hS := hS1; clear hS1; simp only [List.cons_append, List.nil_append] at hS) | (go_at_call 86; (with_reducible refine (cP.out _).mono ?_); rintro _ w9 ⟨rfl, hb9⟩; have hS1 := hS.keepB hb9; clear hb9 hS; have hS := hS1; clear hS1) | (go_at_call 17; (with_reducible refine (cW.out _ (hS.preM (A := [_, _]) (B := dks bd sv wvj dj) (R := _))).mono ?_); rintro _ w10 ⟨rfl, wv10, hk10⟩; have hS1 := hS.callM (A := [_, _]) (B := dks bd sv wvj dj) (R := _) hk10; clear hS hk10; have hS := hS1; clear hS1; simp only [List.cons_append, List.nil_append] at hS)) )
        try clear hC
        refine hK.out _ _ _ (fun _ h => h) (by first | exact hS | exact hS.drop | exact hS.drop.drop | exact hS.drop.drop.drop | exact hS.drop.drop.drop.drop | exact hS.empty | exact hS.one 0 rfl | exact hS.one 1 rfl | exact hS.one 2 rfl | exact hS.one 3 rfl | exact hS.one 4 rfl | exact hS.one 5 rfl | exact hS.one 6 rfl | exact hS.one 7 rfl | exact hS.one 8 rfl | exact hS.one 9 rfl | exact hS.one 10 rfl | exact hS.one 11 rfl | exact hS.fore2 | exact hS.fore3 | exact hS.drop.fore2) (fun hC => ?_)
        clear hK K
        try simp only [List.getElem_toArray, List.getElem_cons_succ, List.getElem_cons_zero, Act.put, List.setIfInBounds_toArray, List.set_cons_zero, List.set_cons_succ]
        refine mixs_take 11 (v := ?_) rfl (by kernel_rfl) (fun _ _ _ h => h) (by kernel_rfl) (by assumption) (fun s => ?hy) ?_; case hy => (go_simp <;> with_reducible rfl)
        try simp only [List.getElem_toArray, List.getElem_cons_succ, List.getElem_cons_zero, Act.put, List.setIfInBounds_toArray, List.set_cons_zero, List.set_cons_succ]
        refine wpAnyH_done (by kernel_rfl) ?_ _
        exact ⟨wv10, rfl, hS⟩
      intro wvn w7 hS
      by_cases he : en = 0
      · subst he
        have hJ := Lib.hid (hI0.out rfl)
        clear hI0 hI1
        go_wp2_with fail
        go_roundg (mm - (j + 1))
        case measure => omega
        case rel => exact ⟨j + 1, dn, wvn, by omega, by go_num, hfit2, hJ, hS.drop⟩
      · have hJ := hI1.out he
        clear hI0 hI1
        have hR : res = (r, dn, en) := by rw [hadd.out, hJ, if_neg he]
        clear hJ
        subst hR
        go_wp2_with fail
        go_ret
        exact ⟨rfl, wvn, by have := hS.drop; simp only [← List.cons_append] at this; exact this.fore⟩
    · have hjq : j = mm := by omega
      subst hjq
      have hJ := hI.out
      rw [List.drop_eq_nil_of_le (by rw [Rg.lay_length]; omega), writes_nil] at hJ
      have hR : res = ({ r with tail := r.tail + j }, dj, 0) := by rw [hadd.out, hJ, if_pos rfl]
      clear hI hJ
      subst hR
      go_wp2_with (first | (with_reducible refine wpList_box_st hS rfl rfl rfl ?_; intro g1 w1 hS1; clear hS; replace hS := hS1; clear hS1) | (with_reducible refine wpList_box1_st hS rfl rfl rfl ?_; intro g1 w1 hS1; clear hS; replace hS := hS1; clear hS1) | (with_reducible refine wpList_alloc_st hS rfl rfl (by assumption) ?_; intro g1 w1 hS1; clear hS; replace hS := hS1; clear hS1) | (with_reducible refine wpList_alloc1_st hS rfl rfl (by assumption) rfl ?_; intro g1 w1 hS1; clear hS; replace hS := hS1; clear hS1) | ((with_reducible refine wpList_load_st 0 hS rfl rfl rfl rfl ?_ rfl ?_); focus (simp [scalarB, go_sem]; done)) | ((with_reducible refine wpList_loadall_st 0 hS rfl rfl rfl rfl ?_ (by kernel_rfl) ?_); focus (simp [rowB, go_sem]; done)) | ((with_reducible refine wpList_store_st 0 hS rfl rfl rfl rfl (by kernel_rfl) rfl rfl ?_); intro w1 hS1; clear hS; replace hS := hS1; clear hS1; try simp only [List.set_cons_zero, List.set_cons_succ, List.setIfInBounds_toArray, List.take_succ_cons, List.take_zero, List.drop_succ_cons, List.drop_zero, List.nil_append, List.cons_append, List.append_nil, List.drop_nil, List.take_nil, List.length_cons, List.length_nil, Nat.zero_add, Nat.add_zero, Nat.reduceAdd] at hS) | ((with_reducible refine wpList_storerow_st 0 hS rfl rfl rfl rfl (by kernel_rfl) rfl rfl rfl rfl ?_); intro w1 hS1; clear hS; replace hS := hS1; clear hS1; try simp only [List.set_cons_zero, List.set_cons_succ, List.setIfInBounds_toArray, List.take_succ_cons, List.take_zero, List.drop_succ_cons, List.drop_zero, List.nil_append, List.cons_append, List.append_nil, List.drop_nil, List.take_nil, List.length_cons, List.length_nil, Nat.zero_add, Nat.add_zero, Nat.reduceAdd] at hS))
      go_ret
      exact ⟨rfl, wvj, by simp only [← List.cons_append] at hS; exact hS.fore⟩
theorem rgadd_any (g bd : Nat) (sv wv : Value) (d : Dk) (r : Rg) (size k : Nat) (s : ByteArray) (w : World) (h : St w (feet (rng g bd r :: dks bd sv wv d)) (rng g bd r :: dks bd sv wv d) w) (hr : r.Ok size) (hfit : d.Fit size k) (hs : size ≤ 100000) (hk : k + manyB s.size ≤ 100000) (hsz : s.size ≤ 1000000) :
    Calls Try.prog 44 #[.pointer (some ⟨g, 0, none⟩), .string s] w fun e w' => e = .returned (.int .i64 (r.add d s).2.2) ∧ ∃ wv', St w (feet (rng g bd r :: dks bd sv wv d)) (rng g bd (r.add d s).1 :: dks bd sv wv' (r.add d s).2.1) w' := by
  by_cases hc : r.free < manyB s.size
  · have e : r.add d s = (r, d, 8) := by rw [Rg.add, if_pos (.inl hc)]
    rw [e]
    exact (rgadd_full g bd sv wv d r size k s w h hr hs hsz hc).mono fun _ _ hk => ⟨hk.1, wv, hk.2⟩
  · by_cases hn : cutB r.life r.tail s = []
    · have e : r.add d s = (r, d, 8) := by rw [Rg.add, if_pos (.inr hn)]
      rw [e]
      exact (rgadd_none g bd sv wv d r size k s w h hr hs hsz (by omega) hn).mono fun _ _ hk => ⟨hk.1, wv, hk.2⟩
    · exact rgadd_main g bd sv wv d r size k s w h hr hfit hs hk hsz (by omega) hn
end Go.Proofs.Ytlhpibniecfofaa
end

section
/- The walks of pieces: the reference's cut. -/
set_option linter.unusedSimpArgs false
set_option linter.unusedVariables false
namespace Go.Proofs.Ytlhpibniecfofaa
open Go.RowKit Go.Ofp
set_option linter.unusedVariables false
set_option maxRecDepth 100000
set_option maxHeartbeats 4000000

end Go.Proofs.Ytlhpibniecfofaa
end

section
/- The walks of pieces: joined. -/
set_option linter.unusedSimpArgs false
set_option linter.unusedVariables false
namespace Go.Proofs.Ytlhpibniecfofaa
open Go.RowKit Go.Ofp
set_option linter.unusedVariables false
set_option maxRecDepth 100000
set_option maxHeartbeats 4000000

/-- A world's cells of a piece that was copied into a new block. -/
theorem cat_next (ps : List Pc) (j : Nat) (p : Pc) (hp : ps[j]? = some p) : str (catB (ps.take j)) ++ p.body = str (catB (ps.take (j + 1))) := by
  apply ba_ext
  rw [List.take_add_one, hp]
  simp [catB, ByteArray.data_append]

theorem joinB_no (ps : List Pc) (l0 : Pc) (h0 : ps[0]? = some l0) (j : Nat) (p : Pc) (hp : ps[j]? = some p) (h : ¬ joinAt l0 ps.length j p = true) : joinB ps = (str [], false) := by
  rw [joinB, if_neg]
  intro hj
  exact h ((joinOk_iff _ _ h0).1 hj j p hp)

theorem isEmpty_size (s : ByteArray) : s.toList.isEmpty = (s.size == 0) := by
  rw [ByteArray.toList_eq, ba_size]
  cases s.data.toList <;> rfl

section
variable (l0 : Pc) (n j : Nat) (p : Pc)
theorem int_z : ((j : Int) == 0) = (j == 0) := by rw [Bool.eq_iff_iff]; simp
theorem int_l (h : 0 < n) : ((j : Int) == (n : Int) - 1) = (j == n - 1) := by rw [Bool.eq_iff_iff]; simp; omega
theorem join_bad1 (h : ¬ p.first = ((j : Int) == 0)) : ¬ joinAt l0 n j p = true := by
  rw [joinAt_iff]
  rintro ⟨-, -, -, q4, -⟩
  exact h (by rw [q4, int_z])
theorem join_bad2 (hj : j < n) (h : (!p.last == ((j : Int) == (n : Int) - 1)) = true) : ¬ joinAt l0 n j p = true := by
  rw [joinAt_iff]
  rintro ⟨-, -, -, -, q5, -⟩
  rw [q5, int_l n j (by omega)] at h
  simp at h
theorem join_bad3 (h : (j : Int) = (n : Int) - 1) (h1 : 1 < (n : Int)) (h2 : p.body.toList.isEmpty = true) : ¬ joinAt l0 n j p = true := by
  rw [joinAt_iff]
  rw [isEmpty_size, beq_iff_eq] at h2
  omega
theorem join_bad4 (h : ¬ (j : Int) = (n : Int) - 1) (h0 : 52 ≤ (p.body.size : Int)) (h1 : 0 < j) (h2 : (!((j : Int) == (n : Int) - 1)) = true ∧ (p.body.size : Int) < 52 ∨ p.body.toList.isEmpty = true) : ¬ joinAt l0 n j p = true := by
  rw [joinAt_iff]
  rcases h2 with ⟨_, h2⟩ | h2
  · omega
  · rw [isEmpty_size, beq_iff_eq] at h2
    omega
theorem join_bad5 (hj : j < n) (h : ¬ (j : Int) = (n : Int) - 1) (h0 : (p.body.size : Int) < 52) : ¬ joinAt l0 n j p = true := by
  rw [joinAt_iff]
  omega
theorem join_good1 (hj : j < n) (a : p.ok = true) (b : p.life = l0.life) (c : p.place = l0.place + j) (h1 : p.first = ((j : Int) == 0)) (h2 : (!p.last == ((j : Int) == (n : Int) - 1)) = false) (h3 : (j : Int) = (n : Int) - 1) (h5 : p.body.toList.isEmpty = false) : joinAt l0 n j p = true := by
  rw [joinAt_iff]
  rw [isEmpty_size, beq_eq_false_iff_ne] at h5
  refine ⟨a, b, c, by rw [h1, int_z], ?_, by omega, by omega⟩
  have e := int_l n j (by omega)
  rw [e] at h2
  simpa using h2
theorem join_good2 (hj : j < n) (a : p.ok = true) (b : p.life = l0.life) (c : p.place = l0.place + j) (h1 : p.first = ((j : Int) == 0)) (h2 : (!p.last == ((j : Int) == (n : Int) - 1)) = false) (h3 : (j : Int) = (n : Int) - 1) (h5 : (n : Int) ≤ 1) : joinAt l0 n j p = true := by
  rw [joinAt_iff]
  refine ⟨a, b, c, by rw [h1, int_z], ?_, by omega, by omega⟩
  have e := int_l n j (by omega)
  rw [e] at h2
  simpa using h2
theorem join_good3 (hj : j < n) (a : p.ok = true) (b : p.life = l0.life) (c : p.place = l0.place + j) (h1 : p.first = ((j : Int) == 0)) (h2 : (!p.last == ((j : Int) == (n : Int) - 1)) = false) (h4 : 52 ≤ (p.body.size : Int)) (h5 : ((!((j : Int) == (n : Int) - 1)) = false ∨ 52 ≤ (p.body.size : Int)) ∧ p.body.toList.isEmpty = false) : joinAt l0 n j p = true := by
  rw [joinAt_iff]
  refine ⟨a, b, c, by rw [h1, int_z], ?_, by omega, by omega⟩
  have e := int_l n j (by omega)
  rw [e] at h2
  simpa using h2
theorem join_good4 (hj : j < n) (a : p.ok = true) (b : p.life = l0.life) (c : p.place = l0.place + j) (h1 : p.first = ((j : Int) == 0)) (h2 : (!p.last == ((j : Int) == (n : Int) - 1)) = false) (h4 : 52 ≤ (p.body.size : Int)) (h5 : ¬ 0 < j) : joinAt l0 n j p = true := by
  rw [joinAt_iff]
  refine ⟨a, b, c, by rw [h1, int_z], ?_, by omega, by omega⟩
  have e := int_l n j (by omega)
  rw [e] at h2
  simpa using h2
end

theorem pjoin_any (a : Option Addr) (ps : List Pc) (n cap : Nat) (w : World) (ha : Ps w a ps) (hn : n = ps.length) (hn1 : n ≤ 100000) :
    Calls Try.prog 88 #[.slice a n cap] w fun e w' => e = .returned (.tuple #[.string (joinB ps).1, .bool (joinB ps).2]) ∧ Below w.heap.size w w' := by
  replace ha := Lib.hid ha
  replace hn := Lib.hid hn
  go_enter Try.func88, Try.ntmps88
  go_wp2_with fail
  go_loopg [4, 10] n (fun gk vr vi wr => ∃ j : Nat, j + gk = n ∧ vi = .int .i64 j ∧ vr = .string (str (catB (ps.take j))) ∧ (str (catB (ps.take j))).size ≤ j * 52 ∧ Below w.heap.size w wr ∧ ∀ l0, ps[0]? = some l0 → ∀ i p, i < j → ps[i]? = some p → joinAt l0 n i p = true)
  case atStart => exact ⟨0, by omega, rfl, rfl, by simp [catB], Below.refl _ _, fun l0 _ i p h => absurd h (by omega)⟩
  case round =>
    obtain ⟨j, hjk, rfl, rfl, hsz, hb, hall⟩ := hrel
    by_cases hj : j < n
    · obtain ⟨p, hp⟩ : ∃ p, ps[j]? = some p := ⟨_, List.getElem?_eq_getElem (by have := hn.out; omega)⟩
      obtain ⟨l0, h0⟩ : ∃ p, ps[0]? = some p := ⟨_, List.getElem?_eq_getElem (by have := hn.out; omega)⟩
      obtain ⟨b, off, hab, c0, c1, c2, c3, c4⟩ := (ha.out.below hb).get j p hp
      subst hab
      obtain ⟨b', off', hab', z0, z1, -, -, -⟩ := (ha.out.below hb).get 0 l0 h0
      cases hab'
      simp only [Nat.zero_mul, Nat.add_zero] at z0 z1
      have hl0 : 0 < j → l0.ok = true := fun h => ((joinAt_iff _ _ _ _).1 (hall l0 h0 0 l0 h h0)).1
      have hl1 : j = 0 → p = l0 := fun h => by subst h; rw [hp] at h0; cases h0; rfl
      have hno : ¬ joinAt l0 n j p = true → joinB ps = (str [], false) := fun h => joinB_no ps l0 h0 j p hp (by rw [← hn.out]; exact h)
      have hat := joinAt_iff l0 n j p
      obtain ⟨okb, hok⟩ : ∃ b, p.ok = b := ⟨_, rfl⟩
      have hcat := cat_next ps j p hp
      replace hall := Lib.hid hall
      replace hp := Lib.hid hp
      replace h0 := Lib.hid h0
      replace hl0 := Lib.hid hl0
      replace hl1 := Lib.hid hl1
      replace hno := Lib.hid hno
      replace hat := Lib.hid hat
      generalize hS : str (catB (ps.take j)) = S at hcat hsz
      replace hS := Lib.hid hS
      replace hcat := Lib.hid hcat
      have hW := Whole.new wr 148 #[.int .i64 p.life, .int .i64 p.place, .bool p.first, .bool p.last, .string p.body]
      have hWb : Below wr.heap.size wr (wr.alloc (.cells #[.int .i64 p.life, .int .i64 p.place, .bool p.first, .bool p.last, .string p.body] 148)) := (Below.refl _ _).alloc (Nat.le_refl _) _
      replace hW := Lib.hid hW
      replace hWb := Lib.hid hWb
      have cK : ∀ W : World, Calls Try.prog 101 #[.agg #[.int .i64 p.life, .int .i64 p.place, .bool p.first, .bool p.last, .string p.body]] W fun e w' => e = .returned (.bool okb) ∧ Below W.heap.size W w' := by
        intro W
        have := check_any p W
        rw [hok] at this
        exact this
      replace cK := Lib.hid cK
      cases okb with
      | false =>
        replace hok := Lib.hid hok
        go_wp2_with fail
        generalize (wr.alloc (Obj.cells #[.int .i64 p.life, .int .i64 p.place, .bool p.first, .bool p.last, .string p.body] 148)) = W1 at hW hWb ⊢
        have k0 : ∀ s : Past W1, s.1.cell? ⟨wr.heap.size, 0, none⟩ = some (.int .i64 p.life) := fun s => s.cell (hW.out.cell 0)
        have k1 : ∀ s : Past W1, s.1.cell? ⟨wr.heap.size, 1, none⟩ = some (.int .i64 p.place) := fun s => s.cell (hW.out.cell 1)
        have k2 : ∀ s : Past W1, s.1.cell? ⟨wr.heap.size, 2, none⟩ = some (.bool p.first) := fun s => s.cell (hW.out.cell 2)
        have k3 : ∀ s : Past W1, s.1.cell? ⟨wr.heap.size, 3, none⟩ = some (.bool p.last) := fun s => s.cell (hW.out.cell 3)
        have k4 : ∀ s : Past W1, s.1.cell? ⟨wr.heap.size, 4, none⟩ = some (.string p.body) := fun s => s.cell (hW.out.cell 4)
        have y0 : ∀ s : Past W1, s.1.cell? ⟨b, off, none⟩ = some (.int .i64 l0.life) := fun s => s.cell ((hWb.out.cell (World.block_lt_of_cell? _ _ z0)).trans z0)
        have y1 : ∀ s : Past W1, s.1.cell? ⟨b, off + 1, none⟩ = some (.int .i64 l0.place) := fun s => s.cell ((hWb.out.cell (World.block_lt_of_cell? _ _ z1)).trans z1)
        refine wp_region_past_lit (by kernel_rfl) (by kernel_rfl) ?_
        repeat (go_big_quiet_step ((go_at_call 101; refine Calls.past (cK.out _))))
        refine wpQuiet_nil ?_
        rintro w5 ⟨⟨_, hb5⟩, rfl⟩
        replace hb5 : Below wr.heap.size wr w5 := hWb.out.trans (hb5.mono hWb.out.size)
        go_wp2_with fail
        go_ret2
        have hbad : ¬ joinAt l0 n j p = true := by
          rw [hat.out]
          rintro ⟨q1, q2, q3, q4, q5, q6, q7⟩
          first | exact absurd q2 hlf.out | exact absurd q3 hpl.out | exact absurd (hok.out.symm.trans q1) (by simp)
        rw [hno.out hbad]
        exact ⟨rfl, hb.trans (hb5.mono hb.size)⟩
      | true =>
        have hl0k : l0.ok = true := by
          by_cases h : 0 < j
          · exact hl0.out h
          · rw [← hl1.out (by omega)]; exact hok
        rw [Pc.ok_iff] at hl0k
        have hpk := (Pc.ok_iff _).1 hok
        replace hok := Lib.hid hok
        by_cases hlf : p.life = l0.life
        · have e1 : (p.life == l0.life) = true := by rw [beq_iff_eq]; exact hlf
          have e2 : (p.life != l0.life) = false := by rw [bne, e1]; rfl
          replace hlf := Lib.hid hlf
          by_cases hpl : p.place = l0.place + j
          · have e3 : (p.place == l0.place + (j : Int)) = true := by rw [beq_iff_eq]; exact hpl
            have e4 : (p.place != l0.place + (j : Int)) = false := by rw [bne, e3]; rfl
            replace hpl := Lib.hid hpl
            go_wp2_with fail
            generalize (wr.alloc (Obj.cells #[.int .i64 p.life, .int .i64 p.place, .bool p.first, .bool p.last, .string p.body] 148)) = W1 at hW hWb ⊢
            have k0 : ∀ s : Past W1, s.1.cell? ⟨wr.heap.size, 0, none⟩ = some (.int .i64 p.life) := fun s => s.cell (hW.out.cell 0)
            have k1 : ∀ s : Past W1, s.1.cell? ⟨wr.heap.size, 1, none⟩ = some (.int .i64 p.place) := fun s => s.cell (hW.out.cell 1)
            have k2 : ∀ s : Past W1, s.1.cell? ⟨wr.heap.size, 2, none⟩ = some (.bool p.first) := fun s => s.cell (hW.out.cell 2)
            have k3 : ∀ s : Past W1, s.1.cell? ⟨wr.heap.size, 3, none⟩ = some (.bool p.last) := fun s => s.cell (hW.out.cell 3)
            have k4 : ∀ s : Past W1, s.1.cell? ⟨wr.heap.size, 4, none⟩ = some (.string p.body) := fun s => s.cell (hW.out.cell 4)
            have y0 : ∀ s : Past W1, s.1.cell? ⟨b, off, none⟩ = some (.int .i64 l0.life) := fun s => s.cell ((hWb.out.cell (World.block_lt_of_cell? _ _ z0)).trans z0)
            have y1 : ∀ s : Past W1, s.1.cell? ⟨b, off + 1, none⟩ = some (.int .i64 l0.place) := fun s => s.cell ((hWb.out.cell (World.block_lt_of_cell? _ _ z1)).trans z1)
            refine wp_region_past_lit (by kernel_rfl) (by kernel_rfl) ?_
            repeat (go_big_quiet_step ((go_at_call 101; refine Calls.past (cK.out _))))
            refine wpQuiet_nil ?_
            rintro w5 ⟨⟨_, hb5⟩, rfl⟩
            have d2 : w5.cell? ⟨wr.heap.size, 2, none⟩ = some (.bool p.first) := k2 ⟨w5, hb5⟩
            have d3 : w5.cell? ⟨wr.heap.size, 3, none⟩ = some (.bool p.last) := k3 ⟨w5, hb5⟩
            have d4 : w5.cell? ⟨wr.heap.size, 4, none⟩ = some (.string p.body) := k4 ⟨w5, hb5⟩
            clear k0 k1 k2 k3 k4 y0 y1
            replace hb5 : Below wr.heap.size wr w5 := hWb.out.trans (hb5.mono hWb.out.size)
            have hov : ¬ 9223372036854775807 < S.size + p.body.size := by omega
            go_wp2_with fail
            all_goals first
              | (go_ret2
                 have hbad : ¬ joinAt l0 n j p = true := by
                   first
                     | exact join_bad1 l0 n j p (by assumption)
                     | exact join_bad2 l0 n j p hj (by assumption)
                     | exact join_bad3 l0 n j p (by assumption) (by assumption) (by assumption)
                     | exact join_bad4 l0 n j p (by assumption) (by assumption) (by assumption) (by assumption)
                     | exact join_bad5 l0 n j p hj (by assumption) (by assumption)
                 rw [hno.out hbad]
                 exact ⟨rfl, hb.trans (hb5.mono hb.size)⟩)
              | (go_roundg (n - (j + 1))
                 case measure => omega
                 case rel =>
                   have hgood : joinAt l0 n j p = true := by
                     first
                       | exact join_good1 l0 n j p hj hok.out hlf.out hpl.out (by assumption) (by assumption) (by assumption) (by assumption)
                       | exact join_good2 l0 n j p hj hok.out hlf.out hpl.out (by assumption) (by assumption) (by assumption) (by assumption)
                       | exact join_good3 l0 n j p hj hok.out hlf.out hpl.out (by assumption) (by assumption) (by assumption) (by assumption)
                       | exact join_good4 l0 n j p hj hok.out hlf.out hpl.out (by assumption) (by assumption) (by assumption) (by assumption)
                   refine ⟨j + 1, by omega, (congrArg (Value.int .i64) (by omega)), congrArg Value.string hcat.out, ?_, hb.trans (hb5.mono hb.size), ?_⟩
                   · rw [← hcat.out, ByteArray.size_append]
                     omega
                   · intro l0' h0' i q hi hq
                     by_cases hij : i < j
                     · exact hall.out l0' h0' i q hij hq
                     · have : i = j := by omega
                       subst this
                       rw [hp.out] at hq
                       rw [h0.out] at h0'
                       cases hq
                       cases h0'
                       exact hgood)
          · have e3 : (p.place == l0.place + (j : Int)) = false := by rw [beq_eq_false_iff_ne]; exact hpl
            have e4 : (p.place != l0.place + (j : Int)) = true := by rw [bne, e3]; rfl
            replace hpl := Lib.hid hpl
            go_wp2_with fail
            generalize (wr.alloc (Obj.cells #[.int .i64 p.life, .int .i64 p.place, .bool p.first, .bool p.last, .string p.body] 148)) = W1 at hW hWb ⊢
            have k0 : ∀ s : Past W1, s.1.cell? ⟨wr.heap.size, 0, none⟩ = some (.int .i64 p.life) := fun s => s.cell (hW.out.cell 0)
            have k1 : ∀ s : Past W1, s.1.cell? ⟨wr.heap.size, 1, none⟩ = some (.int .i64 p.place) := fun s => s.cell (hW.out.cell 1)
            have k2 : ∀ s : Past W1, s.1.cell? ⟨wr.heap.size, 2, none⟩ = some (.bool p.first) := fun s => s.cell (hW.out.cell 2)
            have k3 : ∀ s : Past W1, s.1.cell? ⟨wr.heap.size, 3, none⟩ = some (.bool p.last) := fun s => s.cell (hW.out.cell 3)
            have k4 : ∀ s : Past W1, s.1.cell? ⟨wr.heap.size, 4, none⟩ = some (.string p.body) := fun s => s.cell (hW.out.cell 4)
            have y0 : ∀ s : Past W1, s.1.cell? ⟨b, off, none⟩ = some (.int .i64 l0.life) := fun s => s.cell ((hWb.out.cell (World.block_lt_of_cell? _ _ z0)).trans z0)
            have y1 : ∀ s : Past W1, s.1.cell? ⟨b, off + 1, none⟩ = some (.int .i64 l0.place) := fun s => s.cell ((hWb.out.cell (World.block_lt_of_cell? _ _ z1)).trans z1)
            refine wp_region_past_lit (by kernel_rfl) (by kernel_rfl) ?_
            repeat (go_big_quiet_step ((go_at_call 101; refine Calls.past (cK.out _))))
            refine wpQuiet_nil ?_
            rintro w5 ⟨⟨_, hb5⟩, rfl⟩
            replace hb5 : Below wr.heap.size wr w5 := hWb.out.trans (hb5.mono hWb.out.size)
            go_wp2_with fail
            go_ret2
            have hbad : ¬ joinAt l0 n j p = true := by
              rw [hat.out]
              rintro ⟨q1, q2, q3, q4, q5, q6, q7⟩
              first | exact absurd q2 hlf.out | exact absurd q3 hpl.out | exact absurd (hok.out.symm.trans q1) (by simp)
            rw [hno.out hbad]
            exact ⟨rfl, hb.trans (hb5.mono hb.size)⟩
        · have e3 : (p.life == l0.life) = false := by rw [beq_eq_false_iff_ne]; exact hlf
          have e4 : (p.life != l0.life) = true := by rw [bne, e3]; rfl
          replace hlf := Lib.hid hlf
          go_wp2_with fail
          generalize (wr.alloc (Obj.cells #[.int .i64 p.life, .int .i64 p.place, .bool p.first, .bool p.last, .string p.body] 148)) = W1 at hW hWb ⊢
          have k0 : ∀ s : Past W1, s.1.cell? ⟨wr.heap.size, 0, none⟩ = some (.int .i64 p.life) := fun s => s.cell (hW.out.cell 0)
          have k1 : ∀ s : Past W1, s.1.cell? ⟨wr.heap.size, 1, none⟩ = some (.int .i64 p.place) := fun s => s.cell (hW.out.cell 1)
          have k2 : ∀ s : Past W1, s.1.cell? ⟨wr.heap.size, 2, none⟩ = some (.bool p.first) := fun s => s.cell (hW.out.cell 2)
          have k3 : ∀ s : Past W1, s.1.cell? ⟨wr.heap.size, 3, none⟩ = some (.bool p.last) := fun s => s.cell (hW.out.cell 3)
          have k4 : ∀ s : Past W1, s.1.cell? ⟨wr.heap.size, 4, none⟩ = some (.string p.body) := fun s => s.cell (hW.out.cell 4)
          have y0 : ∀ s : Past W1, s.1.cell? ⟨b, off, none⟩ = some (.int .i64 l0.life) := fun s => s.cell ((hWb.out.cell (World.block_lt_of_cell? _ _ z0)).trans z0)
          have y1 : ∀ s : Past W1, s.1.cell? ⟨b, off + 1, none⟩ = some (.int .i64 l0.place) := fun s => s.cell ((hWb.out.cell (World.block_lt_of_cell? _ _ z1)).trans z1)
          refine wp_region_past_lit (by kernel_rfl) (by kernel_rfl) ?_
          repeat (go_big_quiet_step ((go_at_call 101; refine Calls.past (cK.out _))))
          refine wpQuiet_nil ?_
          rintro w5 ⟨⟨_, hb5⟩, rfl⟩
          replace hb5 : Below wr.heap.size wr w5 := hWb.out.trans (hb5.mono hWb.out.size)
          go_wp2_with fail
          go_ret2
          have hbad : ¬ joinAt l0 n j p = true := by
            rw [hat.out]
            rintro ⟨q1, q2, q3, q4, q5, q6, q7⟩
            first | exact absurd q2 hlf.out | exact absurd q3 hpl.out | exact absurd (hok.out.symm.trans q1) (by simp)
          rw [hno.out hbad]
          exact ⟨rfl, hb.trans (hb5.mono hb.size)⟩
    · have e : j = n := by omega
      subst e
      go_wp2_with fail
      go_ret2
      have hx : joinB ps = (str (catB (ps.take j)), decide (0 < j)) := by
        have h1 := hn.out
        by_cases h : 0 < j
        · obtain ⟨l0, h0⟩ : ∃ p, ps[0]? = some p := ⟨_, List.getElem?_eq_getElem (by omega)⟩
          rw [joinB, if_pos, List.take_of_length_le (by omega)]
          · simp [h]
          · rw [joinOk_iff _ _ h0]
            intro i p hp
            rw [← h1]
            exact hall l0 h0 i p (by rw [h1]; exact (List.getElem?_eq_some_iff.1 hp).1) hp
        · have : ps = [] := List.eq_nil_of_length_eq_zero (by omega)
          subst this
          have : j = 0 := by omega
          subst this
          rfl
      rw [hx]
      exact ⟨rfl, hb⟩

end Go.Proofs.Ytlhpibniecfofaa
end
