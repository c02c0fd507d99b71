/- Texts laid together: Ring4 Root1 Octet Root2. -/
import Derived.Test.YtlhpibniecfofaaM1
import Derived.Test.YtlhpibniecfofaaM2
import Derived.Test.YtlhpibniecfofaaM3
import Derived.Test.YtlhpibniecfofaaM4
import Derived.Test.YtlhpibniecfofaaM5
import Derived.Test.YtlhpibniecfofaaM6
section
/- Rings: Add. -/
set_option linter.unusedSimpArgs false
set_option linter.unusedVariables false
namespace Go.Proofs.Ytlhpibniecfofaa
open Go.RowKit Go.Ofp
set_option linter.unusedVariables false
set_option maxRecDepth 100000
set_option maxHeartbeats 8000000

theorem lay_drop (r : Rg) (l : List Pc) (j : Nat) (p : Pc) (hp : l[j]? = some p) : (r.lay l).drop j = ((r.src : Int) + p.place % r.n, putB p) :: (r.lay l).drop (j + 1) := by
  obtain ⟨hj, rfl⟩ := List.getElem?_eq_some_iff.1 hp
  have hj' : j < (r.lay l).length := by simpa [Rg.lay_length] using hj
  rw [List.drop_eq_getElem_cons hj']
  simp [Rg.lay]
theorem writes_nil (d : Dk) : d.writes [] = (d, 0) := rfl
theorem writes_ok {d : Dk} {x : Int × List UInt8} {l : List (Int × List UInt8)} (h : (d.write x.1 x.2).2 = 0) : d.writes (x :: l) = (d.write x.1 x.2).1.writes l := by
  rw [Dk.writes, if_pos h]
theorem writes_bad {d : Dk} {x : Int × List UInt8} {l : List (Int × List UInt8)} (h : (d.write x.1 x.2).2 ≠ 0) : d.writes (x :: l) = d.write x.1 x.2 := by
  rw [Dk.writes, if_neg h]

theorem putB_le (p : Pc) : (putB p).length ≤ 64 := by
  by_cases h : p.ok = true
  · exact Nat.le_of_eq (putB_length p h)
  · rw [putB, if_neg h]
    simp

theorem rgadd_full (g bd : Nat) (sv wv : Value) (d : Dk) (r : Rg) (size k : Nat) (s : ByteArray) (w : World) (h : St w (feet (rng g bd r :: dks bd sv wv d)) (rng g bd r :: dks bd sv wv d) w) (hr : r.Ok size) (hs : size ≤ 100000) (hsz : s.size ≤ 1000000) (hc : r.free < manyB s.size) :
    Calls Try.prog 44 #[.pointer (some ⟨g, 0, none⟩), .string s] w fun e w' => e = .returned (.int .i64 8) ∧ St w (feet (rng g bd r :: dks bd sv wv d)) (rng g bd r :: dks bd sv wv d) w' := by
  have hS : St w (feet (rng g bd r :: dks bd sv wv d)) ([rng g bd r] ++ dks bd sv wv d) w := h
  have cM := fun W => many_any s.size W (by unfold maxLen; omega)
  have cF := fun W hh => rgfree_any g bd r size W hh hr hs
  have hcI : (r.free : Int) < manyB s.size := by omega
  generalize feet _ = F at hS ⊢
  generalize manyB s.size = mm at *
  generalize r.free = ff at *
  clear h hc
  replace cM := Lib.hid cM
  replace cF := Lib.hid cF
  go_enter Try.func44, Try.ntmps44
  go_wp2_with (first
    | (go_at_call 83; (with_reducible refine (cM.out _).mono ?_); rintro _ _ ⟨rfl, rfl⟩)
    | (go_at_call 51; (with_reducible refine (cF.out _ (hS.preM (A := []))).mono ?_); rintro _ w3 ⟨rfl, hb3⟩; have hS1 := hS.keepB hb3; clear hb3 hS; have hS := hS1; clear hS1))
  go_ret
  exact ⟨rfl, hS⟩
theorem rgadd_none (g bd : Nat) (sv wv : Value) (d : Dk) (r : Rg) (size k : Nat) (s : ByteArray) (w : World) (h : St w (feet (rng g bd r :: dks bd sv wv d)) (rng g bd r :: dks bd sv wv d) w) (hr : r.Ok size) (hs : size ≤ 100000) (hsz : s.size ≤ 1000000) (hc : manyB s.size ≤ r.free) (hn : cutB r.life r.tail s = []) :
    Calls Try.prog 44 #[.pointer (some ⟨g, 0, none⟩), .string s] w fun e w' => e = .returned (.int .i64 8) ∧ St w (feet (rng g bd r :: dks bd sv wv d)) (rng g bd r :: dks bd sv wv d) w' := by
  have hS : St w (feet (rng g bd r :: dks bd sv wv d)) ([rng g bd r] ++ dks bd sv wv d) w := h
  have cM := fun W => many_any s.size W (by unfold maxLen; omega)
  have cF := fun W hh => rgfree_any g bd r size W hh hr hs
  have cC := fun W => cut_any r.life r.tail s W hsz (by have := hr.life; omega) (by have := hr.top; omega)
  rw [hn] at cC
  have hcI : (manyB s.size : Int) ≤ r.free := by omega
  generalize feet _ = F at hS ⊢
  generalize manyB s.size = mm at *
  generalize r.free = ff at *
  clear h hc hn
  replace cM := Lib.hid cM
  replace cF := Lib.hid cF
  replace cC := Lib.hid cC
  go_enter Try.func44, Try.ntmps44
  go_wp2_with (first
    | (go_at_call 83; (with_reducible refine (cM.out _).mono ?_); rintro _ _ ⟨rfl, rfl⟩)
    | (go_at_call 51; (with_reducible refine (cF.out _ (hS.preM (A := []))).mono ?_); rintro _ w3 ⟨rfl, hb3⟩; have hS1 := hS.keepB hb3; clear hb3 hS; have hS := hS1; clear hS1))
  simp only [List.cons_append, List.nil_append] at hS
  refine mixs_beginC 0 (by kernel_rfl) hS rfl ?_
  clear hS
  intro w6 hS hC
  have kC := hC.kblk 0 rfl
  refine mixs_take 0 (v := ?_) rfl (by kernel_rfl) (fun _ _ _ h => h) (by kernel_rfl) (by assumption) (fun s => ?hy) ?_; case hy => (go_simp <;> with_reducible rfl)
  try simp only [List.getElem_toArray, List.getElem_cons_succ, List.getElem_cons_zero, Act.put, List.setIfInBounds_toArray, List.set_cons_zero, List.set_cons_succ]
  refine mixs_take 1 (v := ?_) rfl (by kernel_rfl) (fun _ _ _ h => h) (by kernel_rfl) (by assumption) (fun s => ?hy) ?_; case hy => (go_simp <;> with_reducible rfl)
  try simp only [List.getElem_toArray, List.getElem_cons_succ, List.getElem_cons_zero, Act.put, List.setIfInBounds_toArray, List.set_cons_zero, List.set_cons_succ]
  refine mixs_take 2 (v := ?_) rfl (by kernel_rfl) (fun _ _ _ h => h) (by kernel_rfl) (by assumption) (fun s => ?hy) ?_; case hy => (go_simp <;> with_reducible rfl)
  try simp only [List.getElem_toArray, List.getElem_cons_succ, List.getElem_cons_zero, Act.put, List.setIfInBounds_toArray, List.set_cons_zero, List.set_cons_succ]
  refine mixs_take 3 (v := ?_) rfl (by kernel_rfl) (fun _ _ _ h => h) (by kernel_rfl) (by assumption) (fun s => ?hy) ?_; case hy => (go_simp <;> with_reducible rfl)
  try simp only [List.getElem_toArray, List.getElem_cons_succ, List.getElem_cons_zero, Act.put, List.setIfInBounds_toArray, List.set_cons_zero, List.set_cons_succ]
  refine mixs_take 4 (v := ?_) rfl (by kernel_rfl) (fun _ _ _ h => h) (by kernel_rfl) (by assumption) (fun s => ?hy) ?_; case hy => (go_simp <;> with_reducible rfl)
  try simp only [List.getElem_toArray, List.getElem_cons_succ, List.getElem_cons_zero, Act.put, List.setIfInBounds_toArray, List.set_cons_zero, List.set_cons_succ]
  refine mixs_take 5 (v := ?_) rfl (by kernel_rfl) (fun _ _ _ h => h) (by kernel_rfl) (by assumption) (fun s => ?hy) ?_; case hy => (go_simp <;> with_reducible rfl)
  try simp only [List.getElem_toArray, List.getElem_cons_succ, List.getElem_cons_zero, Act.put, List.setIfInBounds_toArray, List.set_cons_zero, List.set_cons_succ]
  refine mixs_take 6 (v := ?_) rfl (by kernel_rfl) (fun _ _ _ h => h) (by kernel_rfl) (by assumption) (fun s => ?hy) ?_; case hy => (go_simp <;> with_reducible rfl)
  try simp only [List.getElem_toArray, List.getElem_cons_succ, List.getElem_cons_zero, Act.put, List.setIfInBounds_toArray, List.set_cons_zero, List.set_cons_succ]
  refine mixs_take 7 (v := ?_) rfl (by kernel_rfl) (fun _ _ _ h => h) (by kernel_rfl) (by assumption) (fun s => ?hy) ?_; case hy => (go_simp <;> with_reducible rfl)
  try simp only [List.getElem_toArray, List.getElem_cons_succ, List.getElem_cons_zero, Act.put, List.setIfInBounds_toArray, List.set_cons_zero, List.set_cons_succ]
  refine mixs_take 8 (v := ?_) rfl (by kernel_rfl) (fun _ _ _ h => h) (by kernel_rfl) (by assumption) (fun s => ?hy) ?_; case hy => (go_simp <;> with_reducible rfl)
  try simp only [List.getElem_toArray, List.getElem_cons_succ, List.getElem_cons_zero, Act.put, List.setIfInBounds_toArray, List.set_cons_zero, List.set_cons_succ]
  refine mixs_one 9 (by kernel_rfl) rfl (fun K hK => ?_)
  go_simp
  ( ((go_at_call 84; (with_reducible refine (cC.out _).mono ?_); rintro _ w3 ⟨a3, c3, rfl, -, -, hb3⟩; have hS1 := hS.keepB hb3; clear hb3 hS; have hS := hS1; clear hS1)) )
  try clear hC
  refine hK.out _ _ _ (fun _ h => h) (by first | exact hS | exact hS.drop | exact hS.drop.drop | exact hS.drop.drop.drop | exact hS.drop.drop.drop.drop | exact hS.empty | exact hS.one 0 rfl | exact hS.one 1 rfl | exact hS.one 2 rfl | exact hS.one 3 rfl | exact hS.one 4 rfl | exact hS.one 5 rfl | exact hS.one 6 rfl | exact hS.one 7 rfl | exact hS.one 8 rfl | exact hS.one 9 rfl | exact hS.one 10 rfl | exact hS.one 11 rfl | exact hS.fore2 | exact hS.fore3 | exact hS.drop.fore2) (fun hC => ?_)
  clear hK K
  try simp only [List.getElem_toArray, List.getElem_cons_succ, List.getElem_cons_zero, Act.put, List.setIfInBounds_toArray, List.set_cons_zero, List.set_cons_succ]
  refine mixs_take 10 (v := ?_) rfl (by kernel_rfl) (fun _ _ _ h => h) (by kernel_rfl) (by assumption) (fun s => ?hy) ?_; case hy => (go_simp <;> with_reducible rfl)
  try simp only [List.getElem_toArray, List.getElem_cons_succ, List.getElem_cons_zero, Act.put, List.setIfInBounds_toArray, List.set_cons_zero, List.set_cons_succ]
  refine wpAnyH_done (by kernel_rfl) ?_ _
  go_wp2_with fail
  go_ret
  exact ⟨rfl, hS⟩
theorem rgadd_main (g bd : Nat) (sv wv : Value) (d : Dk) (r : Rg) (size k : Nat) (s : ByteArray) (w : World) (h : St w (feet (rng g bd r :: dks bd sv wv d)) (rng g bd r :: dks bd sv wv d) w) (hr : r.Ok size) (hfit : d.Fit size k) (hs : size ≤ 100000) (hk : k + manyB s.size ≤ 100000) (hsz : s.size ≤ 1000000) (hc : manyB s.size ≤ r.free) (hn : cutB r.life r.tail s ≠ []) :
    Calls Try.prog 44 #[.pointer (some ⟨g, 0, none⟩), .string s] w fun e w' => e = .returned (.int .i64 (r.add d s).2.2) ∧ ∃ wv', St w (feet (rng g bd r :: dks bd sv wv d)) (rng g bd (r.add d s).1 :: dks bd sv wv' (r.add d s).2.1) w' := by
  have hS : St w (feet (rng g bd r :: dks bd sv wv d)) ([rng g bd r] ++ dks bd sv wv d) w := h
  have hadd : r.add d s = if (d.writes (r.lay (cutB r.life r.tail s))).2 = 0 then ({ r with tail := r.tail + manyB s.size }, (d.writes (r.lay (cutB r.life r.tail s))).1, 0) else (r, (d.writes (r.lay (cutB r.life r.tail s))).1, (d.writes (r.lay (cutB r.life r.tail s))).2) := by
    rw [Rg.add, if_neg fun e => e.elim (fun e => absurd e (by omega)) hn]
  obtain ⟨hlen, hcut⟩ := Rg.cut_len hn
  have hpos := manyB_pos s.size
  have hpl : ∀ (j : Nat) (p : Pc), (cutB r.life r.tail s)[j]? = some p → 0 ≤ p.place ∧ p.place ≤ 2199023255552 := by
    intro j p hp
    rw [cutB_get hcut] at hp
    split at hp
    · cases hp
      rw [cutOk_iff] at hcut
      simp only [pieceAt]
      omega
    · cases hp
  have htm : r.tail + manyB s.size ≤ 1099511627776 := by rw [cutOk_iff] at hcut; omega
  have cM := fun W => many_any s.size W (by unfold maxLen; omega)
  have cF := fun W hh => rgfree_any g bd r size W hh hr hs
  have cC := fun W => cut_new r.life r.tail s W hsz (by have := hr.life; omega) (by have := hr.top; omega)
  have cS := fun (place : Int) W hh hp => rgsector_any g bd r size place W hh hr hs hp
  rw [hlen] at cC
  obtain ⟨res, hres⟩ : ∃ res, r.add d s = res := ⟨_, rfl⟩
  rw [hres]
  rw [hres] at hadd
  generalize cutB r.life r.tail s = L at *
  have hcI : (manyB s.size : Int) ≤ r.free := by omega
  generalize feet _ = F at hS ⊢
  generalize manyB s.size = mm at *
  clear h hc hn hcut hres
  replace hadd := Lib.hid hadd
  generalize r.free = fr at *
  clear hr
  have hw2 : IntKind.i64.wrap ((r.tail : Int) + mm) = ((r.tail + mm : Nat) : Int) := by rw [IntWalk.i64_in _ (by omega)]; omega
  have hm0 : ((mm : Int) == 0) = false := by rw [beq_eq_false_iff_ne]; omega
  have ez := elem_pc
  replace cM := Lib.hid cM
  replace cF := Lib.hid cF
  replace cC := Lib.hid cC
  replace cS := Lib.hid cS
  replace hpl := Lib.hid hpl
  go_enter Try.func44, Try.ntmps44
  go_wp2_with (first
    | (go_at_call 83; (with_reducible refine (cM.out _).mono ?_); rintro _ _ ⟨rfl, rfl⟩)
    | (go_at_call 51; (with_reducible refine (cF.out _ (hS.preM (A := []))).mono ?_); rintro _ w3 ⟨rfl, hb3⟩; have hS1 := hS.keepB hb3; clear hb3 hS; have hS := hS1; clear hS1))
  simp only [List.cons_append, List.nil_append] at hS
  clear cM cF
  revert hS
  apply wp_cutxy
  · intro hS
    refine mixs_beginC 0 (by kernel_rfl) hS rfl ?_
    clear hS
    intro w6 hS hC
    have kC := hC.kblk 0 rfl
    refine mixs_take 0 (v := ?_) rfl (by kernel_rfl) (fun _ _ _ h => h) (by kernel_rfl) (by assumption) (fun s => ?hy) ?_; case hy => (go_simp <;> with_reducible rfl)
    try simp only [List.getElem_toArray, List.getElem_cons_succ, List.getElem_cons_zero, Act.put, List.setIfInBounds_toArray, List.set_cons_zero, List.set_cons_succ]
    refine mixs_take 1 (v := ?_) rfl (by kernel_rfl) (fun _ _ _ h => h) (by kernel_rfl) (by assumption) (fun s => ?hy) ?_; case hy => (go_simp <;> with_reducible rfl)
    try simp only [List.getElem_toArray, List.getElem_cons_succ, List.getElem_cons_zero, Act.put, List.setIfInBounds_toArray, List.set_cons_zero, List.set_cons_succ]
    refine mixs_take 2 (v := ?_) rfl (by kernel_rfl) (fun _ _ _ h => h) (by kernel_rfl) (by assumption) (fun s => ?hy) ?_; case hy => (go_simp <;> with_reducible rfl)
    try simp only [List.getElem_toArray, List.getElem_cons_succ, List.getElem_cons_zero, Act.put, List.setIfInBounds_toArray, List.set_cons_zero, List.set_cons_succ]
    refine mixs_take 3 (v := ?_) rfl (by kernel_rfl) (fun _ _ _ h => h) (by kernel_rfl) (by assumption) (fun s => ?hy) ?_; case hy => (go_simp <;> with_reducible rfl)
    try simp only [List.getElem_toArray, List.getElem_cons_succ, List.getElem_cons_zero, Act.put, List.setIfInBounds_toArray, List.set_cons_zero, List.set_cons_succ]
    refine mixs_take 4 (v := ?_) rfl (by kernel_rfl) (fun _ _ _ h => h) (by kernel_rfl) (by assumption) (fun s => ?hy) ?_; case hy => (go_simp <;> with_reducible rfl)
    try simp only [List.getElem_toArray, List.getElem_cons_succ, List.getElem_cons_zero, Act.put, List.setIfInBounds_toArray, List.set_cons_zero, List.set_cons_succ]
    refine mixs_take 5 (v := ?_) rfl (by kernel_rfl) (fun _ _ _ h => h) (by kernel_rfl) (by assumption) (fun s => ?hy) ?_; case hy => (go_simp <;> with_reducible rfl)
    try simp only [List.getElem_toArray, List.getElem_cons_succ, List.getElem_cons_zero, Act.put, List.setIfInBounds_toArray, List.set_cons_zero, List.set_cons_succ]
    refine mixs_take 6 (v := ?_) rfl (by kernel_rfl) (fun _ _ _ h => h) (by kernel_rfl) (by assumption) (fun s => ?hy) ?_; case hy => (go_simp <;> with_reducible rfl)
    try simp only [List.getElem_toArray, List.getElem_cons_succ, List.getElem_cons_zero, Act.put, List.setIfInBounds_toArray, List.set_cons_zero, List.set_cons_succ]
    refine mixs_take 7 (v := ?_) rfl (by kernel_rfl) (fun _ _ _ h => h) (by kernel_rfl) (by assumption) (fun s => ?hy) ?_; case hy => (go_simp <;> with_reducible rfl)
    try simp only [List.getElem_toArray, List.getElem_cons_succ, List.getElem_cons_zero, Act.put, List.setIfInBounds_toArray, List.set_cons_zero, List.set_cons_succ]
    refine mixs_take 8 (v := ?_) rfl (by kernel_rfl) (fun _ _ _ h => h) (by kernel_rfl) (by assumption) (fun s => ?hy) ?_; case hy => (go_simp <;> with_reducible rfl)
    try simp only [List.getElem_toArray, List.getElem_cons_succ, List.getElem_cons_zero, Act.put, List.setIfInBounds_toArray, List.set_cons_zero, List.set_cons_succ]
    refine mixs_one 9 (by kernel_rfl) rfl (fun K hK => ?_)
    go_simp
    ( ((go_at_call 84; (with_reducible refine (cC.out _).mono ?_); rintro _ w3 ⟨a3, c3, rfl, hp3, -, hb3, hx3⟩; have hS1 := hS.pushSl hb3 hp3 hx3; clear hS hp3 hb3 hx3; have hS := hS1; clear hS1)) )
    try clear hC
    refine hK.out _ _ _ (fun _ h => h) (by first | exact hS | exact hS.drop | exact hS.drop.drop | exact hS.drop.drop.drop | exact hS.drop.drop.drop.drop | exact hS.empty | exact hS.one 0 rfl | exact hS.one 1 rfl | exact hS.one 2 rfl | exact hS.one 3 rfl | exact hS.one 4 rfl | exact hS.one 5 rfl | exact hS.one 6 rfl | exact hS.one 7 rfl | exact hS.one 8 rfl | exact hS.one 9 rfl | exact hS.one 10 rfl | exact hS.one 11 rfl | exact hS.fore2 | exact hS.fore3 | exact hS.drop.fore2) (fun hC => ?_)
    clear hK K
    try simp only [List.getElem_toArray, List.getElem_cons_succ, List.getElem_cons_zero, Act.put, List.setIfInBounds_toArray, List.set_cons_zero, List.set_cons_succ]
    refine mixs_take 10 (v := ?_) rfl (by kernel_rfl) (fun _ _ _ h => h) (by kernel_rfl) (by assumption) (fun s => ?hy) ?_; case hy => (go_simp <;> with_reducible rfl)
    try simp only [List.getElem_toArray, List.getElem_cons_succ, List.getElem_cons_zero, Act.put, List.setIfInBounds_toArray, List.set_cons_zero, List.set_cons_succ]
    refine wpAnyH_done (by kernel_rfl) ?_ _
    exact ⟨a3, c3, rfl, hS⟩
  intro a3 c3 w3 hS
  clear cC
  have hS1 : St w F ((rng g bd r :: dks bd sv wv d) ++ [Ch.sl a3 (L.map Pc.row).flatten]) _ := St.rot (A := [_]) hS
  clear hS
  have hS := hS1
  clear hS1
  simp only [List.cons_append] at hS
  go_wp2_with fail
  go_loopg [32] mm (fun gk vi wr => ∃ (j : Nat) (dj : Dk) (wvj : Value), j + gk = mm ∧ vi = .int .i64 (j : Nat) ∧ dj.Fit size (k + j) ∧ Hid (d.writes (r.lay L) = dj.writes ((r.lay L).drop j)) ∧ St w F (rng g bd r :: (dks bd sv wvj dj ++ [Ch.sl a3 (L.map Pc.row).flatten])) wr)
  case atStart => exact ⟨0, d, wv, by omega, rfl, hfit, Lib.hid rfl, hS⟩
  case round =>
    clear hS hfit
    obtain ⟨j, dj, wvj, hj, rfl, hfit, hI, hS⟩ := hrel
    by_cases hjm : j < mm
    · obtain ⟨p, hp⟩ : ∃ p, L[j]? = some p := ⟨_, List.getElem?_eq_getElem (by omega)⟩
      have hpp := hpl.out j p hp
      have hdrop := lay_drop r L j p hp
      obtain ⟨b, o, rfl, c0, c1, c2, c3', c4⟩ := Ps.get (hS.slof 4 rfl) j p hp
      have cP := fun W => put_any p W
      have cW := fun W hh => write_any bd sv wvj dj (r.src + p.place % r.n) (str (putB p)) W hh (by rw [str_size]; exact Nat.le_trans (putB_le p) (by decide)) (by have := hfit.wait; omega) hfit.fuse
      simp only [str_data] at cW
      have hfit2 := hfit.write (r.src + p.place % r.n) (putB p)
      have cSp := fun W hh => cS.out p.place W hh hpp
      obtain ⟨dn, en, hwr⟩ : ∃ dn en, dj.write (r.src + p.place % r.n) (putB p) = (dn, en) := ⟨_, _, rfl⟩
      rw [hwr] at cW hfit2
      simp only [Pc.val, Pc.row] at cP
      simp only at cW hfit2
      rw [hdrop] at hI
      have hI0 : en = 0 → d.writes (r.lay L) = dn.writes ((r.lay L).drop (j + 1)) := fun he => by
        have := hI.out
        rw [writes_ok (by simp only; rw [hwr]; exact he)] at this
        simp only at this
        rw [hwr] at this
        exact this
      have hI1 : en ≠ 0 → d.writes (r.lay L) = (dn, en) := fun he => by
        have := hI.out
        rw [writes_bad (by simp only; rw [hwr]; exact he)] at this
        simp only at this
        rw [hwr] at this
        exact this
      clear hI hwr hdrop hfit hpp
      replace cP := Lib.hid cP
      replace cW := Lib.hid cW
      replace cSp := Lib.hid cSp
      replace hI0 := Lib.hid hI0
      replace hI1 := Lib.hid hI1
      replace hp := Lib.hid hp
      have hjn : (j : Int) < mm := by omega
      go_wp2_with (first
        | ((with_reducible refine wpList_alloc_st hS rfl rfl ez ?_); intro g4 w1 hS1; clear hS; have hS := hS1; clear hS1)
        | ((with_reducible refine wpList_storerow_st 0 hS rfl rfl rfl rfl (by kernel_rfl) rfl rfl rfl rfl ?_); intro w1 hS1; clear hS; have hS := hS1; clear hS1; try simp only [List.set_cons_zero, List.set_cons_succ, List.setIfInBounds_toArray, List.take_succ_cons, List.take_zero, List.drop_succ_cons, List.drop_zero, List.nil_append, List.cons_append, List.append_nil, List.drop_nil, List.take_nil, List.length_cons, List.length_nil, Nat.zero_add, Nat.add_zero, Nat.reduceAdd] at hS))
      clear c0 c1 c2 c3' c4
      revert hS
      apply wp_cutv
      · intro hS
        refine mixs_beginC2 (by kernel_rfl) hS ?_
        clear hS
        intro w6 hS hC
        have kC := hC.kblk 0 rfl
        have kC1 := hC.kblk 1 rfl
        refine mixs_take 0 (v := ?_) rfl (by kernel_rfl) (fun _ _ _ h => h) (by kernel_rfl) (by assumption) (fun s => ?hy) ?_; case hy => (go_simp <;> with_reducible rfl)
        try simp only [List.getElem_toArray, List.getElem_cons_succ, List.getElem_cons_zero, Act.put, List.setIfInBounds_toArray, List.set_cons_zero, List.set_cons_succ]
        refine mixs_take 1 (v := ?_) rfl (by kernel_rfl) (fun _ _ _ h => h) (by kernel_rfl) (by assumption) (fun s => ?hy) ?_; case hy => (go_simp <;> with_reducible rfl)
        try simp only [List.getElem_toArray, List.getElem_cons_succ, List.getElem_cons_zero, Act.put, List.setIfInBounds_toArray, List.set_cons_zero, List.set_cons_succ]
        refine mixs_take 2 (v := ?_) rfl (by kernel_rfl) (fun _ _ _ h => h) (by kernel_rfl) (by assumption) (fun s => ?hy) ?_; case hy => (go_simp <;> with_reducible rfl)
        try simp only [List.getElem_toArray, List.getElem_cons_succ, List.getElem_cons_zero, Act.put, List.setIfInBounds_toArray, List.set_cons_zero, List.set_cons_succ]
        refine mixs_take 3 (v := ?_) rfl (by kernel_rfl) (fun _ _ _ h => h) (by kernel_rfl) (by assumption) (fun s => ?hy) ?_; case hy => (go_simp <;> with_reducible rfl)
        try simp only [List.getElem_toArray, List.getElem_cons_succ, List.getElem_cons_zero, Act.put, List.setIfInBounds_toArray, List.set_cons_zero, List.set_cons_succ]
        refine mixs_take 4 (v := ?_) rfl (by kernel_rfl) (fun _ _ _ h => h) (by kernel_rfl) (by assumption) (fun s => ?hy) ?_; case hy => (go_simp <;> with_reducible rfl)
        try simp only [List.getElem_toArray, List.getElem_cons_succ, List.getElem_cons_zero, Act.put, List.setIfInBounds_toArray, List.set_cons_zero, List.set_cons_succ]
        refine mixs_take 5 (v := ?_) rfl (by kernel_rfl) (fun _ _ _ h => h) (by kernel_rfl) (by assumption) (fun s => ?hy) ?_; case hy => (go_simp <;> with_reducible rfl)
        try simp only [List.getElem_toArray, List.getElem_cons_succ, List.getElem_cons_zero, Act.put, List.setIfInBounds_toArray, List.set_cons_zero, List.set_cons_succ]
        refine mixs_take 6 (v := ?_) rfl (by kernel_rfl) (fun _ _ _ h => h) (by kernel_rfl) (by assumption) (fun s => ?hy) ?_; case hy => (go_simp <;> with_reducible rfl)
        try simp only [List.getElem_toArray, List.getElem_cons_succ, List.getElem_cons_zero, Act.put, List.setIfInBounds_toArray, List.set_cons_zero, List.set_cons_succ]
        refine mixs_take 8 (v := ?_) rfl (by kernel_rfl) (fun _ _ _ h => h) (by kernel_rfl) (by assumption) (fun s => ?hy) ?_; case hy => (go_simp <;> with_reducible rfl)
        try simp only [List.getElem_toArray, List.getElem_cons_succ, List.getElem_cons_zero, Act.put, List.setIfInBounds_toArray, List.set_cons_zero, List.set_cons_succ]
        refine mixs_one 7 (by kernel_rfl) rfl (fun K hK => ?_)
        go_simp
        ( (first | (go_at_call 85; (with_reducible refine (cSp.out _ (hS.preM (A := [_]) (B := [rng g bd r]) (R := _))).mono ?_); rintro _ w8 ⟨rfl, hk8⟩; have hS1 := hS.callM (A := [_]) (B := [rng g bd r]) (R := _) hk8; clear hS hk8; have hS := hS1; clear hS1; simp only [List.cons_append, List.nil_append] at hS) | (go_at_call 86; (with_reducible refine (cP.out _).mono ?_); rintro _ w9 ⟨rfl, hb9⟩; have hS1 := hS.keepB hb9; clear hb9 hS; have hS := hS1; clear hS1) | (go_at_call 17; (with_reducible refine (cW.out _ (hS.preM (A := [_, _]) (B := dks bd sv wvj dj) (R := _))).mono ?_); rintro _ w10 ⟨rfl, wv10, hk10⟩; have hS1 := hS.callM (A := [_, _]) (B := dks bd sv wvj dj) (R := _) hk10; clear hS hk10; have hS := hS1; clear hS1; simp only [List.cons_append, List.nil_append] at hS)) )
        try clear hC
        refine hK.out _ _ _ (fun _ h => h) (by first | exact hS | exact hS.drop | exact hS.drop.drop | exact hS.drop.drop.drop | exact hS.drop.drop.drop.drop | exact hS.empty | exact hS.one 0 rfl | exact hS.one 1 rfl | exact hS.one 2 rfl | exact hS.one 3 rfl | exact hS.one 4 rfl | exact hS.one 5 rfl | exact hS.one 6 rfl | exact hS.one 7 rfl | exact hS.one 8 rfl | exact hS.one 9 rfl | exact hS.one 10 rfl | exact hS.one 11 rfl | exact hS.fore2 | exact hS.fore3 | exact hS.drop.fore2) (fun hC => ?_)
        clear hK K
        try simp only [List.getElem_toArray, List.getElem_cons_succ, List.getElem_cons_zero, Act.put, List.setIfInBounds_toArray, List.set_cons_zero, List.set_cons_succ]
        refine mixs_one 9 (by kernel_rfl) rfl (fun K hK => ?_)
        go_simp
        ( (first | (go_at_call 85; (with_reducible refine (cSp.out _ (hS.preM (A := [_]) (B := [rng g bd r]) (R := _))).mono ?_); rintro _ w8 ⟨rfl, hk8⟩; have hS1 := hS.callM (A := [_]) (B := [rng g bd r]) (R := _) hk8; clear hS hk8; have hS := hS1; clear hS1; simp only [List.cons_append, List.nil_append] at hS) | (go_at_call 86; (with_reducible refine (cP.out _).mono ?_); rintro _ w9 ⟨rfl, hb9⟩; have hS1 := hS.keepB hb9; clear hb9 hS; have hS := hS1; clear hS1) | (go_at_call 17; (with_reducible refine (cW.out _ (hS.preM (A := [_, _]) (B := dks bd sv wvj dj) (R := _))).mono ?_); rintro _ w10 ⟨rfl, wv10, hk10⟩; have hS1 := hS.callM (A := [_, _]) (B := dks bd sv wvj dj) (R := _) hk10; clear hS hk10; have hS := hS1; clear hS1; simp only [List.cons_append, List.nil_append] at hS)) )
        try clear hC
        refine hK.out _ _ _ (fun _ h => h) (by first | exact hS | exact hS.drop | exact hS.drop.drop | exact hS.drop.drop.drop | exact hS.drop.drop.drop.drop | exact hS.empty | exact hS.one 0 rfl | exact hS.one 1 rfl | exact hS.one 2 rfl | exact hS.one 3 rfl | exact hS.one 4 rfl | exact hS.one 5 rfl | exact hS.one 6 rfl | exact hS.one 7 rfl | exact hS.one 8 rfl | exact hS.one 9 rfl | exact hS.one 10 rfl | exact hS.one 11 rfl | exact hS.fore2 | exact hS.fore3 | exact hS.drop.fore2) (fun hC => ?_)
        clear hK K
        try simp only [List.getElem_toArray, List.getElem_cons_succ, List.getElem_cons_zero, Act.put, List.setIfInBounds_toArray, List.set_cons_zero, List.set_cons_succ]
        refine mixs_one 10 (by kernel_rfl) rfl (fun K hK => ?_)
        go_simp
        ( (first | (go_at_call 85; (with_reducible refine (cSp.out _ (hS.preM (A := [_]) (B := [rng g bd r]) (R := _))).mono ?_); rintro _ w8 ⟨rfl, hk8⟩; have hS1 := hS.callM (A := [_]) (B := [rng g bd r]) (R := _) hk8; clear hS hk8; have hS := hS1; clear hS1; simp only [List.cons_append, List.nil_append] at hS) | (go_at_call 86; (with_reducible refine (cP.out _).mono ?_); rintro _ w9 ⟨rfl, hb9⟩; have hS1 := hS.keepB hb9; clear hb9 hS; have hS := hS1; clear hS1) | (go_at_call 17; (with_reducible refine (cW.out _ (hS.preM (A := [_, _]) (B := dks bd sv wvj dj) (R := _))).mono ?_); rintro _ w10 ⟨rfl, wv10, hk10⟩; have hS1 := hS.callM (A := [_, _]) (B := dks bd sv wvj dj) (R := _) hk10; clear hS hk10; have hS := hS1; clear hS1; simp only [List.cons_append, List.nil_append] at hS)) )
        try clear hC
        refine hK.out _ _ _ (fun _ h => h) (by first | exact hS | exact hS.drop | exact hS.drop.drop | exact hS.drop.drop.drop | exact hS.drop.drop.drop.drop | exact hS.empty | exact hS.one 0 rfl | exact hS.one 1 rfl | exact hS.one 2 rfl | exact hS.one 3 rfl | exact hS.one 4 rfl | exact hS.one 5 rfl | exact hS.one 6 rfl | exact hS.one 7 rfl | exact hS.one 8 rfl | exact hS.one 9 rfl | exact hS.one 10 rfl | exact hS.one 11 rfl | exact hS.fore2 | exact hS.fore3 | exact hS.drop.fore2) (fun hC => ?_)
        clear hK K
        try simp only [List.getElem_toArray, List.getElem_cons_succ, List.getElem_cons_zero, Act.put, List.setIfInBounds_toArray, List.set_cons_zero, List.set_cons_succ]
        refine mixs_take 11 (v := ?_) rfl (by kernel_rfl) (fun _ _ _ h => h) (by kernel_rfl) (by assumption) (fun s => ?hy) ?_; case hy => (go_simp <;> with_reducible rfl)
        try simp only [List.getElem_toArray, List.getElem_cons_succ, List.getElem_cons_zero, Act.put, List.setIfInBounds_toArray, List.set_cons_zero, List.set_cons_succ]
        refine wpAnyH_done (by kernel_rfl) ?_ _
        exact ⟨wv10, rfl, hS⟩
      intro wvn w7 hS
      by_cases he : en = 0
      · subst he
        have hJ := Lib.hid (hI0.out rfl)
        clear hI0 hI1
        go_wp2_with fail
        go_roundg (mm - (j + 1))
        case measure => omega
        case rel => exact ⟨j + 1, dn, wvn, by omega, by go_num, hfit2, hJ, hS.drop⟩
      · have hJ := hI1.out he
        clear hI0 hI1
        have hR : res = (r, dn, en) := by rw [hadd.out, hJ, if_neg he]
        clear hJ
        subst hR
        go_wp2_with fail
        go_ret
        exact ⟨rfl, wvn, by have := hS.drop; simp only [← List.cons_append] at this; exact this.fore⟩
    · have hjq : j = mm := by omega
      subst hjq
      have hJ := hI.out
      rw [List.drop_eq_nil_of_le (by rw [Rg.lay_length]; omega), writes_nil] at hJ
      have hR : res = ({ r with tail := r.tail + j }, dj, 0) := by rw [hadd.out, hJ, if_pos rfl]
      clear hI hJ
      subst hR
      go_wp2_with (first | (with_reducible refine wpList_box_st hS rfl rfl rfl ?_; intro g1 w1 hS1; clear hS; replace hS := hS1; clear hS1) | (with_reducible refine wpList_box1_st hS rfl rfl rfl ?_; intro g1 w1 hS1; clear hS; replace hS := hS1; clear hS1) | (with_reducible refine wpList_alloc_st hS rfl rfl (by assumption) ?_; intro g1 w1 hS1; clear hS; replace hS := hS1; clear hS1) | (with_reducible refine wpList_alloc1_st hS rfl rfl (by assumption) rfl ?_; intro g1 w1 hS1; clear hS; replace hS := hS1; clear hS1) | ((with_reducible refine wpList_load_st 0 hS rfl rfl rfl rfl ?_ rfl ?_); focus (simp [scalarB, go_sem]; done)) | ((with_reducible refine wpList_loadall_st 0 hS rfl rfl rfl rfl ?_ (by kernel_rfl) ?_); focus (simp [rowB, go_sem]; done)) | ((with_reducible refine wpList_store_st 0 hS rfl rfl rfl rfl (by kernel_rfl) rfl rfl ?_); intro w1 hS1; clear hS; replace hS := hS1; clear hS1; try simp only [List.set_cons_zero, List.set_cons_succ, List.setIfInBounds_toArray, List.take_succ_cons, List.take_zero, List.drop_succ_cons, List.drop_zero, List.nil_append, List.cons_append, List.append_nil, List.drop_nil, List.take_nil, List.length_cons, List.length_nil, Nat.zero_add, Nat.add_zero, Nat.reduceAdd] at hS) | ((with_reducible refine wpList_storerow_st 0 hS rfl rfl rfl rfl (by kernel_rfl) rfl rfl rfl rfl ?_); intro w1 hS1; clear hS; replace hS := hS1; clear hS1; try simp only [List.set_cons_zero, List.set_cons_succ, List.setIfInBounds_toArray, List.take_succ_cons, List.take_zero, List.drop_succ_cons, List.drop_zero, List.nil_append, List.cons_append, List.append_nil, List.drop_nil, List.take_nil, List.length_cons, List.length_nil, Nat.zero_add, Nat.add_zero, Nat.reduceAdd] at hS))
      go_ret
      exact ⟨rfl, wvj, by simp only [← List.cons_append] at hS; exact hS.fore⟩
theorem rgadd_any (g bd : Nat) (sv wv : Value) (d : Dk) (r : Rg) (size k : Nat) (s : ByteArray) (w : World) (h : St w (feet (rng g bd r :: dks bd sv wv d)) (rng g bd r :: dks bd sv wv d) w) (hr : r.Ok size) (hfit : d.Fit size k) (hs : size ≤ 100000) (hk : k + manyB s.size ≤ 100000) (hsz : s.size ≤ 1000000) :
    Calls Try.prog 44 #[.pointer (some ⟨g, 0, none⟩), .string s] w fun e w' => e = .returned (.int .i64 (r.add d s).2.2) ∧ ∃ wv', St w (feet (rng g bd r :: dks bd sv wv d)) (rng g bd (r.add d s).1 :: dks bd sv wv' (r.add d s).2.1) w' := by
  by_cases hc : r.free < manyB s.size
  · have e : r.add d s = (r, d, 8) := by rw [Rg.add, if_pos (.inl hc)]
    rw [e]
    exact (rgadd_full g bd sv wv d r size k s w h hr hs hsz hc).mono fun _ _ hk => ⟨hk.1, wv, hk.2⟩
  · by_cases hn : cutB r.life r.tail s = []
    · have e : r.add d s = (r, d, 8) := by rw [Rg.add, if_pos (.inr hn)]
      rw [e]
      exact (rgadd_none g bd sv wv d r size k s w h hr hs hsz (by omega) hn).mono fun _ _ hk => ⟨hk.1, wv, hk.2⟩
    · exact rgadd_main g bd sv wv d r size k s w h hr hfit hs hk hsz (by omega) hn
end Go.Proofs.Ytlhpibniecfofaa
end

section
/- Roots: which may be. -/
set_option linter.unusedSimpArgs false
set_option linter.unusedVariables false
namespace Go.Proofs.Ytlhpibniecfofaa
open Go.RowKit Go.Ofp
set_option linter.unusedVariables false
set_option maxRecDepth 100000
set_option maxHeartbeats 4000000

def Rt.val (x : Rt) : Value := .agg x.row.toArray

theorem tcheck_any (x : Rt) (w : World) : Calls Try.prog 29 #[.agg #[.int .i64 x.seq, .int .i64 x.life, .int .i64 x.head]] w fun e w' => e = .returned (.bool x.ok) ∧ Below w.heap.size w w' := by
  have hS := St.start w
  obtain ⟨a, b, c⟩ := x
  have i0 : ∀ W : World, (Instr.index 135 (.agg #[.int .i64 a, .int .i64 b]) (.int .i64 0)).run Try.prog W = .ok (.int .i64 a) W := fun W => by kernel_rfl
  have i1 : ∀ W : World, (Instr.index 135 (.agg #[.int .i64 a, .int .i64 b]) (.int .i64 1)).run Try.prog W = .ok (.int .i64 b) W := fun W => by kernel_rfl
  go_enter Try.func29, Try.ntmps29
  go_wp2_with (first | (with_reducible refine wpList_box_st hS rfl rfl rfl ?_; intro g1 w1 hS1; clear hS; replace hS := hS1; clear hS1) | (with_reducible refine wpList_box1_st hS rfl rfl rfl ?_; intro g1 w1 hS1; clear hS; replace hS := hS1; clear hS1) | (with_reducible refine wpList_alloc_st hS rfl rfl (by assumption) ?_; intro g1 w1 hS1; clear hS; replace hS := hS1; clear hS1) | (with_reducible refine wpList_alloc1_st hS rfl rfl (by assumption) rfl ?_; intro g1 w1 hS1; clear hS; replace hS := hS1; clear hS1) | ((with_reducible refine wpList_load_st 0 hS rfl rfl rfl rfl ?_ rfl ?_); focus (simp [scalarB, go_sem]; done)) | ((with_reducible refine wpList_loadall_st 0 hS rfl rfl rfl rfl ?_ (by kernel_rfl) ?_); focus (simp [rowB, go_sem]; done)) | ((with_reducible refine wpList_store_st 0 hS rfl rfl rfl rfl (by kernel_rfl) rfl rfl ?_); intro w1 hS1; clear hS; replace hS := hS1; clear hS1; try simp only [List.set_cons_zero, List.set_cons_succ, List.setIfInBounds_toArray, List.take_succ_cons, List.take_zero, List.drop_succ_cons, List.drop_zero, List.nil_append, List.cons_append, List.append_nil, List.drop_nil, List.take_nil, List.length_cons, List.length_nil, Nat.zero_add, Nat.add_zero, Nat.reduceAdd] at hS) | ((with_reducible refine wpList_storerow_st 0 hS rfl rfl rfl rfl (by kernel_rfl) rfl rfl rfl rfl ?_); intro w1 hS1; clear hS; replace hS := hS1; clear hS1; try simp only [List.set_cons_zero, List.set_cons_succ, List.setIfInBounds_toArray, List.take_succ_cons, List.take_zero, List.drop_succ_cons, List.drop_zero, List.nil_append, List.cons_append, List.append_nil, List.drop_nil, List.take_nil, List.length_cons, List.length_nil, Nat.zero_add, Nat.add_zero, Nat.reduceAdd] at hS))
  go_loopg [10] 2 (fun gk vx wr => ∃ j : Nat, j + gk = 2 ∧ vx = .int .i64 j ∧ Hid ((1 ≤ j → 1 ≤ a ∧ a < 4294967296) ∧ (2 ≤ j → 1 ≤ b ∧ b < 4294967296)) ∧ St w [] [Ch.blk g1 50 #[.int .i64 a, .int .i64 b, .int .i64 c]] wr)
  case atStart => exact ⟨0, rfl, rfl, Lib.hid ⟨by omega, by omega⟩, hS⟩
  case round =>
    clear hS
    obtain ⟨j, hj, rfl, hf, hS⟩ := hrel
    match j, hj with
    | 0, hj =>
      clear hf
      by_cases h1 : a < 1
      · go_wp2_with (first | (with_reducible refine wpList_box_st hS rfl rfl rfl ?_; intro g1 w1 hS1; clear hS; replace hS := hS1; clear hS1) | (with_reducible refine wpList_box1_st hS rfl rfl rfl ?_; intro g1 w1 hS1; clear hS; replace hS := hS1; clear hS1) | (with_reducible refine wpList_alloc_st hS rfl rfl (by assumption) ?_; intro g1 w1 hS1; clear hS; replace hS := hS1; clear hS1) | (with_reducible refine wpList_alloc1_st hS rfl rfl (by assumption) rfl ?_; intro g1 w1 hS1; clear hS; replace hS := hS1; clear hS1) | ((with_reducible refine wpList_load_st 0 hS rfl rfl rfl rfl ?_ rfl ?_); focus (simp [scalarB, go_sem]; done)) | ((with_reducible refine wpList_loadall_st 0 hS rfl rfl rfl rfl ?_ (by kernel_rfl) ?_); focus (simp [rowB, go_sem]; done)) | ((with_reducible refine wpList_store_st 0 hS rfl rfl rfl rfl (by kernel_rfl) rfl rfl ?_); intro w1 hS1; clear hS; replace hS := hS1; clear hS1; try simp only [List.set_cons_zero, List.set_cons_succ, List.setIfInBounds_toArray, List.take_succ_cons, List.take_zero, List.drop_succ_cons, List.drop_zero, List.nil_append, List.cons_append, List.append_nil, List.drop_nil, List.take_nil, List.length_cons, List.length_nil, Nat.zero_add, Nat.add_zero, Nat.reduceAdd] at hS) | ((with_reducible refine wpList_storerow_st 0 hS rfl rfl rfl rfl (by kernel_rfl) rfl rfl rfl rfl ?_); intro w1 hS1; clear hS; replace hS := hS1; clear hS1; try simp only [List.set_cons_zero, List.set_cons_succ, List.setIfInBounds_toArray, List.take_succ_cons, List.take_zero, List.drop_succ_cons, List.drop_zero, List.nil_append, List.cons_append, List.append_nil, List.drop_nil, List.take_nil, List.length_cons, List.length_nil, Nat.zero_add, Nat.add_zero, Nat.reduceAdd] at hS))
        go_ret
        exact ⟨by simp [Rt.ok]; omega, hS.below⟩
      · replace h1 : 1 ≤ a := by omega
        by_cases h2 : a < 4294967296
        · have hs : (a / 4294967296 != 0) = false := by rw [bne_eq_false_iff_eq]; omega
          have hd : decide (a < 1) = false := decide_eq_false (by omega)
          go_wp2_with (first | (with_reducible refine wpList_box_st hS rfl rfl rfl ?_; intro g1 w1 hS1; clear hS; replace hS := hS1; clear hS1) | (with_reducible refine wpList_box1_st hS rfl rfl rfl ?_; intro g1 w1 hS1; clear hS; replace hS := hS1; clear hS1) | (with_reducible refine wpList_alloc_st hS rfl rfl (by assumption) ?_; intro g1 w1 hS1; clear hS; replace hS := hS1; clear hS1) | (with_reducible refine wpList_alloc1_st hS rfl rfl (by assumption) rfl ?_; intro g1 w1 hS1; clear hS; replace hS := hS1; clear hS1) | ((with_reducible refine wpList_load_st 0 hS rfl rfl rfl rfl ?_ rfl ?_); focus (simp [scalarB, go_sem]; done)) | ((with_reducible refine wpList_loadall_st 0 hS rfl rfl rfl rfl ?_ (by kernel_rfl) ?_); focus (simp [rowB, go_sem]; done)) | ((with_reducible refine wpList_store_st 0 hS rfl rfl rfl rfl (by kernel_rfl) rfl rfl ?_); intro w1 hS1; clear hS; replace hS := hS1; clear hS1; try simp only [List.set_cons_zero, List.set_cons_succ, List.setIfInBounds_toArray, List.take_succ_cons, List.take_zero, List.drop_succ_cons, List.drop_zero, List.nil_append, List.cons_append, List.append_nil, List.drop_nil, List.take_nil, List.length_cons, List.length_nil, Nat.zero_add, Nat.add_zero, Nat.reduceAdd] at hS) | ((with_reducible refine wpList_storerow_st 0 hS rfl rfl rfl rfl (by kernel_rfl) rfl rfl rfl rfl ?_); intro w1 hS1; clear hS; replace hS := hS1; clear hS1; try simp only [List.set_cons_zero, List.set_cons_succ, List.setIfInBounds_toArray, List.take_succ_cons, List.take_zero, List.drop_succ_cons, List.drop_zero, List.nil_append, List.cons_append, List.append_nil, List.drop_nil, List.take_nil, List.length_cons, List.length_nil, Nat.zero_add, Nat.add_zero, Nat.reduceAdd] at hS))
          go_roundg 1
          case measure => omega
          case rel => exact ⟨1, rfl, by go_num, Lib.hid ⟨fun _ => ⟨h1, h2⟩, by omega⟩, hS⟩
        · have hs : (a / 4294967296 != 0) = true := by rw [bne_iff_ne]; omega
          have hd : decide (a < 1) = false := decide_eq_false (by omega)
          go_wp2_with (first | (with_reducible refine wpList_box_st hS rfl rfl rfl ?_; intro g1 w1 hS1; clear hS; replace hS := hS1; clear hS1) | (with_reducible refine wpList_box1_st hS rfl rfl rfl ?_; intro g1 w1 hS1; clear hS; replace hS := hS1; clear hS1) | (with_reducible refine wpList_alloc_st hS rfl rfl (by assumption) ?_; intro g1 w1 hS1; clear hS; replace hS := hS1; clear hS1) | (with_reducible refine wpList_alloc1_st hS rfl rfl (by assumption) rfl ?_; intro g1 w1 hS1; clear hS; replace hS := hS1; clear hS1) | ((with_reducible refine wpList_load_st 0 hS rfl rfl rfl rfl ?_ rfl ?_); focus (simp [scalarB, go_sem]; done)) | ((with_reducible refine wpList_loadall_st 0 hS rfl rfl rfl rfl ?_ (by kernel_rfl) ?_); focus (simp [rowB, go_sem]; done)) | ((with_reducible refine wpList_store_st 0 hS rfl rfl rfl rfl (by kernel_rfl) rfl rfl ?_); intro w1 hS1; clear hS; replace hS := hS1; clear hS1; try simp only [List.set_cons_zero, List.set_cons_succ, List.setIfInBounds_toArray, List.take_succ_cons, List.take_zero, List.drop_succ_cons, List.drop_zero, List.nil_append, List.cons_append, List.append_nil, List.drop_nil, List.take_nil, List.length_cons, List.length_nil, Nat.zero_add, Nat.add_zero, Nat.reduceAdd] at hS) | ((with_reducible refine wpList_storerow_st 0 hS rfl rfl rfl rfl (by kernel_rfl) rfl rfl rfl rfl ?_); intro w1 hS1; clear hS; replace hS := hS1; clear hS1; try simp only [List.set_cons_zero, List.set_cons_succ, List.setIfInBounds_toArray, List.take_succ_cons, List.take_zero, List.drop_succ_cons, List.drop_zero, List.nil_append, List.cons_append, List.append_nil, List.drop_nil, List.take_nil, List.length_cons, List.length_nil, Nat.zero_add, Nat.add_zero, Nat.reduceAdd] at hS))
          go_ret
          exact ⟨by simp [Rt.ok]; intros; omega, hS.below⟩
    | 1, hj =>
      obtain ⟨ha1, ha2⟩ := hf.out.1 (by omega)
      clear hf
      by_cases h1 : b < 1
      · go_wp2_with (first | (with_reducible refine wpList_box_st hS rfl rfl rfl ?_; intro g1 w1 hS1; clear hS; replace hS := hS1; clear hS1) | (with_reducible refine wpList_box1_st hS rfl rfl rfl ?_; intro g1 w1 hS1; clear hS; replace hS := hS1; clear hS1) | (with_reducible refine wpList_alloc_st hS rfl rfl (by assumption) ?_; intro g1 w1 hS1; clear hS; replace hS := hS1; clear hS1) | (with_reducible refine wpList_alloc1_st hS rfl rfl (by assumption) rfl ?_; intro g1 w1 hS1; clear hS; replace hS := hS1; clear hS1) | ((with_reducible refine wpList_load_st 0 hS rfl rfl rfl rfl ?_ rfl ?_); focus (simp [scalarB, go_sem]; done)) | ((with_reducible refine wpList_loadall_st 0 hS rfl rfl rfl rfl ?_ (by kernel_rfl) ?_); focus (simp [rowB, go_sem]; done)) | ((with_reducible refine wpList_store_st 0 hS rfl rfl rfl rfl (by kernel_rfl) rfl rfl ?_); intro w1 hS1; clear hS; replace hS := hS1; clear hS1; try simp only [List.set_cons_zero, List.set_cons_succ, List.setIfInBounds_toArray, List.take_succ_cons, List.take_zero, List.drop_succ_cons, List.drop_zero, List.nil_append, List.cons_append, List.append_nil, List.drop_nil, List.take_nil, List.length_cons, List.length_nil, Nat.zero_add, Nat.add_zero, Nat.reduceAdd] at hS) | ((with_reducible refine wpList_storerow_st 0 hS rfl rfl rfl rfl (by kernel_rfl) rfl rfl rfl rfl ?_); intro w1 hS1; clear hS; replace hS := hS1; clear hS1; try simp only [List.set_cons_zero, List.set_cons_succ, List.setIfInBounds_toArray, List.take_succ_cons, List.take_zero, List.drop_succ_cons, List.drop_zero, List.nil_append, List.cons_append, List.append_nil, List.drop_nil, List.take_nil, List.length_cons, List.length_nil, Nat.zero_add, Nat.add_zero, Nat.reduceAdd] at hS))
        go_ret
        exact ⟨by simp [Rt.ok]; omega, hS.below⟩
      · replace h1 : 1 ≤ b := by omega
        by_cases h2 : b < 4294967296
        · have hs : (b / 4294967296 != 0) = false := by rw [bne_eq_false_iff_eq]; omega
          have hd : decide (b < 1) = false := decide_eq_false (by omega)
          go_wp2_with (first | (with_reducible refine wpList_box_st hS rfl rfl rfl ?_; intro g1 w1 hS1; clear hS; replace hS := hS1; clear hS1) | (with_reducible refine wpList_box1_st hS rfl rfl rfl ?_; intro g1 w1 hS1; clear hS; replace hS := hS1; clear hS1) | (with_reducible refine wpList_alloc_st hS rfl rfl (by assumption) ?_; intro g1 w1 hS1; clear hS; replace hS := hS1; clear hS1) | (with_reducible refine wpList_alloc1_st hS rfl rfl (by assumption) rfl ?_; intro g1 w1 hS1; clear hS; replace hS := hS1; clear hS1) | ((with_reducible refine wpList_load_st 0 hS rfl rfl rfl rfl ?_ rfl ?_); focus (simp [scalarB, go_sem]; done)) | ((with_reducible refine wpList_loadall_st 0 hS rfl rfl rfl rfl ?_ (by kernel_rfl) ?_); focus (simp [rowB, go_sem]; done)) | ((with_reducible refine wpList_store_st 0 hS rfl rfl rfl rfl (by kernel_rfl) rfl rfl ?_); intro w1 hS1; clear hS; replace hS := hS1; clear hS1; try simp only [List.set_cons_zero, List.set_cons_succ, List.setIfInBounds_toArray, List.take_succ_cons, List.take_zero, List.drop_succ_cons, List.drop_zero, List.nil_append, List.cons_append, List.append_nil, List.drop_nil, List.take_nil, List.length_cons, List.length_nil, Nat.zero_add, Nat.add_zero, Nat.reduceAdd] at hS) | ((with_reducible refine wpList_storerow_st 0 hS rfl rfl rfl rfl (by kernel_rfl) rfl rfl rfl rfl ?_); intro w1 hS1; clear hS; replace hS := hS1; clear hS1; try simp only [List.set_cons_zero, List.set_cons_succ, List.setIfInBounds_toArray, List.take_succ_cons, List.take_zero, List.drop_succ_cons, List.drop_zero, List.nil_append, List.cons_append, List.append_nil, List.drop_nil, List.take_nil, List.length_cons, List.length_nil, Nat.zero_add, Nat.add_zero, Nat.reduceAdd] at hS))
          go_roundg 0
          case measure => omega
          case rel => exact ⟨2, rfl, by go_num, Lib.hid ⟨fun _ => ⟨ha1, ha2⟩, fun _ => ⟨h1, h2⟩⟩, hS⟩
        · have hs : (b / 4294967296 != 0) = true := by rw [bne_iff_ne]; omega
          have hd : decide (b < 1) = false := decide_eq_false (by omega)
          go_wp2_with (first | (with_reducible refine wpList_box_st hS rfl rfl rfl ?_; intro g1 w1 hS1; clear hS; replace hS := hS1; clear hS1) | (with_reducible refine wpList_box1_st hS rfl rfl rfl ?_; intro g1 w1 hS1; clear hS; replace hS := hS1; clear hS1) | (with_reducible refine wpList_alloc_st hS rfl rfl (by assumption) ?_; intro g1 w1 hS1; clear hS; replace hS := hS1; clear hS1) | (with_reducible refine wpList_alloc1_st hS rfl rfl (by assumption) rfl ?_; intro g1 w1 hS1; clear hS; replace hS := hS1; clear hS1) | ((with_reducible refine wpList_load_st 0 hS rfl rfl rfl rfl ?_ rfl ?_); focus (simp [scalarB, go_sem]; done)) | ((with_reducible refine wpList_loadall_st 0 hS rfl rfl rfl rfl ?_ (by kernel_rfl) ?_); focus (simp [rowB, go_sem]; done)) | ((with_reducible refine wpList_store_st 0 hS rfl rfl rfl rfl (by kernel_rfl) rfl rfl ?_); intro w1 hS1; clear hS; replace hS := hS1; clear hS1; try simp only [List.set_cons_zero, List.set_cons_succ, List.setIfInBounds_toArray, List.take_succ_cons, List.take_zero, List.drop_succ_cons, List.drop_zero, List.nil_append, List.cons_append, List.append_nil, List.drop_nil, List.take_nil, List.length_cons, List.length_nil, Nat.zero_add, Nat.add_zero, Nat.reduceAdd] at hS) | ((with_reducible refine wpList_storerow_st 0 hS rfl rfl rfl rfl (by kernel_rfl) rfl rfl rfl rfl ?_); intro w1 hS1; clear hS; replace hS := hS1; clear hS1; try simp only [List.set_cons_zero, List.set_cons_succ, List.setIfInBounds_toArray, List.take_succ_cons, List.take_zero, List.drop_succ_cons, List.drop_zero, List.nil_append, List.cons_append, List.append_nil, List.drop_nil, List.take_nil, List.length_cons, List.length_nil, Nat.zero_add, Nat.add_zero, Nat.reduceAdd] at hS))
          go_ret
          exact ⟨by simp [Rt.ok]; intros; omega, hS.below⟩
    | 2, hj =>
      obtain ⟨ha1, ha2⟩ := hf.out.1 (by omega)
      obtain ⟨hb1, hb2⟩ := hf.out.2 (by omega)
      clear hf
      have e : (⟨a, b, c⟩ : Rt).ok = (decide (0 ≤ c) && decide (c < 1099511627776)) := by simp [Rt.ok, ha1, ha2, hb1, hb2]
      replace e := Lib.hid e
      by_cases h1 : 0 ≤ c
      · have hcl := hS.cell 0 rfl
        go_wp2_with (first | (with_reducible refine wpList_box_st hS rfl rfl rfl ?_; intro g1 w1 hS1; clear hS; replace hS := hS1; clear hS1) | (with_reducible refine wpList_box1_st hS rfl rfl rfl ?_; intro g1 w1 hS1; clear hS; replace hS := hS1; clear hS1) | (with_reducible refine wpList_alloc_st hS rfl rfl (by assumption) ?_; intro g1 w1 hS1; clear hS; replace hS := hS1; clear hS1) | (with_reducible refine wpList_alloc1_st hS rfl rfl (by assumption) rfl ?_; intro g1 w1 hS1; clear hS; replace hS := hS1; clear hS1) | ((with_reducible refine wpList_load_st 0 hS rfl rfl rfl rfl ?_ rfl ?_); focus (simp [scalarB, go_sem]; done)) | ((with_reducible refine wpList_loadall_st 0 hS rfl rfl rfl rfl ?_ (by kernel_rfl) ?_); focus (simp [rowB, go_sem]; done)) | ((with_reducible refine wpList_store_st 0 hS rfl rfl rfl rfl (by kernel_rfl) rfl rfl ?_); intro w1 hS1; clear hS; replace hS := hS1; clear hS1; try simp only [List.set_cons_zero, List.set_cons_succ, List.setIfInBounds_toArray, List.take_succ_cons, List.take_zero, List.drop_succ_cons, List.drop_zero, List.nil_append, List.cons_append, List.append_nil, List.drop_nil, List.take_nil, List.length_cons, List.length_nil, Nat.zero_add, Nat.add_zero, Nat.reduceAdd] at hS) | ((with_reducible refine wpList_storerow_st 0 hS rfl rfl rfl rfl (by kernel_rfl) rfl rfl rfl rfl ?_); intro w1 hS1; clear hS; replace hS := hS1; clear hS1; try simp only [List.set_cons_zero, List.set_cons_succ, List.setIfInBounds_toArray, List.take_succ_cons, List.take_zero, List.drop_succ_cons, List.drop_zero, List.nil_append, List.cons_append, List.append_nil, List.drop_nil, List.take_nil, List.length_cons, List.length_nil, Nat.zero_add, Nat.add_zero, Nat.reduceAdd] at hS))
        go_ret
        exact ⟨by rw [e.out]; simp; try omega, hS.below⟩
      · have h2 : c < 0 := by omega
        go_wp2_with (first | (with_reducible refine wpList_box_st hS rfl rfl rfl ?_; intro g1 w1 hS1; clear hS; replace hS := hS1; clear hS1) | (with_reducible refine wpList_box1_st hS rfl rfl rfl ?_; intro g1 w1 hS1; clear hS; replace hS := hS1; clear hS1) | (with_reducible refine wpList_alloc_st hS rfl rfl (by assumption) ?_; intro g1 w1 hS1; clear hS; replace hS := hS1; clear hS1) | (with_reducible refine wpList_alloc1_st hS rfl rfl (by assumption) rfl ?_; intro g1 w1 hS1; clear hS; replace hS := hS1; clear hS1) | ((with_reducible refine wpList_load_st 0 hS rfl rfl rfl rfl ?_ rfl ?_); focus (simp [scalarB, go_sem]; done)) | ((with_reducible refine wpList_loadall_st 0 hS rfl rfl rfl rfl ?_ (by kernel_rfl) ?_); focus (simp [rowB, go_sem]; done)) | ((with_reducible refine wpList_store_st 0 hS rfl rfl rfl rfl (by kernel_rfl) rfl rfl ?_); intro w1 hS1; clear hS; replace hS := hS1; clear hS1; try simp only [List.set_cons_zero, List.set_cons_succ, List.setIfInBounds_toArray, List.take_succ_cons, List.take_zero, List.drop_succ_cons, List.drop_zero, List.nil_append, List.cons_append, List.append_nil, List.drop_nil, List.take_nil, List.length_cons, List.length_nil, Nat.zero_add, Nat.add_zero, Nat.reduceAdd] at hS) | ((with_reducible refine wpList_storerow_st 0 hS rfl rfl rfl rfl (by kernel_rfl) rfl rfl rfl rfl ?_); intro w1 hS1; clear hS; replace hS := hS1; clear hS1; try simp only [List.set_cons_zero, List.set_cons_succ, List.setIfInBounds_toArray, List.take_succ_cons, List.take_zero, List.drop_succ_cons, List.drop_zero, List.nil_append, List.cons_append, List.append_nil, List.drop_nil, List.take_nil, List.length_cons, List.length_nil, Nat.zero_add, Nat.add_zero, Nat.reduceAdd] at hS))
        go_ret
        exact ⟨by rw [e.out]; simp; try omega, hS.below⟩
    | j + 3, hj => omega

end Go.Proofs.Ytlhpibniecfofaa
end

section
/- The walks of package octet (numbers, texts, truths put behind bytes) and of its reference. -/
set_option linter.unusedSimpArgs false
set_option linter.unusedVariables false
namespace Go.Proofs.Ytlhpibniecfofaa
open Go.RowKit Go.Ofp

theorem clamp_cases (n : Int) : (n < 0 ∧ clampN n = 0) ∨ (0 ≤ n ∧ n ≤ 1099511627776 ∧ (clampN n : Int) = n) ∨ (1099511627776 < n ∧ clampN n = 1099511627776) := by
  unfold clampN maxNum
  omega

set_option maxRecDepth 10000 in
set_option maxHeartbeats 1000000 in
theorem num_any (a : Option Addr) (l : List UInt8) (m cap : Nat) (n : Int) (w : World) (hm : m = l.length) (ha : Sl w a (l.map vb)) (hl : m ≤ 1000000) (hcap : m ≤ cap) :
    Calls Try.prog 97 #[.slice a m cap, .int .i64 n] w fun e w' => ∃ v, e = .returned v ∧ w'.ownsRow w.heap.size 5 1 v (m + (numB (clampN n)).length) ((l ++ numB (clampN n)).map vb) ∧ Below w.heap.size w w' := by
  replace hm := Lib.hid hm
  replace ha := Lib.hid ha
  obtain ⟨c, hc⟩ : ∃ c, c = clampN n := ⟨_, rfl⟩
  have hcl : c ≤ 1099511627776 := by rw [hc]; exact clampN_le n
  rw [← hc]
  have hcc := clamp_cases n
  rw [← hc] at hcc
  clear hc
  have hs : ∀ W : World, ∀ v : Int, True := fun _ _ => trivial
  clear hs
  rcases hcc with ⟨h0, rfl⟩ | ⟨h0, h1, rfl⟩ | ⟨h1, rfl⟩
  · go_enter Try.func97, Try.ntmps97
    go_wp2_with fail
    go_loopg [0, 5] 0 (fun gk v i wr => ∃ (d : Nat) (pre : List UInt8), d = gk ∧ d ≤ 1099511627776 ∧ i = .int .i64 d ∧ Full wr w.heap.size 5 1 v (m + pre.length) ((l ++ pre).map vb) ∧ Below w.heap.size w wr ∧ pre ++ numB d = numB 0 ∧ pre.length ≤ 6)
    case atStart => exact ⟨0, [], rfl, by decide, rfl, by simpa using Full.full ha.out (by simp [hm.out]), Below.refl _ _, rfl, by decide⟩
    case round =>
      obtain ⟨d, pre, rfl, hd, rfl, hf, hb, hpre, hpl⟩ := hrel
      have hlen := congrArg List.length hpre
      rw [List.length_append] at hlen
      have hs6 := numB_six 0 (by decide)
      replace hpre := Lib.hid hpre
      by_cases hlt : d < 128
      · rw [numB_lt d hlt] at hlen
        simp only [List.length_singleton] at hlen
        replace hlen := Lib.hid hlen
        replace hf := Lib.hid hf
        have hvb := Lib.hid (vb_small d (by omega))
        go_wp2_with (at_builtin; refine wpList_app_full (s := .tmp 25) (x := .tmp 28) rfl rfl Try.underlying127 elem_u8 (hf.out.alloc _) rfl (Src.slice Try.underlying127 (Sl.new _ _ _ _) (by simp)) rfl (by simp [Value.oneCell']) (by decide) (by omega) (by unfold maxLen; omega) (by have := hb.size; simp; omega) ?_; intro v' w' ho' hb')
        go_ret
        refine ⟨_, rfl, ?_, (hb.alloc hb.size _).trans hb'⟩
        have := hpre.out
        rw [numB_lt d hlt] at this
        have e1 : List.map vb l ++ List.map vb (numB 0) = List.map vb (l ++ pre) ++ [.int .u8 (d : Int)] := by rw [← this, ← hvb.out]; simp
        have e2 : m + (numB 0).length = m + pre.length + 1 := by rw [← this, List.length_append, Nat.add_assoc]; rfl
        rw [e1, e2]
        exact ho'
      · have hge := numB_ge d hlt
        rw [hge] at hlen
        simp only [List.length_cons] at hlen
        have hlp : 0 < (numB (d / 128)).length := by
          by_cases h : d / 128 < 128
          · rw [numB_lt _ h]; simp
          · rw [numB_ge _ h]; simp
        have hpl5 : pre.length ≤ 5 := by omega
        have hdiv : (d : Int) / (128 : Int) = ((d / 128 : Nat) : Int) := by omega
        have hor := or_high d
        have hvb := Lib.hid (vb_small (d % 128 + 128) (by omega))
        replace hlen := Lib.hid hlen
        replace hf := Lib.hid hf
        replace hge := Lib.hid hge
        replace hor := Lib.hid hor
        replace hdiv := Lib.hid hdiv
        clear hlp
        go_wp2_with (at_builtin; refine wpList_app_full (s := .tmp 17) (x := .tmp 21) rfl rfl Try.underlying127 elem_u8 (hf.out.alloc _) rfl (Src.slice Try.underlying127 (Sl.new _ _ _ _) (by simp)) rfl (by simp [Value.oneCell']) (by decide) (by omega) (by unfold maxLen; omega) (by have := hb.size; simp; omega) ?_; intro v' w' ho' hb')
        go_roundg (d / 128)
        case measure => omega
        case rel =>
          refine ⟨d / 128, pre ++ [UInt8.ofNat (d % 128 + 128)], rfl, by omega, congrArg (Value.int .i64) hdiv.out, ?_, (hb.alloc hb.size _).trans hb', ?_, by simp; omega⟩
          · refine Full.own ?_
            rw [hor.out] at ho'
            rw [← List.append_assoc, List.map_append, List.map_cons, List.map_nil, hvb.out, List.length_append, List.length_singleton, ← Nat.add_assoc]
            exact ho'
          · have := hpre.out
            rw [hge.out] at this
            rw [← this]
            simp

  · go_enter Try.func97, Try.ntmps97
    go_wp2_with fail
    go_loopg [0, 5] c (fun gk v i wr => ∃ (d : Nat) (pre : List UInt8), d = gk ∧ d ≤ 1099511627776 ∧ i = .int .i64 d ∧ Full wr w.heap.size 5 1 v (m + pre.length) ((l ++ pre).map vb) ∧ Below w.heap.size w wr ∧ pre ++ numB d = numB c ∧ pre.length ≤ 6)
    case atStart => exact ⟨c, [], rfl, hcl, rfl, by simpa using Full.full ha.out (by simp [hm.out]), Below.refl _ _, rfl, by decide⟩
    case round =>
      obtain ⟨d, pre, rfl, hd, rfl, hf, hb, hpre, hpl⟩ := hrel
      have hlen := congrArg List.length hpre
      rw [List.length_append] at hlen
      have hs6 := numB_six c hcl
      replace hpre := Lib.hid hpre
      by_cases hlt : d < 128
      · rw [numB_lt d hlt] at hlen
        simp only [List.length_singleton] at hlen
        replace hlen := Lib.hid hlen
        replace hf := Lib.hid hf
        have hvb := Lib.hid (vb_small d (by omega))
        go_wp2_with (at_builtin; refine wpList_app_full (s := .tmp 25) (x := .tmp 28) rfl rfl Try.underlying127 elem_u8 (hf.out.alloc _) rfl (Src.slice Try.underlying127 (Sl.new _ _ _ _) (by simp)) rfl (by simp [Value.oneCell']) (by decide) (by omega) (by unfold maxLen; omega) (by have := hb.size; simp; omega) ?_; intro v' w' ho' hb')
        go_ret
        refine ⟨_, rfl, ?_, (hb.alloc hb.size _).trans hb'⟩
        have := hpre.out
        rw [numB_lt d hlt] at this
        have e1 : List.map vb l ++ List.map vb (numB c) = List.map vb (l ++ pre) ++ [.int .u8 (d : Int)] := by rw [← this, ← hvb.out]; simp
        have e2 : m + (numB c).length = m + pre.length + 1 := by rw [← this, List.length_append, Nat.add_assoc]; rfl
        rw [e1, e2]
        exact ho'
      · have hge := numB_ge d hlt
        rw [hge] at hlen
        simp only [List.length_cons] at hlen
        have hlp : 0 < (numB (d / 128)).length := by
          by_cases h : d / 128 < 128
          · rw [numB_lt _ h]; simp
          · rw [numB_ge _ h]; simp
        have hpl5 : pre.length ≤ 5 := by omega
        have hdiv : (d : Int) / (128 : Int) = ((d / 128 : Nat) : Int) := by omega
        have hor := or_high d
        have hvb := Lib.hid (vb_small (d % 128 + 128) (by omega))
        replace hlen := Lib.hid hlen
        replace hf := Lib.hid hf
        replace hge := Lib.hid hge
        replace hor := Lib.hid hor
        replace hdiv := Lib.hid hdiv
        clear hlp
        go_wp2_with (at_builtin; refine wpList_app_full (s := .tmp 17) (x := .tmp 21) rfl rfl Try.underlying127 elem_u8 (hf.out.alloc _) rfl (Src.slice Try.underlying127 (Sl.new _ _ _ _) (by simp)) rfl (by simp [Value.oneCell']) (by decide) (by omega) (by unfold maxLen; omega) (by have := hb.size; simp; omega) ?_; intro v' w' ho' hb')
        go_roundg (d / 128)
        case measure => omega
        case rel =>
          refine ⟨d / 128, pre ++ [UInt8.ofNat (d % 128 + 128)], rfl, by omega, congrArg (Value.int .i64) hdiv.out, ?_, (hb.alloc hb.size _).trans hb', ?_, by simp; omega⟩
          · refine Full.own ?_
            rw [hor.out] at ho'
            rw [← List.append_assoc, List.map_append, List.map_cons, List.map_nil, hvb.out, List.length_append, List.length_singleton, ← Nat.add_assoc]
            exact ho'
          · have := hpre.out
            rw [hge.out] at this
            rw [← this]
            simp

  · go_enter Try.func97, Try.ntmps97
    go_wp2_with fail
    go_loopg [0, 5] 1099511627776 (fun gk v i wr => ∃ (d : Nat) (pre : List UInt8), d = gk ∧ d ≤ 1099511627776 ∧ i = .int .i64 d ∧ Full wr w.heap.size 5 1 v (m + pre.length) ((l ++ pre).map vb) ∧ Below w.heap.size w wr ∧ pre ++ numB d = numB 1099511627776 ∧ pre.length ≤ 6)
    case atStart => exact ⟨1099511627776, [], rfl, by decide, rfl, by simpa using Full.full ha.out (by simp [hm.out]), Below.refl _ _, rfl, by decide⟩
    case round =>
      obtain ⟨d, pre, rfl, hd, rfl, hf, hb, hpre, hpl⟩ := hrel
      have hlen := congrArg List.length hpre
      rw [List.length_append] at hlen
      have hs6 := numB_six 1099511627776 (by decide)
      replace hpre := Lib.hid hpre
      by_cases hlt : d < 128
      · rw [numB_lt d hlt] at hlen
        simp only [List.length_singleton] at hlen
        replace hlen := Lib.hid hlen
        replace hf := Lib.hid hf
        have hvb := Lib.hid (vb_small d (by omega))
        go_wp2_with (at_builtin; refine wpList_app_full (s := .tmp 25) (x := .tmp 28) rfl rfl Try.underlying127 elem_u8 (hf.out.alloc _) rfl (Src.slice Try.underlying127 (Sl.new _ _ _ _) (by simp)) rfl (by simp [Value.oneCell']) (by decide) (by omega) (by unfold maxLen; omega) (by have := hb.size; simp; omega) ?_; intro v' w' ho' hb')
        go_ret
        refine ⟨_, rfl, ?_, (hb.alloc hb.size _).trans hb'⟩
        have := hpre.out
        rw [numB_lt d hlt] at this
        have e1 : List.map vb l ++ List.map vb (numB 1099511627776) = List.map vb (l ++ pre) ++ [.int .u8 (d : Int)] := by rw [← this, ← hvb.out]; simp
        have e2 : m + (numB 1099511627776).length = m + pre.length + 1 := by rw [← this, List.length_append, Nat.add_assoc]; rfl
        rw [e1, e2]
        exact ho'
      · have hge := numB_ge d hlt
        rw [hge] at hlen
        simp only [List.length_cons] at hlen
        have hlp : 0 < (numB (d / 128)).length := by
          by_cases h : d / 128 < 128
          · rw [numB_lt _ h]; simp
          · rw [numB_ge _ h]; simp
        have hpl5 : pre.length ≤ 5 := by omega
        have hdiv : (d : Int) / (128 : Int) = ((d / 128 : Nat) : Int) := by omega
        have hor := or_high d
        have hvb := Lib.hid (vb_small (d % 128 + 128) (by omega))
        replace hlen := Lib.hid hlen
        replace hf := Lib.hid hf
        replace hge := Lib.hid hge
        replace hor := Lib.hid hor
        replace hdiv := Lib.hid hdiv
        clear hlp
        go_wp2_with (at_builtin; refine wpList_app_full (s := .tmp 17) (x := .tmp 21) rfl rfl Try.underlying127 elem_u8 (hf.out.alloc _) rfl (Src.slice Try.underlying127 (Sl.new _ _ _ _) (by simp)) rfl (by simp [Value.oneCell']) (by decide) (by omega) (by unfold maxLen; omega) (by have := hb.size; simp; omega) ?_; intro v' w' ho' hb')
        go_roundg (d / 128)
        case measure => omega
        case rel =>
          refine ⟨d / 128, pre ++ [UInt8.ofNat (d % 128 + 128)], rfl, by omega, congrArg (Value.int .i64) hdiv.out, ?_, (hb.alloc hb.size _).trans hb', ?_, by simp; omega⟩
          · refine Full.own ?_
            rw [hor.out] at ho'
            rw [← List.append_assoc, List.map_append, List.map_cons, List.map_nil, hvb.out, List.length_append, List.length_singleton, ← Nat.add_assoc]
            exact ho'
          · have := hpre.out
            rw [hge.out] at this
            rw [← this]
            simp

end Go.Proofs.Ytlhpibniecfofaa
end

section
/- Roots: their sectors. -/
set_option linter.unusedSimpArgs false
set_option linter.unusedVariables false
namespace Go.Proofs.Ytlhpibniecfofaa
open Go.RowKit Go.Ofp
set_option linter.unusedVariables false
set_option maxRecDepth 100000
set_option maxHeartbeats 4000000

def zeros (n : Nat) : List UInt8 := List.replicate n 0
theorem elem_sector : Elem Try.prog 130 (.agg ((zeros 64).map vb).toArray) 64 64 := Elem.mk (by kernel_rfl) (by rfl) (by decide)
theorem laid_front (l : List UInt8) (h : l.length ≤ 60) : ((((zeros 64).map vb).toArray.toList.take 0 ++ l.map vb ++ ((zeros 64).map vb).toArray.toList.drop (0 + l.length)).toArray : Array Value) = ((l ++ zeros (60 - l.length) ++ zeros 4).map vb).toArray := by
  have e : zeros 64 = zeros l.length ++ (zeros (60 - l.length) ++ zeros 4) := by
    unfold zeros
    rw [List.replicate_append_replicate, List.replicate_append_replicate]
    congr 1
    omega
  simp only [List.take_zero, List.nil_append, Nat.zero_add]
  rw [e]
  simp [zeros]

theorem of_root (x : Rt) (w : World) : Calls Try.prog 76 #[.agg #[.int .i64 x.seq, .int .i64 x.life, .int .i64 x.head]] w fun e w' => e = .returned (.agg (x.secB.map vb).toArray) ∧ Below w.heap.size w w' := by
  have hS := St.start w
  have es := elem_sector
  have eb : Elem Try.prog 5 (.int .u8 0) 1 1 := elem_u8
  generalize hz : ((zeros 64).map vb).toArray = z64 at es
  have hz0 := hz
  obtain ⟨c1, hc1⟩ : ∃ c, clampN x.seq = c := ⟨_, rfl⟩
  obtain ⟨c2, hc2⟩ : ∃ c, clampN x.life = c := ⟨_, rfl⟩
  obtain ⟨c3, hc3⟩ : ∃ c, clampN x.head = c := ⟨_, rfl⟩
  have l1 := numB_six c1 (hc1 ▸ clampN_le _)
  have l2 := numB_six c2 (hc2 ▸ clampN_le _)
  have l3 := numB_six c3 (hc3 ▸ clampN_le _)
  have n1 := fun (a : Option Addr) cap W h hc => num_any a [114, 111, 111, 116] 4 cap x.seq W rfl h (by omega) hc
  have n2 := fun (a : Option Addr) m cap W hm h hl hc => num_any a ([114, 111, 111, 116] ++ numB c1) m cap x.life W hm h hl hc
  have n3 := fun (a : Option Addr) m cap W hm h hl hc => num_any a ([114, 111, 111, 116] ++ numB c1 ++ numB c2) m cap x.head W hm h hl hc
  rw [hc1] at n1
  rw [hc2] at n2
  rw [hc3] at n3
  obtain ⟨F1, hF1⟩ : ∃ l, [114, 111, 111, 116] ++ numB c1 = l := ⟨_, rfl⟩
  obtain ⟨F2, hF2⟩ : ∃ l, F1 ++ numB c2 = l := ⟨_, rfl⟩
  obtain ⟨F3, hF3⟩ : ∃ l, F2 ++ numB c3 = l := ⟨_, rfl⟩
  rw [hF1] at n1 n2 n3
  rw [hF2] at n2 n3
  rw [hF3] at n3
  have m1 : 4 + (numB c1).length = F1.length := by rw [← hF1]; simp; omega
  have m2 : F1.length + (numB c2).length = F2.length := by rw [← hF2]; simp
  have m3 : F2.length + (numB c3).length = F3.length := by rw [← hF3]; simp
  rw [m1] at n1
  have hfr : F3 = x.front := by rw [← hF3, ← hF2, ← hF1, ← hc1, ← hc2, ← hc3]; rfl
  have hlf := x.front_length
  rw [← hfr] at hlf
  have hbody : x.body = F3 ++ zeros (60 - F3.length) := by rw [hfr]; rfl
  have hbl := x.body_length
  have hlaid := laid_front F3 (by omega)
  rw [hz, ← hbody] at hlaid
  have hsl := x.secB_length
  have hseal := fun (a : Option Addr) cap W h => seal_any a x.body cap W h (by omega)
  rw [show sealed x.body = x.secB from rfl, hbl] at hseal
  have hall : ((z64.toList.take 0 ++ x.secB.map vb ++ z64.toList.drop (0 + 64)).toArray : Array Value) = (x.secB.map vb).toArray := by
    rw [← hz]
    simp [zeros]
  have hsz64 : z64.size = 64 := by rw [← hz]; simp [zeros]
  have hbt : ((x.body ++ zeros 4).map vb).take 60 = x.body.map vb := by rw [List.map_append, List.take_left' (by simp [hbl])]
  have hbuild : ∀ W : World, (Instr.buildSlice 127 4 [(0, Value.int .u8 114), (1, .int .u8 111), (2, .int .u8 111), (3, .int .u8 116)].toArray).run Try.prog W = .ok (.slice (some ⟨W.heap.size, 0, none⟩) 4 4) (W.alloc (.cells (List.map vb [114, 111, 111, 116]).toArray 5)) := fun W => by kernel_rfl
  replace n2 := fun (a : Option Addr) cap W h hc => n2 a F1.length cap W rfl h (by omega) hc
  replace n3 := fun (a : Option Addr) cap W h hc => n3 a F2.length cap W rfl h (by omega) hc
  rw [m2] at n2
  rw [m3] at n3
  replace hseal : ∀ (a : Option Addr) (cap : Nat) (W : World), Sl W a (x.body.map vb) → Calls Try.prog 98 #[.slice a 60 cap] W fun e w' => ∃ v, e = .returned v ∧ w'.ownsRow W.heap.size 5 1 v 64 (x.secB.map vb) ∧ Below W.heap.size W w' := hseal
  have hrow : rowB Try.prog 130 = true := by simp [rowB, go_sem]
  have hszs : sizeB Try.prog 130 (x.secB.map vb).toArray.size = true := by rw [List.size_toArray, List.length_map, hsl]; kernel_rfl
  have hone := vb_one x.secB
  have hone3 := vb_one F3
  have hsl2 : (x.secB.map vb).length = 64 := by rw [List.length_map, hsl]
  have hpre : ∀ (W : World) (a : Option Addr), Sl W a ((x.body ++ zeros 4).map vb) → Sl W a (x.body.map vb) := by
    intro W a h i hi
    rw [List.map_append] at h
    obtain ⟨b, off, e, hc⟩ := h i (by simp at hi ⊢; omega)
    exact ⟨b, off, e, by rw [hc, List.getElem_append_left (by simpa using hi)]⟩
  generalize x.secB = SB at *
  generalize hB : x.body = B at *
  have hone' : (SB.map vb).all Value.oneCell' = true := List.all_eq_true.2 hone
  have hsd : (Try.prog.info? 130).map (·.size) = some (SB.map vb).toArray.size := by
    rw [List.size_toArray, hsl2]
    kernel_rfl
  clear hF1 hF2 hF3 m1 m2 m3 l1 l2 l3 hc1 hc2 hc3 hz hz0 hfr hbody hB hbt
  replace n1 := Lib.hid n1
  replace n2 := Lib.hid n2
  replace n3 := Lib.hid n3
  replace hseal := Lib.hid hseal
  replace hlaid := Lib.hid hlaid
  replace hall := Lib.hid hall
  replace hpre := Lib.hid hpre
  replace hbuild := Lib.hid hbuild
  replace hone3 := Lib.hid hone3
  replace hone := Lib.hid hone
  replace hone' := Lib.hid hone'
  replace hsl2 := Lib.hid hsl2
  replace hbl := Lib.hid hbl
  replace hsl := Lib.hid hsl
  replace hszs := Lib.hid hszs
  replace hsd := Lib.hid hsd
  replace hsz64 := Lib.hid hsz64
  have hF3l : Hid ((F3.map vb).length = F3.length) := Lib.hid (List.length_map _)
  have hble : Nat.ble (0 + 64) z64.size = true := by rw [hsz64.out]; rfl
  replace hble := Lib.hid hble
  go_enter Try.func76, Try.ntmps76
  go_wp2_with (first | (with_reducible refine wpList_box_st hS rfl rfl rfl ?_; intro g1 w1 hS1; clear hS; replace hS := hS1; clear hS1) | (with_reducible refine wpList_box1_st hS rfl rfl rfl ?_; intro g1 w1 hS1; clear hS; replace hS := hS1; clear hS1) | (with_reducible refine wpList_alloc_st hS rfl rfl (by assumption) ?_; intro g1 w1 hS1; clear hS; replace hS := hS1; clear hS1) | (with_reducible refine wpList_alloc1_st hS rfl rfl (by assumption) rfl ?_; intro g1 w1 hS1; clear hS; replace hS := hS1; clear hS1) | ((with_reducible refine wpList_load_st 0 hS rfl rfl rfl rfl ?_ rfl ?_); focus (simp [scalarB, go_sem]; done)) | ((with_reducible refine wpList_loadall_st 0 hS rfl rfl rfl rfl ?_ (by kernel_rfl) ?_); focus (simp [rowB, go_sem]; done)) | ((with_reducible refine wpList_store_st 0 hS rfl rfl rfl rfl (by kernel_rfl) rfl rfl ?_); intro w1 hS1; clear hS; replace hS := hS1; clear hS1; try simp only [List.set_cons_zero, List.set_cons_succ, List.setIfInBounds_toArray, List.take_succ_cons, List.take_zero, List.drop_succ_cons, List.drop_zero, List.nil_append, List.cons_append, List.append_nil, List.drop_nil, List.take_nil, List.length_cons, List.length_nil, Nat.zero_add, Nat.add_zero, Nat.reduceAdd] at hS) | ((with_reducible refine wpList_storerow_st 0 hS rfl rfl rfl rfl (by kernel_rfl) rfl rfl rfl rfl ?_); intro w1 hS1; clear hS; replace hS := hS1; clear hS1; try simp only [List.set_cons_zero, List.set_cons_succ, List.setIfInBounds_toArray, List.take_succ_cons, List.take_zero, List.drop_succ_cons, List.drop_zero, List.nil_append, List.cons_append, List.append_nil, List.drop_nil, List.take_nil, List.length_cons, List.length_nil, Nat.zero_add, Nat.add_zero, Nat.reduceAdd] at hS))
  refine mixs_beginC 1 (by kernel_rfl) hS rfl ?_
  clear hS
  intro w2 hS hC
  have kC := hC.kblk 0 rfl
  refine mixs_take 2 (v := ?_) rfl (by kernel_rfl) (fun _ _ _ h => h) (by kernel_rfl) (by assumption) (fun s => ?hy) ?_; case hy => (go_simp <;> with_reducible rfl)
  try simp only [List.getElem_toArray, List.getElem_cons_succ, List.getElem_cons_zero, Act.put, List.setIfInBounds_toArray, List.set_cons_zero, List.set_cons_succ]
  refine mixs_take 3 (v := ?_) rfl (by kernel_rfl) (fun _ _ _ h => h) (by kernel_rfl) (by assumption) (fun s => ?hy) ?_; case hy => (go_simp <;> with_reducible rfl)
  try simp only [List.getElem_toArray, List.getElem_cons_succ, List.getElem_cons_zero, Act.put, List.setIfInBounds_toArray, List.set_cons_zero, List.set_cons_succ]
  refine mixs_take 5 (v := ?_) rfl (by kernel_rfl) (fun _ _ _ h => h) (by kernel_rfl) (by assumption) (fun s => ?hy) ?_; case hy => (go_simp <;> with_reducible rfl)
  try simp only [List.getElem_toArray, List.getElem_cons_succ, List.getElem_cons_zero, Act.put, List.setIfInBounds_toArray, List.set_cons_zero, List.set_cons_succ]
  refine mixs_take 6 (v := ?_) rfl (by kernel_rfl) (fun _ _ _ h => h) (by kernel_rfl) (by assumption) (fun s => ?hy) ?_; case hy => (go_simp <;> with_reducible rfl)
  try simp only [List.getElem_toArray, List.getElem_cons_succ, List.getElem_cons_zero, Act.put, List.setIfInBounds_toArray, List.set_cons_zero, List.set_cons_succ]
  refine mixs_take 8 (v := ?_) rfl (by kernel_rfl) (fun _ _ _ h => h) (by kernel_rfl) (by assumption) (fun s => ?hy) ?_; case hy => (go_simp <;> with_reducible rfl)
  try simp only [List.getElem_toArray, List.getElem_cons_succ, List.getElem_cons_zero, Act.put, List.setIfInBounds_toArray, List.set_cons_zero, List.set_cons_succ]
  refine mixs_take 9 (v := ?_) rfl (by kernel_rfl) (fun _ _ _ h => h) (by kernel_rfl) (by assumption) (fun s => ?hy) ?_; case hy => (go_simp <;> with_reducible rfl)
  try simp only [List.getElem_toArray, List.getElem_cons_succ, List.getElem_cons_zero, Act.put, List.setIfInBounds_toArray, List.set_cons_zero, List.set_cons_succ]
  refine mixs_one 0 (by kernel_rfl) rfl (fun K hK => ?_)
  ( first | (refine op_buildr_st (by kernel_rfl) hS hbuild.out rfl rfl ?_; intro g5 w3 hS1; clear hS; have hS := hS1; clear hS1) | (refine op_same_st (by kernel_rfl) 0 hS rfl rfl Try.underlying127 Try.underlying5 rfl ?_; intro w4 hS1; clear hS; have hS : St w [] (Ch.read g5 (List.map vb [114, 111, 111, 116]) :: _) w4 := hS1; clear hS1) | (go_at_call 97; (with_reducible refine (n1.out _ _ _ (hS.readsl 0 rfl) (by omega)).mono ?_); rintro _ w5 ⟨v5, rfl, ho5, hb5⟩; have hS1 := hS.freshB ho5 hb5; clear hS ho5 hb5; have hS := hS1; clear hS1; obtain ⟨a5, c5, rfl, -, -, hcap5, -⟩ := hS.row 0 rfl) | (go_at_call 97; (with_reducible refine (n2.out _ _ _ (hS.rowsl 0 rfl) hcap5).mono ?_); rintro _ w6 ⟨v6, rfl, ho6, hb6⟩; have hS1 := hS.freshB ho6 hb6; clear hS ho6 hb6; have hS := hS1; clear hS1; obtain ⟨a6, c6, rfl, -, -, hcap6, -⟩ := hS.row 0 rfl) | (go_at_call 97; (with_reducible refine (n3.out _ _ _ (hS.rowsl 0 rfl) hcap6).mono ?_); rintro _ w7 ⟨v7, rfl, ho7, hb7⟩; have hS1 := hS.freshB ho7 hb7; clear hS ho7 hb7; have hS := hS1; clear hS1; obtain ⟨a7, c7, rfl, -, -, hcap7, -⟩ := hS.row 0 rfl) )
  try clear hC
  refine hK.out _ _ _ (fun _ h => h) (by first | exact hS | exact hS.drop | exact hS.drop.drop | exact hS.drop.drop.drop | exact hS.drop.drop.drop.drop | exact hS.empty | exact hS.one 0 rfl | exact hS.one 1 rfl | exact hS.one 2 rfl | exact hS.one 3 rfl | exact hS.one 4 rfl | exact hS.one 5 rfl | exact hS.one 6 rfl | exact hS.one 7 rfl | exact hS.one 8 rfl | exact hS.one 9 rfl | exact hS.one 10 rfl | exact hS.one 11 rfl) (fun hC => ?_)
  clear hK K
  try simp only [List.getElem_toArray, List.getElem_cons_succ, List.getElem_cons_zero, Act.put, List.setIfInBounds_toArray, List.set_cons_zero, List.set_cons_succ]
  refine mixs_one 1 (by kernel_rfl) rfl (fun K hK => ?_)
  ( first | (refine op_buildr_st (by kernel_rfl) hS hbuild.out rfl rfl ?_; intro g5 w3 hS1; clear hS; have hS := hS1; clear hS1) | (refine op_same_st (by kernel_rfl) 0 hS rfl rfl Try.underlying127 Try.underlying5 rfl ?_; intro w4 hS1; clear hS; have hS : St w [] (Ch.read g5 (List.map vb [114, 111, 111, 116]) :: _) w4 := hS1; clear hS1) | (go_at_call 97; (with_reducible refine (n1.out _ _ _ (hS.readsl 0 rfl) (by omega)).mono ?_); rintro _ w5 ⟨v5, rfl, ho5, hb5⟩; have hS1 := hS.freshB ho5 hb5; clear hS ho5 hb5; have hS := hS1; clear hS1; obtain ⟨a5, c5, rfl, -, -, hcap5, -⟩ := hS.row 0 rfl) | (go_at_call 97; (with_reducible refine (n2.out _ _ _ (hS.rowsl 0 rfl) hcap5).mono ?_); rintro _ w6 ⟨v6, rfl, ho6, hb6⟩; have hS1 := hS.freshB ho6 hb6; clear hS ho6 hb6; have hS := hS1; clear hS1; obtain ⟨a6, c6, rfl, -, -, hcap6, -⟩ := hS.row 0 rfl) | (go_at_call 97; (with_reducible refine (n3.out _ _ _ (hS.rowsl 0 rfl) hcap6).mono ?_); rintro _ w7 ⟨v7, rfl, ho7, hb7⟩; have hS1 := hS.freshB ho7 hb7; clear hS ho7 hb7; have hS := hS1; clear hS1; obtain ⟨a7, c7, rfl, -, -, hcap7, -⟩ := hS.row 0 rfl) )
  try clear hC
  refine hK.out _ _ _ (fun _ h => h) (by first | exact hS | exact hS.drop | exact hS.drop.drop | exact hS.drop.drop.drop | exact hS.drop.drop.drop.drop | exact hS.empty | exact hS.one 0 rfl | exact hS.one 1 rfl | exact hS.one 2 rfl | exact hS.one 3 rfl | exact hS.one 4 rfl | exact hS.one 5 rfl | exact hS.one 6 rfl | exact hS.one 7 rfl | exact hS.one 8 rfl | exact hS.one 9 rfl | exact hS.one 10 rfl | exact hS.one 11 rfl) (fun hC => ?_)
  clear hK K
  try simp only [List.getElem_toArray, List.getElem_cons_succ, List.getElem_cons_zero, Act.put, List.setIfInBounds_toArray, List.set_cons_zero, List.set_cons_succ]
  refine mixs_one 4 (by kernel_rfl) rfl (fun K hK => ?_)
  go_simp
  ( first | (refine op_buildr_st (by kernel_rfl) hS hbuild.out rfl rfl ?_; intro g5 w3 hS1; clear hS; have hS := hS1; clear hS1) | (refine op_same_st (by kernel_rfl) 0 hS rfl rfl Try.underlying127 Try.underlying5 rfl ?_; intro w4 hS1; clear hS; have hS : St w [] (Ch.read g5 (List.map vb [114, 111, 111, 116]) :: _) w4 := hS1; clear hS1) | (go_at_call 97; (with_reducible refine (n1.out _ _ _ (hS.readsl 0 rfl) (by omega)).mono ?_); rintro _ w5 ⟨v5, rfl, ho5, hb5⟩; have hS1 := hS.freshB ho5 hb5; clear hS ho5 hb5; have hS := hS1; clear hS1; obtain ⟨a5, c5, rfl, -, -, hcap5, -⟩ := hS.row 0 rfl) | (go_at_call 97; (with_reducible refine (n2.out _ _ _ (hS.rowsl 0 rfl) hcap5).mono ?_); rintro _ w6 ⟨v6, rfl, ho6, hb6⟩; have hS1 := hS.freshB ho6 hb6; clear hS ho6 hb6; have hS := hS1; clear hS1; obtain ⟨a6, c6, rfl, -, -, hcap6, -⟩ := hS.row 0 rfl) | (go_at_call 97; (with_reducible refine (n3.out _ _ _ (hS.rowsl 0 rfl) hcap6).mono ?_); rintro _ w7 ⟨v7, rfl, ho7, hb7⟩; have hS1 := hS.freshB ho7 hb7; clear hS ho7 hb7; have hS := hS1; clear hS1; obtain ⟨a7, c7, rfl, -, -, hcap7, -⟩ := hS.row 0 rfl) )
  try clear hC
  refine hK.out _ _ _ (fun _ h => h) (by first | exact hS | exact hS.drop | exact hS.drop.drop | exact hS.drop.drop.drop | exact hS.drop.drop.drop.drop | exact hS.empty | exact hS.one 0 rfl | exact hS.one 1 rfl | exact hS.one 2 rfl | exact hS.one 3 rfl | exact hS.one 4 rfl | exact hS.one 5 rfl | exact hS.one 6 rfl | exact hS.one 7 rfl | exact hS.one 8 rfl | exact hS.one 9 rfl | exact hS.one 10 rfl | exact hS.one 11 rfl) (fun hC => ?_)
  clear hK K
  try simp only [List.getElem_toArray, List.getElem_cons_succ, List.getElem_cons_zero, Act.put, List.setIfInBounds_toArray, List.set_cons_zero, List.set_cons_succ]
  refine mixs_one 7 (by kernel_rfl) rfl (fun K hK => ?_)
  go_simp
  ( first | (refine op_buildr_st (by kernel_rfl) hS hbuild.out rfl rfl ?_; intro g5 w3 hS1; clear hS; have hS := hS1; clear hS1) | (refine op_same_st (by kernel_rfl) 0 hS rfl rfl Try.underlying127 Try.underlying5 rfl ?_; intro w4 hS1; clear hS; have hS : St w [] (Ch.read g5 (List.map vb [114, 111, 111, 116]) :: _) w4 := hS1; clear hS1) | (go_at_call 97; (with_reducible refine (n1.out _ _ _ (hS.readsl 0 rfl) (by omega)).mono ?_); rintro _ w5 ⟨v5, rfl, ho5, hb5⟩; have hS1 := hS.freshB ho5 hb5; clear hS ho5 hb5; have hS := hS1; clear hS1; obtain ⟨a5, c5, rfl, -, -, hcap5, -⟩ := hS.row 0 rfl) | (go_at_call 97; (with_reducible refine (n2.out _ _ _ (hS.rowsl 0 rfl) hcap5).mono ?_); rintro _ w6 ⟨v6, rfl, ho6, hb6⟩; have hS1 := hS.freshB ho6 hb6; clear hS ho6 hb6; have hS := hS1; clear hS1; obtain ⟨a6, c6, rfl, -, -, hcap6, -⟩ := hS.row 0 rfl) | (go_at_call 97; (with_reducible refine (n3.out _ _ _ (hS.rowsl 0 rfl) hcap6).mono ?_); rintro _ w7 ⟨v7, rfl, ho7, hb7⟩; have hS1 := hS.freshB ho7 hb7; clear hS ho7 hb7; have hS := hS1; clear hS1; obtain ⟨a7, c7, rfl, -, -, hcap7, -⟩ := hS.row 0 rfl) )
  try clear hC
  refine hK.out _ _ _ (fun _ h => h) (by first | exact hS | exact hS.drop | exact hS.drop.drop | exact hS.drop.drop.drop | exact hS.drop.drop.drop.drop | exact hS.empty | exact hS.one 0 rfl | exact hS.one 1 rfl | exact hS.one 2 rfl | exact hS.one 3 rfl | exact hS.one 4 rfl | exact hS.one 5 rfl | exact hS.one 6 rfl | exact hS.one 7 rfl | exact hS.one 8 rfl | exact hS.one 9 rfl | exact hS.one 10 rfl | exact hS.one 11 rfl) (fun hC => ?_)
  clear hK K
  try simp only [List.getElem_toArray, List.getElem_cons_succ, List.getElem_cons_zero, Act.put, List.setIfInBounds_toArray, List.set_cons_zero, List.set_cons_succ]
  refine mixs_one 10 (by kernel_rfl) rfl (fun K hK => ?_)
  go_simp
  ( first | (refine op_buildr_st (by kernel_rfl) hS hbuild.out rfl rfl ?_; intro g5 w3 hS1; clear hS; have hS := hS1; clear hS1) | (refine op_same_st (by kernel_rfl) 0 hS rfl rfl Try.underlying127 Try.underlying5 rfl ?_; intro w4 hS1; clear hS; have hS : St w [] (Ch.read g5 (List.map vb [114, 111, 111, 116]) :: _) w4 := hS1; clear hS1) | (go_at_call 97; (with_reducible refine (n1.out _ _ _ (hS.readsl 0 rfl) (by omega)).mono ?_); rintro _ w5 ⟨v5, rfl, ho5, hb5⟩; have hS1 := hS.freshB ho5 hb5; clear hS ho5 hb5; have hS := hS1; clear hS1; obtain ⟨a5, c5, rfl, -, -, hcap5, -⟩ := hS.row 0 rfl) | (go_at_call 97; (with_reducible refine (n2.out _ _ _ (hS.rowsl 0 rfl) hcap5).mono ?_); rintro _ w6 ⟨v6, rfl, ho6, hb6⟩; have hS1 := hS.freshB ho6 hb6; clear hS ho6 hb6; have hS := hS1; clear hS1; obtain ⟨a6, c6, rfl, -, -, hcap6, -⟩ := hS.row 0 rfl) | (go_at_call 97; (with_reducible refine (n3.out _ _ _ (hS.rowsl 0 rfl) hcap6).mono ?_); rintro _ w7 ⟨v7, rfl, ho7, hb7⟩; have hS1 := hS.freshB ho7 hb7; clear hS ho7 hb7; have hS := hS1; clear hS1; obtain ⟨a7, c7, rfl, -, -, hcap7, -⟩ := hS.row 0 rfl) )
  try clear hC
  refine hK.out _ _ _ (fun _ h => h) (by first | exact hS | exact hS.drop | exact hS.drop.drop | exact hS.drop.drop.drop | exact hS.drop.drop.drop.drop | exact hS.empty | exact hS.one 0 rfl | exact hS.one 1 rfl | exact hS.one 2 rfl | exact hS.one 3 rfl | exact hS.one 4 rfl | exact hS.one 5 rfl | exact hS.one 6 rfl | exact hS.one 7 rfl | exact hS.one 8 rfl | exact hS.one 9 rfl | exact hS.one 10 rfl | exact hS.one 11 rfl) (fun hC => ?_)
  clear hK K
  try simp only [List.getElem_toArray, List.getElem_cons_succ, List.getElem_cons_zero, Act.put, List.setIfInBounds_toArray, List.set_cons_zero, List.set_cons_succ]
  refine mixs_take 11 (v := ?_) rfl (by kernel_rfl) (fun _ _ _ h => h) (by kernel_rfl) (by assumption) (fun s => ?hy) ?_; case hy => (go_simp <;> with_reducible rfl)
  try simp only [List.getElem_toArray, List.getElem_cons_succ, List.getElem_cons_zero, Act.put, List.setIfInBounds_toArray, List.set_cons_zero, List.set_cons_succ]
  refine wpAnyH_done (by kernel_rfl) ?_ _
  try clear hC
  go_wp2_with (first
    | (with_reducible refine wpList_box_st hS rfl rfl rfl ?_; intro g1 w1 hS1; clear hS; replace hS := hS1; clear hS1) | (with_reducible refine wpList_box1_st hS rfl rfl rfl ?_; intro g1 w1 hS1; clear hS; replace hS := hS1; clear hS1) | (with_reducible refine wpList_alloc_st hS rfl rfl (by assumption) ?_; intro g1 w1 hS1; clear hS; replace hS := hS1; clear hS1) | (with_reducible refine wpList_alloc1_st hS rfl rfl (by assumption) rfl ?_; intro g1 w1 hS1; clear hS; replace hS := hS1; clear hS1)
    | ((with_reducible refine wpList_copysl_st 0 (xs := F3.map vb) hS rfl rfl rfl Try.underlying127 eb Try.underlying127 rfl rfl (hS.rowsl 2 rfl) hF3l.out hone3.out (by omega) (by rw [hsz64.out]; omega) ?_); intro w6 hS1; clear hS; simp only [List.set_cons_zero] at hS1; rw [hlaid.out] at hS1; have hS := hS1; clear hS1))
  simp only [Act.put, List.setIfInBounds_toArray, List.set_cons_zero, List.set_cons_succ]
  refine mixs_beginE (by kernel_rfl) hS ?_
  clear hS
  intro w7 hS hC
  refine mixs_take 0 (v := ?_) rfl (by kernel_rfl) (fun _ _ _ h => h) (by kernel_rfl) (by assumption) (fun s => ?hy) ?_; case hy => (go_simp <;> with_reducible rfl)
  try simp only [List.getElem_toArray, List.getElem_cons_succ, List.getElem_cons_zero, Act.put, List.setIfInBounds_toArray, List.set_cons_zero, List.set_cons_succ]
  refine mixs_take 1 (v := ?_) rfl (by kernel_rfl) (fun _ _ _ h => h) (by kernel_rfl) (by assumption) (fun s => ?hy) ?_; case hy => (go_simp <;> with_reducible rfl)
  try simp only [List.getElem_toArray, List.getElem_cons_succ, List.getElem_cons_zero, Act.put, List.setIfInBounds_toArray, List.set_cons_zero, List.set_cons_succ]
  refine mixs_one 2 (by kernel_rfl) rfl (fun K hK => ?_)
  go_simp
  ( first | (go_at_call 98; (with_reducible refine (hseal.out _ _ _ (hpre.out _ _ (hS.blksl2 0 rfl))).mono ?_); rintro _ w8 ⟨v8, rfl, ho8, hb8⟩; have hS1 := hS.freshB ho8 hb8; clear hS ho8 hb8; have hS := hS1; clear hS1; obtain ⟨a8, c8, rfl, -, -, hcap8, -⟩ := hS.row 0 rfl) | (refine op_copysl_st (by kernel_rfl) 2 (xs := SB.map vb) hS rfl rfl Try.underlying127 eb Try.underlying127 rfl rfl (hS.rowsl 0 rfl) hsl2.out hone.out (by omega) (by rw [hsz64.out]; omega) ?_; intro w9 hS1; clear hS; simp only [List.set_cons_succ, List.set_cons_zero] at hS1; rw [hall.out] at hS1; have hS := hS1; clear hS1) )
  try clear hC
  refine hK.out _ _ _ (fun _ h => h) (by first | exact hS | exact hS.drop | exact hS.drop.drop | exact hS.drop.drop.drop | exact hS.drop.drop.drop.drop | exact hS.empty | exact hS.one 0 rfl | exact hS.one 1 rfl | exact hS.one 2 rfl | exact hS.one 3 rfl | exact hS.one 4 rfl | exact hS.one 5 rfl | exact hS.one 6 rfl | exact hS.one 7 rfl | exact hS.one 8 rfl | exact hS.one 9 rfl | exact hS.one 10 rfl | exact hS.one 11 rfl) (fun hC => ?_)
  clear hK K
  try simp only [List.getElem_toArray, List.getElem_cons_succ, List.getElem_cons_zero, Act.put, List.setIfInBounds_toArray, List.set_cons_zero, List.set_cons_succ]
  refine mixs_one 3 (by kernel_rfl) rfl (fun K hK => ?_)
  ( first | (go_at_call 98; (with_reducible refine (hseal.out _ _ _ (hpre.out _ _ (hS.blksl2 0 rfl))).mono ?_); rintro _ w8 ⟨v8, rfl, ho8, hb8⟩; have hS1 := hS.freshB ho8 hb8; clear hS ho8 hb8; have hS := hS1; clear hS1; obtain ⟨a8, c8, rfl, -, -, hcap8, -⟩ := hS.row 0 rfl) | (refine op_copysl_st (by kernel_rfl) 2 (xs := SB.map vb) hS rfl rfl Try.underlying127 eb Try.underlying127 rfl rfl (hS.rowsl 0 rfl) hsl2.out hone.out (by omega) (by rw [hsz64.out]; omega) ?_; intro w9 hS1; clear hS; simp only [List.set_cons_succ, List.set_cons_zero] at hS1; rw [hall.out] at hS1; have hS := hS1; clear hS1) )
  try clear hC
  refine hK.out _ _ _ (fun _ h => h) (by first | exact hS | exact hS.drop | exact hS.drop.drop | exact hS.drop.drop.drop | exact hS.drop.drop.drop.drop | exact hS.empty | exact hS.one 0 rfl | exact hS.one 1 rfl | exact hS.one 2 rfl | exact hS.one 3 rfl | exact hS.one 4 rfl | exact hS.one 5 rfl | exact hS.one 6 rfl | exact hS.one 7 rfl | exact hS.one 8 rfl | exact hS.one 9 rfl | exact hS.one 10 rfl | exact hS.one 11 rfl) (fun hC => ?_)
  clear hK K
  try simp only [List.getElem_toArray, List.getElem_cons_succ, List.getElem_cons_zero, Act.put, List.setIfInBounds_toArray, List.set_cons_zero, List.set_cons_succ]
  refine wpAnyH_done (by kernel_rfl) ?_ _
  try clear hC
  go_wp2_with (first
    | (with_reducible refine wpList_loadall_st 2 hS rfl rfl rfl rfl hrow hszs.out ?_)
    | ((with_reducible refine wpList_storerow_st 7 (vs := SB.map vb) (n := 64) hS rfl rfl rfl rfl (by kernel_rfl) rfl hsl2.out hone'.out hble.out ?_); intro w10 hS1; clear hS; simp only [List.set_cons_succ, List.set_cons_zero] at hS1; rw [hall.out] at hS1; have hS := hS1; clear hS1))
  exact bodyPost_ret (results_cell_row rfl _ _ _ _ _ _ _ rfl (hS.get 7 rfl) Try.underlying130 rfl hsd.out) rfl ⟨rfl, hS.below⟩
end Go.Proofs.Ytlhpibniecfofaa
end
