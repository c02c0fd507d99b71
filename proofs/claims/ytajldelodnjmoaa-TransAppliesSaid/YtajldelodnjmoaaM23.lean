/- Texts laid together: TransApplies. -/
import Derived.Test.YtajldelodnjmoaaM21
import Derived.Test.YtajldelodnjmoaaM22
section
/- The law TransApplies. -/
set_option linter.unusedSimpArgs false
set_option linter.unusedVariables false
namespace Go.Ofp
open Go.RowKit
theorem ris_of_adj {cs : List Cd} (h : ∀ k (hk : k + 1 < cs.length), cs[k].id < cs[k + 1].id) : RisC cs := by
  unfold RisC
  rw [List.pairwise_iff_getElem]
  intro i j hi hj hij
  obtain ⟨d, rfl⟩ : ∃ d, j = i + 1 + d := ⟨j - i - 1, by omega⟩
  clear hij
  induction d with
  | zero => exact h i hj
  | succ d ih =>
    have h1 := ih (by omega)
    have h2 := h (i + 1 + d) (by omega)
    have e : i + 1 + (d + 1) = i + 1 + d + 1 := by omega
    simp only [e]
    omega
theorem applyC_length : ∀ {m : List Cd} {l : List It} {m' : List Cd}, applyC m l = some m' → m'.length ≤ m.length + l.length
  | m, [], m', h => by
    cases h
    simp
  | m, x :: r, m', h => by
    unfold applyC at h
    obtain ⟨m1, h1, h2⟩ := Option.bind_eq_some_iff.1 h
    have := oneC_length h1
    have := applyC_length h2
    simp only [List.length_cons]
    omega
theorem applyC_all {p : Cd → Prop} : ∀ {m : List Cd} {l : List It} {m' : List Cd}, applyC m l = some m' → (∀ c ∈ m, p c) → (∀ x ∈ l, p x.c) → ∀ c ∈ m', p c
  | m, [], m', h, hm, _ => by
    cases h
    exact hm
  | m, x :: r, m', h, hm, hx => by
    unfold applyC at h
    obtain ⟨m1, h1, h2⟩ := Option.bind_eq_some_iff.1 h
    exact applyC_all h2 (oneC_all h1 hm (hx x (by simp))) fun y hy => hx y (by simp [hy])
end Go.Ofp
namespace Go.Proofs.Ytajldelodnjmoaa
open Go.RowKit Go.Ofp
set_option linter.unusedVariables false
set_option maxRecDepth 100000
set_option maxHeartbeats 4000000

theorem cd_ok {c : Cd} (h : CdIn c) : CdOk c := ⟨h.len, h.id⟩

theorem csame_nil (w : World) : Calls Try.prog 22 #[.slice none 0 0, .slice none 0 0] w fun e w' => e = .returned (.bool true) ∧ Below w.heap.size w w' := by
  have := csame_any none none 0 0 0 0 [] [] w ⟨Sl.nil _ _, rfl, Nat.le_refl _, by decide, by simp⟩ ⟨Sl.nil _ _, rfl, Nat.le_refl _, by decide, by simp⟩ (by decide) (by decide)
  rwa [decide_eq_true rfl] at this
theorem applies_main (a b d : Option Addr) (n m k c1 c2 c3 : Nat) (cs : List Cd) (l q : List It) (w : World) (hc : Lst cdRow CdIn w a n c1 cs) (hl : Lst itRow ItIn w b m c2 l) (hq : Lst itRow ItIn w d k c3 q) (h1 : wideI l = false) (h2 : wideI q = false) (hn : n ≤ 60) :
    Calls Try.prog 9 #[.slice a n c1, .slice b m c2, .slice d k c3] w fun e w' => e = .returned (.bool true) ∧ Below w.heap.size w w' := by
  have hm : m ≤ 100 := by
    unfold wideI at h1
    rw [Bool.or_eq_false_iff] at h1
    have := of_decide_eq_false h1.1
    rw [hl.len] at this
    omega
  have hkn : k ≤ 100 := by
    unfold wideI at h2
    rw [Bool.or_eq_false_iff] at h2
    have := of_decide_eq_false h2.1
    rw [hq.len] at this
    omega
  have hS := St.start w
  have cW : ∀ W, Below w.heap.size w W → Calls Try.prog 33 #[.slice b m c2] W fun e w' => e = .returned (.bool false) ∧ Below W.heap.size W w' := fun W hb => by
    have := wide_any b m c2 l W (hl.below hb)
    rwa [h1] at this
  have cV : ∀ W, Below w.heap.size w W → Calls Try.prog 33 #[.slice d k c3] W fun e w' => e = .returned (.bool false) ∧ Below W.heap.size W w' := fun W hb => by
    have := wide_any d k c3 q W (hq.below hb)
    rwa [h2] at this
  have cA := Lib.hid fun W : World => awake23_any W
  have cN0 := Lib.hid fun W : World => csame_nil W
  have cG := Lib.hid fun (f : List Vl) (hf : f.length = 8) (W : World) => large6_any f hf W
  have fl : ∀ W, Below w.heap.size w W → Lst itRow (fun x => x.c.f.length = 8) W b m c2 l := fun W hb => (hl.below hb).imp fun x h => h.c.len
  have fq : ∀ W, Below w.heap.size w W → Lst itRow (fun x => x.c.f.length = 8) W d k c3 q := fun W hb => (hq.below hb).imp fun x h => h.c.len
  have fc : ∀ W, Below w.heap.size w W → Lst cdRow (fun x => x.f.length = 8) W a n c1 cs := fun W hb => (hc.below hb).imp fun x h => h.len
  have cC := fun W (hb : Below w.heap.size w W) => tcki_any b m c2 l W (hl.below hb) (by omega)
  have cD := fun W (hb : Below w.heap.size w W) => rcki_any b m c2 l W (hl.below hb) (by omega)
  have cS := fun W (hb : Below w.heap.size w W) => tsame_any b d m k c2 c3 l q W (fl W hb) (fq W hb) (by omega) (by omega)
  have cZ := fun W (hb : Below w.heap.size w W) => rsame23_any b d m k c2 c3 l q W (fl W hb) (fq W hb) (by omega) (by omega)
  have hks := fun (h : itsMay Cd.ok 0 l = true) x (hx : x ∈ l) => may_kind ((itsMay_spec 0 l h).2 x hx).2.2
  have cT := fun (hr : RisC cs) (h : itsMay Cd.ok 0 l = true) W (hb : Below w.heap.size w W) => tapply_any a b n c1 m c2 cs l W ((hc.below hb).imp fun x h => cd_ok h) ⟨(hl.below hb).sl, hl.len, hl.le, hl.cm, fun x hx => ⟨cd_ok (hl.mem x hx).c, hks h x hx⟩⟩ hr (by omega) (by omega)
  have cR := fun (h : itsMay Cd.ok 0 l = true) W (hb : Below w.heap.size w W) => rapply_any a b n c1 m c2 cs l W (fc W hb) (fl W hb) (hks h) (by omega)
  have hal := fun M (h : applyC cs l = some M) => And.intro (applyC_length h) (applyC_all (p := fun c => c.f.length = 8) h (fun c hx => (hc.mem c hx).len) fun x hx => (hl.mem x hx).c.len)
  rw [hc.len, hl.len] at hal
  have cE := Lib.hid fun (M : List Cd) (hM : M.length ≤ 1000) (W : World) (a1 a2 : Option Addr) (k1 k2 : Nat) (g1 : Lst cdRow (fun x => x.f.length = 8) W a1 M.length k1 M) (g2 : Lst cdRow (fun x => x.f.length = 8) W a2 M.length k2 M) => (show Calls Try.prog 22 #[.slice a1 M.length k1, .slice a2 M.length k2] W fun e w' => e = .returned (.bool true) ∧ Below W.heap.size W w' by
    have := csame_any a1 a2 M.length M.length k1 k2 M M W g1 g2 hM hM
    rwa [decide_eq_true rfl] at this)
  have hlen := Lib.hid hc.len
  have hlens := Lib.hid (show ∀ x ∈ cs, (cdRow x).length = 27 from fun x hx => cdRow_lenT x (hc.mem x hx).len)
  have hbase := Lib.hid (hc.base (by decide) hlens.out)
  have hmem := Lib.hid hc.mem
  have hn60 : decide (60 < n) = false := decide_eq_false (by omega)
  have hn61 : decide (60 < (n : Int)) = false := decide_eq_false (by omega)
  replace cW := Lib.hid cW
  replace cV := Lib.hid cV
  replace hc := Lib.hid hc
  replace hl := Lib.hid hl
  replace hq := Lib.hid hq
  replace cT := Lib.hid cT
  replace cR := Lib.hid cR
  replace hal := Lib.hid hal
  replace fl := Lib.hid fl
  replace fq := Lib.hid fq
  replace fc := Lib.hid fc
  clear hks
  generalize hG : itsMay Cd.ok 0 l = G at *
  generalize hE : decide (l = q) = E at *
  clear hG hE
  replace cC := Lib.hid cC
  replace cD := Lib.hid cD
  replace cS := Lib.hid cS
  replace cZ := Lib.hid cZ
  clear h1 h2
  go_enter Try.func9, Try.ntmps9
  go_wp2_with (first
    | (go_at_call 33; (with_reducible refine (cW.out _ hS.below).mono ?_); rintro _ w3 ⟨rfl, hk9⟩; have hS1 := hS.keepB hk9; clear hk9 hS; have hS := hS1; clear hS1)
    | (go_at_call 33; (with_reducible refine (cV.out _ hS.below).mono ?_); rintro _ w3 ⟨rfl, hk9⟩; have hS1 := hS.keepB hk9; clear hk9 hS; have hS := hS1; clear hS1))
  go_loopg [7] n (fun gk vx wr => ∃ j : Nat, j + gk = n ∧ vx = .int .i64 j ∧ Hid (∀ i (hi : i + 1 < cs.length), i + 1 < j → cs[i].id < cs[i + 1].id) ∧ St w [] [] wr)
  case atStart => exact ⟨0, Nat.zero_add _, rfl, Lib.hid (fun i _ h => by omega), hS⟩
  case round =>
    clear hS
    obtain ⟨j, hj, rfl, hr, hS⟩ := hrel
    by_cases hlt : j < n
    · have hjl : j < cs.length := by rw [hlen.out]; exact hlt
      obtain ⟨g, off, rfl⟩ := hbase.out (by omega)
      have hrow := hc.out.rowb hlens.out j hjl
      have hin := hmem.out _ (List.getElem_mem hjl)
      have zi : w.cell? ⟨g, off + j * 27, none⟩ = some (.int .i64 cs[j].id) := by simpa using hrow 0 _ rfl
      have hpv := fun p (hp : p < cs.length) => show w.cell? ⟨g, off + p * 27, none⟩ = some (.int .i64 cs[p].id) by simpa using hc.out.rowb hlens.out p hp 0 _ rfl
      have hf3 : w.rangeAt g (off + j * 27 + 3) (flRow cs[j].f) := fun i v hv => by
        have := hrow (3 + i) v (by rw [show 3 + i = i + 3 by omega]; exact hv)
        rwa [show off + j * 27 + 3 + i = off + j * 27 + (3 + i) by omega]
      have hfl : (flRow cs[j].f).length = 24 := by rw [flRow_length, hin.len]
      have hcG := cG.out cs[j].f hin.len
      have kF := hS.kold_row (P := Try.prog) (t := 39) hf3 (by kernel_rfl) (by kernel_rfl) hfl
      have ki := hS.kold0 zi
      clear hrow hin hfl
      cases hlg : largeF cs[j].f
      · rw [hlg] at hcG
        replace hcG := Lib.hid hcG
        clear hlg
        by_cases hj0 : 0 < j
        · obtain ⟨p, hpj⟩ : ∃ p, p + 1 = j := ⟨j - 1, by omega⟩
          have hpn : p < n := by omega
          have hpl : p < cs.length := by rw [hlen.out]; omega
          have zp := hpv p hpl
          have kp := hS.kold0 zp
          have hjw : IntKind.i64.wrap ((j : Int) - 1) = (p : Int) := by rw [IntWalk.i64_in _ (by omega)]; omega
          have dj : decide (0 < (j : Int)) = true := decide_eq_true (by omega)
          have dj2 : decide (0 < j) = true := decide_eq_true hj0
          have hnx : cs[p].id < cs[j].id → ∀ i (hi : i + 1 < cs.length), i + 1 < j + 1 → cs[i].id < cs[i + 1].id := by
            intro h i hi hij
            by_cases e : i + 1 < j
            · exact hr.out i hi e
            · have e1 : i = p := by omega
              have e2 : i + 1 = j := by omega
              subst e1
              simpa only [e2] using h
          replace hpj := Lib.hid hpj
          clear hj0 hpv hf3
          by_cases hle : cs[j].id ≤ cs[p].id
          · have dl : decide (cs[j].id ≤ cs[p].id) = true := decide_eq_true hle
            clear hnx hle
            generalize cs[j].id = idj at *
            generalize cs[p].id = idp at *
            generalize flRow cs[j].f = RF at *
            go_wp2_with fail
            refine mixs_begin (by kernel_rfl) hS ?_
            clear hS
            intro w2 hS
            refine mixs_take 0 (v := ?_) rfl (by kernel_rfl) (fun _ _ _ h => h) (by kernel_rfl) (by assumption) (fun s => ?hy) ?_; case hy => (go_simp <;> with_reducible rfl)
            try simp only [List.getElem_toArray, List.getElem_cons_succ, List.getElem_cons_zero, Act.put, List.setIfInBounds_toArray, List.set_cons_zero, List.set_cons_succ]
            refine mixs_take 1 (v := ?_) rfl (by kernel_rfl) (fun _ _ _ h => h) (by kernel_rfl) (by assumption) (fun s => ?hy) ?_; case hy => (go_simp <;> with_reducible rfl)
            try simp only [List.getElem_toArray, List.getElem_cons_succ, List.getElem_cons_zero, Act.put, List.setIfInBounds_toArray, List.set_cons_zero, List.set_cons_succ]
            refine mixs_take 2 (v := ?_) rfl (by kernel_rfl) (fun _ _ _ h => h) (by kernel_rfl) (by assumption) (fun s => ?hy) ?_; case hy => (go_simp <;> with_reducible rfl)
            try simp only [List.getElem_toArray, List.getElem_cons_succ, List.getElem_cons_zero, Act.put, List.setIfInBounds_toArray, List.set_cons_zero, List.set_cons_succ]
            refine mixs_take 3 (v := ?_) rfl (by kernel_rfl) (fun _ _ _ h => h) (by kernel_rfl) (by assumption) (fun s => ?hy) ?_; case hy => (go_simp <;> with_reducible rfl)
            try simp only [List.getElem_toArray, List.getElem_cons_succ, List.getElem_cons_zero, Act.put, List.setIfInBounds_toArray, List.set_cons_zero, List.set_cons_succ]
            refine mixs_take 4 (v := ?_) rfl (by kernel_rfl) (fun _ _ _ h => h) (by kernel_rfl) (by assumption) (fun s => ?hy) ?_; case hy => (refine Eq.trans (take_loadrow s rfl rfl kF) ?_; with_reducible rfl)
            try simp only [List.getElem_toArray, List.getElem_cons_succ, List.getElem_cons_zero, Act.put, List.setIfInBounds_toArray, List.set_cons_zero, List.set_cons_succ]
            refine mixs_one 5 (by kernel_rfl) rfl (fun K hK => ?_)
            go_simp
            ( (go_at_call 34; (with_reducible refine (hcG.out _).mono ?_); rintro _ w9 ⟨rfl, hk9⟩; have hS1 := hS.keepB hk9; clear hk9 hS; have hS := hS1; clear hS1) )
            try clear hC
            refine hK.out _ _ _ (fun _ h => h) (by first | exact hS | exact hS.drop | exact hS.drop.drop | exact hS.drop.drop.drop | exact hS.drop.drop.drop.drop | exact hS.empty | exact hS.one 0 rfl | exact hS.one 1 rfl | exact hS.one 2 rfl | exact hS.one 3 rfl | exact hS.one 4 rfl | exact hS.one 5 rfl | exact hS.one 6 rfl | exact hS.one 7 rfl | exact hS.one 8 rfl | exact hS.one 9 rfl | exact hS.one 10 rfl | exact hS.one 11 rfl) (fun hC => ?_)
            clear hK K
            try simp only [List.getElem_toArray, List.getElem_cons_succ, List.getElem_cons_zero, Act.put, List.setIfInBounds_toArray, List.set_cons_zero, List.set_cons_succ]
            refine mixs_take 6 (v := ?_) rfl (by kernel_rfl) (fun _ _ _ h => h) (by kernel_rfl) (by assumption) (fun s => ?hy) ?_; case hy => (go_simp <;> with_reducible rfl)
            try simp only [List.getElem_toArray, List.getElem_cons_succ, List.getElem_cons_zero, Act.put, List.setIfInBounds_toArray, List.set_cons_zero, List.set_cons_succ]
            refine mixs_take 7 (v := ?_) rfl (by kernel_rfl) (fun _ _ _ h => h) (by kernel_rfl) (by assumption) (fun s => ?hy) ?_; case hy => (go_simp <;> with_reducible rfl)
            try simp only [List.getElem_toArray, List.getElem_cons_succ, List.getElem_cons_zero, Act.put, List.setIfInBounds_toArray, List.set_cons_zero, List.set_cons_succ]
            refine mixs_take 8 (v := ?_) rfl (by kernel_rfl) (fun _ _ _ h => h) (by kernel_rfl) (by assumption) (fun s => ?hy) ?_; case hy => (go_simp <;> with_reducible rfl)
            try simp only [List.getElem_toArray, List.getElem_cons_succ, List.getElem_cons_zero, Act.put, List.setIfInBounds_toArray, List.set_cons_zero, List.set_cons_succ]
            refine mixs_take 9 (v := ?_) rfl (by kernel_rfl) (fun _ _ _ h => h) (by kernel_rfl) (by assumption) (fun s => ?hy) ?_; case hy => (go_simp <;> with_reducible rfl)
            try simp only [List.getElem_toArray, List.getElem_cons_succ, List.getElem_cons_zero, Act.put, List.setIfInBounds_toArray, List.set_cons_zero, List.set_cons_succ]
            refine mixs_take 10 (v := ?_) rfl (by kernel_rfl) (fun _ _ _ h => h) (by kernel_rfl) (by assumption) (fun s => ?hy) ?_; case hy => (go_simp <;> with_reducible rfl)
            try simp only [List.getElem_toArray, List.getElem_cons_succ, List.getElem_cons_zero, Act.put, List.setIfInBounds_toArray, List.set_cons_zero, List.set_cons_succ]
            refine mixs_take 11 (v := ?_) rfl (by kernel_rfl) (fun _ _ _ h => h) (by kernel_rfl) (by assumption) (fun s => ?hy) ?_; case hy => (go_simp <;> with_reducible rfl)
            try simp only [List.getElem_toArray, List.getElem_cons_succ, List.getElem_cons_zero, Act.put, List.setIfInBounds_toArray, List.set_cons_zero, List.set_cons_succ]
            refine mixs_take 12 (v := ?_) rfl (by kernel_rfl) (fun _ _ _ h => h) (by kernel_rfl) (by assumption) (fun s => ?hy) ?_; case hy => (go_simp <;> with_reducible rfl)
            try simp only [List.getElem_toArray, List.getElem_cons_succ, List.getElem_cons_zero, Act.put, List.setIfInBounds_toArray, List.set_cons_zero, List.set_cons_succ]
            refine mixs_take 13 (v := ?_) rfl (by kernel_rfl) (fun _ _ _ h => h) (by kernel_rfl) (by assumption) (fun s => ?hy) ?_; case hy => (go_simp <;> with_reducible rfl)
            try simp only [List.getElem_toArray, List.getElem_cons_succ, List.getElem_cons_zero, Act.put, List.setIfInBounds_toArray, List.set_cons_zero, List.set_cons_succ]
            refine mixs_take 14 (v := ?_) rfl (by kernel_rfl) (fun _ _ _ h => h) (by kernel_rfl) (by assumption) (fun s => ?hy) ?_; case hy => (go_simp <;> with_reducible rfl)
            try simp only [List.getElem_toArray, List.getElem_cons_succ, List.getElem_cons_zero, Act.put, List.setIfInBounds_toArray, List.set_cons_zero, List.set_cons_succ]
            refine mixs_take 15 (v := ?_) rfl (by kernel_rfl) (fun _ _ _ h => h) (by kernel_rfl) (by assumption) (fun s => ?hy) ?_; case hy => (go_simp <;> with_reducible rfl)
            try simp only [List.getElem_toArray, List.getElem_cons_succ, List.getElem_cons_zero, Act.put, List.setIfInBounds_toArray, List.set_cons_zero, List.set_cons_succ]
            refine mixs_take 16 (v := ?_) rfl (by kernel_rfl) (fun _ _ _ h => h) (by kernel_rfl) (by assumption) (fun s => ?hy) ?_; case hy => (go_simp <;> with_reducible rfl)
            try simp only [List.getElem_toArray, List.getElem_cons_succ, List.getElem_cons_zero, Act.put, List.setIfInBounds_toArray, List.set_cons_zero, List.set_cons_succ]
            refine mixs_take 17 (v := ?_) rfl (by kernel_rfl) (fun _ _ _ h => h) (by kernel_rfl) (by assumption) (fun s => ?hy) ?_; case hy => (go_simp <;> with_reducible rfl)
            try simp only [List.getElem_toArray, List.getElem_cons_succ, List.getElem_cons_zero, Act.put, List.setIfInBounds_toArray, List.set_cons_zero, List.set_cons_succ]
            refine mixs_take 18 (v := ?_) rfl (by kernel_rfl) (fun _ _ _ h => h) (by kernel_rfl) (by assumption) (fun s => ?hy) ?_; case hy => (go_simp <;> with_reducible rfl)
            try simp only [List.getElem_toArray, List.getElem_cons_succ, List.getElem_cons_zero, Act.put, List.setIfInBounds_toArray, List.set_cons_zero, List.set_cons_succ]
            refine mixs_take 19 (v := ?_) rfl (by kernel_rfl) (fun _ _ _ h => h) (by kernel_rfl) (by assumption) (fun s => ?hy) ?_; case hy => (go_simp <;> with_reducible rfl)
            try simp only [List.getElem_toArray, List.getElem_cons_succ, List.getElem_cons_zero, Act.put, List.setIfInBounds_toArray, List.set_cons_zero, List.set_cons_succ]
            refine mixs_take 20 (v := ?_) rfl (by kernel_rfl) (fun _ _ _ h => h) (by kernel_rfl) (by assumption) (fun s => ?hy) ?_; case hy => (go_simp <;> with_reducible rfl)
            try simp only [List.getElem_toArray, List.getElem_cons_succ, List.getElem_cons_zero, Act.put, List.setIfInBounds_toArray, List.set_cons_zero, List.set_cons_succ]
            refine mixs_take 21 (v := ?_) rfl (by kernel_rfl) (fun _ _ _ h => h) (by kernel_rfl) (by assumption) (fun s => ?hy) ?_; case hy => (go_simp <;> with_reducible rfl)
            try simp only [List.getElem_toArray, List.getElem_cons_succ, List.getElem_cons_zero, Act.put, List.setIfInBounds_toArray, List.set_cons_zero, List.set_cons_succ]
            refine mixs_take 22 (v := ?_) rfl (by kernel_rfl) (fun _ _ _ h => h) (by kernel_rfl) (by assumption) (fun s => ?hy) ?_; case hy => (go_simp <;> with_reducible rfl)
            try simp only [List.getElem_toArray, List.getElem_cons_succ, List.getElem_cons_zero, Act.put, List.setIfInBounds_toArray, List.set_cons_zero, List.set_cons_succ]
            refine mixs_take 23 (v := ?_) rfl (by kernel_rfl) (fun _ _ _ h => h) (by kernel_rfl) (by assumption) (fun s => ?hy) ?_; case hy => (go_simp <;> with_reducible rfl)
            try simp only [List.getElem_toArray, List.getElem_cons_succ, List.getElem_cons_zero, Act.put, List.setIfInBounds_toArray, List.set_cons_zero, List.set_cons_succ]
            refine wpAnyH_done (by kernel_rfl) ?_ _
            clear kp ki kF
            go_wp2_with (first
              | (go_at_call 25; (with_reducible refine (cA.out _).mono ?_); rintro _ w9 ⟨rfl, hk9⟩; have hS1 := hS.keepB hk9; clear hk9 hS; have hS := hS1; clear hS1))
            go_ret
            exact ⟨rfl, hS.below⟩
          · have dl : decide (cs[j].id ≤ cs[p].id) = false := decide_eq_false hle
            have hnx2 := Lib.hid (hnx (by omega))
            clear hnx hle
            generalize cs[j].id = idj at *
            generalize cs[p].id = idp at *
            generalize flRow cs[j].f = RF at *
            go_wp2_with fail
            refine mixs_begin (by kernel_rfl) hS ?_
            clear hS
            intro w2 hS
            refine mixs_take 0 (v := ?_) rfl (by kernel_rfl) (fun _ _ _ h => h) (by kernel_rfl) (by assumption) (fun s => ?hy) ?_; case hy => (go_simp <;> with_reducible rfl)
            try simp only [List.getElem_toArray, List.getElem_cons_succ, List.getElem_cons_zero, Act.put, List.setIfInBounds_toArray, List.set_cons_zero, List.set_cons_succ]
            refine mixs_take 1 (v := ?_) rfl (by kernel_rfl) (fun _ _ _ h => h) (by kernel_rfl) (by assumption) (fun s => ?hy) ?_; case hy => (go_simp <;> with_reducible rfl)
            try simp only [List.getElem_toArray, List.getElem_cons_succ, List.getElem_cons_zero, Act.put, List.setIfInBounds_toArray, List.set_cons_zero, List.set_cons_succ]
            refine mixs_take 2 (v := ?_) rfl (by kernel_rfl) (fun _ _ _ h => h) (by kernel_rfl) (by assumption) (fun s => ?hy) ?_; case hy => (go_simp <;> with_reducible rfl)
            try simp only [List.getElem_toArray, List.getElem_cons_succ, List.getElem_cons_zero, Act.put, List.setIfInBounds_toArray, List.set_cons_zero, List.set_cons_succ]
            refine mixs_take 3 (v := ?_) rfl (by kernel_rfl) (fun _ _ _ h => h) (by kernel_rfl) (by assumption) (fun s => ?hy) ?_; case hy => (go_simp <;> with_reducible rfl)
            try simp only [List.getElem_toArray, List.getElem_cons_succ, List.getElem_cons_zero, Act.put, List.setIfInBounds_toArray, List.set_cons_zero, List.set_cons_succ]
            refine mixs_take 4 (v := ?_) rfl (by kernel_rfl) (fun _ _ _ h => h) (by kernel_rfl) (by assumption) (fun s => ?hy) ?_; case hy => (refine Eq.trans (take_loadrow s rfl rfl kF) ?_; with_reducible rfl)
            try simp only [List.getElem_toArray, List.getElem_cons_succ, List.getElem_cons_zero, Act.put, List.setIfInBounds_toArray, List.set_cons_zero, List.set_cons_succ]
            refine mixs_one 5 (by kernel_rfl) rfl (fun K hK => ?_)
            go_simp
            ( (go_at_call 34; (with_reducible refine (hcG.out _).mono ?_); rintro _ w9 ⟨rfl, hk9⟩; have hS1 := hS.keepB hk9; clear hk9 hS; have hS := hS1; clear hS1) )
            try clear hC
            refine hK.out _ _ _ (fun _ h => h) (by first | exact hS | exact hS.drop | exact hS.drop.drop | exact hS.drop.drop.drop | exact hS.drop.drop.drop.drop | exact hS.empty | exact hS.one 0 rfl | exact hS.one 1 rfl | exact hS.one 2 rfl | exact hS.one 3 rfl | exact hS.one 4 rfl | exact hS.one 5 rfl | exact hS.one 6 rfl | exact hS.one 7 rfl | exact hS.one 8 rfl | exact hS.one 9 rfl | exact hS.one 10 rfl | exact hS.one 11 rfl) (fun hC => ?_)
            clear hK K
            try simp only [List.getElem_toArray, List.getElem_cons_succ, List.getElem_cons_zero, Act.put, List.setIfInBounds_toArray, List.set_cons_zero, List.set_cons_succ]
            refine mixs_take 6 (v := ?_) rfl (by kernel_rfl) (fun _ _ _ h => h) (by kernel_rfl) (by assumption) (fun s => ?hy) ?_; case hy => (go_simp <;> with_reducible rfl)
            try simp only [List.getElem_toArray, List.getElem_cons_succ, List.getElem_cons_zero, Act.put, List.setIfInBounds_toArray, List.set_cons_zero, List.set_cons_succ]
            refine mixs_take 7 (v := ?_) rfl (by kernel_rfl) (fun _ _ _ h => h) (by kernel_rfl) (by assumption) (fun s => ?hy) ?_; case hy => (go_simp <;> with_reducible rfl)
            try simp only [List.getElem_toArray, List.getElem_cons_succ, List.getElem_cons_zero, Act.put, List.setIfInBounds_toArray, List.set_cons_zero, List.set_cons_succ]
            refine mixs_take 8 (v := ?_) rfl (by kernel_rfl) (fun _ _ _ h => h) (by kernel_rfl) (by assumption) (fun s => ?hy) ?_; case hy => (go_simp <;> with_reducible rfl)
            try simp only [List.getElem_toArray, List.getElem_cons_succ, List.getElem_cons_zero, Act.put, List.setIfInBounds_toArray, List.set_cons_zero, List.set_cons_succ]
            refine mixs_take 9 (v := ?_) rfl (by kernel_rfl) (fun _ _ _ h => h) (by kernel_rfl) (by assumption) (fun s => ?hy) ?_; case hy => (go_simp <;> with_reducible rfl)
            try simp only [List.getElem_toArray, List.getElem_cons_succ, List.getElem_cons_zero, Act.put, List.setIfInBounds_toArray, List.set_cons_zero, List.set_cons_succ]
            refine mixs_take 10 (v := ?_) rfl (by kernel_rfl) (fun _ _ _ h => h) (by kernel_rfl) (by assumption) (fun s => ?hy) ?_; case hy => (go_simp <;> with_reducible rfl)
            try simp only [List.getElem_toArray, List.getElem_cons_succ, List.getElem_cons_zero, Act.put, List.setIfInBounds_toArray, List.set_cons_zero, List.set_cons_succ]
            refine mixs_take 11 (v := ?_) rfl (by kernel_rfl) (fun _ _ _ h => h) (by kernel_rfl) (by assumption) (fun s => ?hy) ?_; case hy => (go_simp <;> with_reducible rfl)
            try simp only [List.getElem_toArray, List.getElem_cons_succ, List.getElem_cons_zero, Act.put, List.setIfInBounds_toArray, List.set_cons_zero, List.set_cons_succ]
            refine mixs_take 12 (v := ?_) rfl (by kernel_rfl) (fun _ _ _ h => h) (by kernel_rfl) (by assumption) (fun s => ?hy) ?_; case hy => (go_simp <;> with_reducible rfl)
            try simp only [List.getElem_toArray, List.getElem_cons_succ, List.getElem_cons_zero, Act.put, List.setIfInBounds_toArray, List.set_cons_zero, List.set_cons_succ]
            refine mixs_take 13 (v := ?_) rfl (by kernel_rfl) (fun _ _ _ h => h) (by kernel_rfl) (by assumption) (fun s => ?hy) ?_; case hy => (go_simp <;> with_reducible rfl)
            try simp only [List.getElem_toArray, List.getElem_cons_succ, List.getElem_cons_zero, Act.put, List.setIfInBounds_toArray, List.set_cons_zero, List.set_cons_succ]
            refine mixs_take 14 (v := ?_) rfl (by kernel_rfl) (fun _ _ _ h => h) (by kernel_rfl) (by assumption) (fun s => ?hy) ?_; case hy => (go_simp <;> with_reducible rfl)
            try simp only [List.getElem_toArray, List.getElem_cons_succ, List.getElem_cons_zero, Act.put, List.setIfInBounds_toArray, List.set_cons_zero, List.set_cons_succ]
            refine mixs_take 15 (v := ?_) rfl (by kernel_rfl) (fun _ _ _ h => h) (by kernel_rfl) (by assumption) (fun s => ?hy) ?_; case hy => (go_simp <;> with_reducible rfl)
            try simp only [List.getElem_toArray, List.getElem_cons_succ, List.getElem_cons_zero, Act.put, List.setIfInBounds_toArray, List.set_cons_zero, List.set_cons_succ]
            refine mixs_take 16 (v := ?_) rfl (by kernel_rfl) (fun _ _ _ h => h) (by kernel_rfl) (by assumption) (fun s => ?hy) ?_; case hy => (go_simp <;> with_reducible rfl)
            try simp only [List.getElem_toArray, List.getElem_cons_succ, List.getElem_cons_zero, Act.put, List.setIfInBounds_toArray, List.set_cons_zero, List.set_cons_succ]
            refine mixs_take 17 (v := ?_) rfl (by kernel_rfl) (fun _ _ _ h => h) (by kernel_rfl) (by assumption) (fun s => ?hy) ?_; case hy => (go_simp <;> with_reducible rfl)
            try simp only [List.getElem_toArray, List.getElem_cons_succ, List.getElem_cons_zero, Act.put, List.setIfInBounds_toArray, List.set_cons_zero, List.set_cons_succ]
            refine mixs_take 18 (v := ?_) rfl (by kernel_rfl) (fun _ _ _ h => h) (by kernel_rfl) (by assumption) (fun s => ?hy) ?_; case hy => (go_simp <;> with_reducible rfl)
            try simp only [List.getElem_toArray, List.getElem_cons_succ, List.getElem_cons_zero, Act.put, List.setIfInBounds_toArray, List.set_cons_zero, List.set_cons_succ]
            refine mixs_take 19 (v := ?_) rfl (by kernel_rfl) (fun _ _ _ h => h) (by kernel_rfl) (by assumption) (fun s => ?hy) ?_; case hy => (go_simp <;> with_reducible rfl)
            try simp only [List.getElem_toArray, List.getElem_cons_succ, List.getElem_cons_zero, Act.put, List.setIfInBounds_toArray, List.set_cons_zero, List.set_cons_succ]
            refine mixs_take 20 (v := ?_) rfl (by kernel_rfl) (fun _ _ _ h => h) (by kernel_rfl) (by assumption) (fun s => ?hy) ?_; case hy => (go_simp <;> with_reducible rfl)
            try simp only [List.getElem_toArray, List.getElem_cons_succ, List.getElem_cons_zero, Act.put, List.setIfInBounds_toArray, List.set_cons_zero, List.set_cons_succ]
            refine mixs_take 21 (v := ?_) rfl (by kernel_rfl) (fun _ _ _ h => h) (by kernel_rfl) (by assumption) (fun s => ?hy) ?_; case hy => (go_simp <;> with_reducible rfl)
            try simp only [List.getElem_toArray, List.getElem_cons_succ, List.getElem_cons_zero, Act.put, List.setIfInBounds_toArray, List.set_cons_zero, List.set_cons_succ]
            refine mixs_take 22 (v := ?_) rfl (by kernel_rfl) (fun _ _ _ h => h) (by kernel_rfl) (by assumption) (fun s => ?hy) ?_; case hy => (go_simp <;> with_reducible rfl)
            try simp only [List.getElem_toArray, List.getElem_cons_succ, List.getElem_cons_zero, Act.put, List.setIfInBounds_toArray, List.set_cons_zero, List.set_cons_succ]
            refine mixs_take 23 (v := ?_) rfl (by kernel_rfl) (fun _ _ _ h => h) (by kernel_rfl) (by assumption) (fun s => ?hy) ?_; case hy => (go_simp <;> with_reducible rfl)
            try simp only [List.getElem_toArray, List.getElem_cons_succ, List.getElem_cons_zero, Act.put, List.setIfInBounds_toArray, List.set_cons_zero, List.set_cons_succ]
            refine wpAnyH_done (by kernel_rfl) ?_ _
            clear kp ki kF
            go_wp2_with fail
            go_roundg (n - (j + 1))
            case measure => omega
            case rel => exact ⟨j + 1, by omega, by go_num, hnx2, hS⟩
        · have dj : decide (0 < (j : Int)) = false := decide_eq_false (by omega)
          have dj2 : decide (0 < j) = false := decide_eq_false hj0
          have hnx2 := Lib.hid (show ∀ i (hi : i + 1 < cs.length), i + 1 < j + 1 → cs[i].id < cs[i + 1].id from fun i _ h => by omega)
          clear hj0 hpv hf3
          generalize cs[j].id = idj at *
          generalize flRow cs[j].f = RF at *
          go_wp2_with fail
          refine mixs_begin (by kernel_rfl) hS ?_
          clear hS
          intro w2 hS
          refine mixs_take 0 (v := ?_) rfl (by kernel_rfl) (fun _ _ _ h => h) (by kernel_rfl) (by assumption) (fun s => ?hy) ?_; case hy => (go_simp <;> with_reducible rfl)
          try simp only [List.getElem_toArray, List.getElem_cons_succ, List.getElem_cons_zero, Act.put, List.setIfInBounds_toArray, List.set_cons_zero, List.set_cons_succ]
          refine mixs_take 1 (v := ?_) rfl (by kernel_rfl) (fun _ _ _ h => h) (by kernel_rfl) (by assumption) (fun s => ?hy) ?_; case hy => (go_simp <;> with_reducible rfl)
          try simp only [List.getElem_toArray, List.getElem_cons_succ, List.getElem_cons_zero, Act.put, List.setIfInBounds_toArray, List.set_cons_zero, List.set_cons_succ]
          refine mixs_take 2 (v := ?_) rfl (by kernel_rfl) (fun _ _ _ h => h) (by kernel_rfl) (by assumption) (fun s => ?hy) ?_; case hy => (go_simp <;> with_reducible rfl)
          try simp only [List.getElem_toArray, List.getElem_cons_succ, List.getElem_cons_zero, Act.put, List.setIfInBounds_toArray, List.set_cons_zero, List.set_cons_succ]
          refine mixs_take 3 (v := ?_) rfl (by kernel_rfl) (fun _ _ _ h => h) (by kernel_rfl) (by assumption) (fun s => ?hy) ?_; case hy => (go_simp <;> with_reducible rfl)
          try simp only [List.getElem_toArray, List.getElem_cons_succ, List.getElem_cons_zero, Act.put, List.setIfInBounds_toArray, List.set_cons_zero, List.set_cons_succ]
          refine mixs_take 4 (v := ?_) rfl (by kernel_rfl) (fun _ _ _ h => h) (by kernel_rfl) (by assumption) (fun s => ?hy) ?_; case hy => (refine Eq.trans (take_loadrow s rfl rfl kF) ?_; with_reducible rfl)
          try simp only [List.getElem_toArray, List.getElem_cons_succ, List.getElem_cons_zero, Act.put, List.setIfInBounds_toArray, List.set_cons_zero, List.set_cons_succ]
          refine mixs_one 5 (by kernel_rfl) rfl (fun K hK => ?_)
          go_simp
          ( (go_at_call 34; (with_reducible refine (hcG.out _).mono ?_); rintro _ w9 ⟨rfl, hk9⟩; have hS1 := hS.keepB hk9; clear hk9 hS; have hS := hS1; clear hS1) )
          try clear hC
          refine hK.out _ _ _ (fun _ h => h) (by first | exact hS | exact hS.drop | exact hS.drop.drop | exact hS.drop.drop.drop | exact hS.drop.drop.drop.drop | exact hS.empty | exact hS.one 0 rfl | exact hS.one 1 rfl | exact hS.one 2 rfl | exact hS.one 3 rfl | exact hS.one 4 rfl | exact hS.one 5 rfl | exact hS.one 6 rfl | exact hS.one 7 rfl | exact hS.one 8 rfl | exact hS.one 9 rfl | exact hS.one 10 rfl | exact hS.one 11 rfl) (fun hC => ?_)
          clear hK K
          try simp only [List.getElem_toArray, List.getElem_cons_succ, List.getElem_cons_zero, Act.put, List.setIfInBounds_toArray, List.set_cons_zero, List.set_cons_succ]
          refine mixs_take 6 (v := ?_) rfl (by kernel_rfl) (fun _ _ _ h => h) (by kernel_rfl) (by assumption) (fun s => ?hy) ?_; case hy => (go_simp <;> with_reducible rfl)
          try simp only [List.getElem_toArray, List.getElem_cons_succ, List.getElem_cons_zero, Act.put, List.setIfInBounds_toArray, List.set_cons_zero, List.set_cons_succ]
          refine mixs_take 7 (v := ?_) rfl (by kernel_rfl) (fun _ _ _ h => h) (by kernel_rfl) (by assumption) (fun s => ?hy) ?_; case hy => (go_simp <;> with_reducible rfl)
          try simp only [List.getElem_toArray, List.getElem_cons_succ, List.getElem_cons_zero, Act.put, List.setIfInBounds_toArray, List.set_cons_zero, List.set_cons_succ]
          refine mixs_take 8 (v := ?_) rfl (by kernel_rfl) (fun _ _ _ h => h) (by kernel_rfl) (by assumption) (fun s => ?hy) ?_; case hy => (go_simp <;> with_reducible rfl)
          try simp only [List.getElem_toArray, List.getElem_cons_succ, List.getElem_cons_zero, Act.put, List.setIfInBounds_toArray, List.set_cons_zero, List.set_cons_succ]
          refine mixs_take 9 (v := ?_) rfl (by kernel_rfl) (fun _ _ _ h => h) (by kernel_rfl) (by assumption) (fun s => ?hy) ?_; case hy => (go_simp <;> with_reducible rfl)
          try simp only [List.getElem_toArray, List.getElem_cons_succ, List.getElem_cons_zero, Act.put, List.setIfInBounds_toArray, List.set_cons_zero, List.set_cons_succ]
          refine mixs_skip 10 rfl (by kernel_rfl) (fun _ _ _ h => h) (by kernel_rfl) (by assumption) ?_
          try simp only [List.getElem_toArray, List.getElem_cons_succ, List.getElem_cons_zero, Act.put, List.setIfInBounds_toArray, List.set_cons_zero, List.set_cons_succ]
          refine mixs_skip 11 rfl (by kernel_rfl) (fun _ _ _ h => h) (by kernel_rfl) (by assumption) ?_
          try simp only [List.getElem_toArray, List.getElem_cons_succ, List.getElem_cons_zero, Act.put, List.setIfInBounds_toArray, List.set_cons_zero, List.set_cons_succ]
          refine mixs_skip 12 rfl (by kernel_rfl) (fun _ _ _ h => h) (by kernel_rfl) (by assumption) ?_
          try simp only [List.getElem_toArray, List.getElem_cons_succ, List.getElem_cons_zero, Act.put, List.setIfInBounds_toArray, List.set_cons_zero, List.set_cons_succ]
          refine mixs_skip 13 rfl (by kernel_rfl) (fun _ _ _ h => h) (by kernel_rfl) (by assumption) ?_
          try simp only [List.getElem_toArray, List.getElem_cons_succ, List.getElem_cons_zero, Act.put, List.setIfInBounds_toArray, List.set_cons_zero, List.set_cons_succ]
          refine mixs_skip 14 rfl (by kernel_rfl) (fun _ _ _ h => h) (by kernel_rfl) (by assumption) ?_
          try simp only [List.getElem_toArray, List.getElem_cons_succ, List.getElem_cons_zero, Act.put, List.setIfInBounds_toArray, List.set_cons_zero, List.set_cons_succ]
          refine mixs_skip 15 rfl (by kernel_rfl) (fun _ _ _ h => h) (by kernel_rfl) (by assumption) ?_
          try simp only [List.getElem_toArray, List.getElem_cons_succ, List.getElem_cons_zero, Act.put, List.setIfInBounds_toArray, List.set_cons_zero, List.set_cons_succ]
          refine mixs_skip 16 rfl (by kernel_rfl) (fun _ _ _ h => h) (by kernel_rfl) (by assumption) ?_
          try simp only [List.getElem_toArray, List.getElem_cons_succ, List.getElem_cons_zero, Act.put, List.setIfInBounds_toArray, List.set_cons_zero, List.set_cons_succ]
          refine mixs_skip 17 rfl (by kernel_rfl) (fun _ _ _ h => h) (by kernel_rfl) (by assumption) ?_
          try simp only [List.getElem_toArray, List.getElem_cons_succ, List.getElem_cons_zero, Act.put, List.setIfInBounds_toArray, List.set_cons_zero, List.set_cons_succ]
          refine mixs_skip 18 rfl (by kernel_rfl) (fun _ _ _ h => h) (by kernel_rfl) (by assumption) ?_
          try simp only [List.getElem_toArray, List.getElem_cons_succ, List.getElem_cons_zero, Act.put, List.setIfInBounds_toArray, List.set_cons_zero, List.set_cons_succ]
          refine mixs_skip 19 rfl (by kernel_rfl) (fun _ _ _ h => h) (by kernel_rfl) (by assumption) ?_
          try simp only [List.getElem_toArray, List.getElem_cons_succ, List.getElem_cons_zero, Act.put, List.setIfInBounds_toArray, List.set_cons_zero, List.set_cons_succ]
          refine mixs_skip 20 rfl (by kernel_rfl) (fun _ _ _ h => h) (by kernel_rfl) (by assumption) ?_
          try simp only [List.getElem_toArray, List.getElem_cons_succ, List.getElem_cons_zero, Act.put, List.setIfInBounds_toArray, List.set_cons_zero, List.set_cons_succ]
          refine mixs_skip 21 rfl (by kernel_rfl) (fun _ _ _ h => h) (by kernel_rfl) (by assumption) ?_
          try simp only [List.getElem_toArray, List.getElem_cons_succ, List.getElem_cons_zero, Act.put, List.setIfInBounds_toArray, List.set_cons_zero, List.set_cons_succ]
          refine mixs_take 22 (v := ?_) rfl (by kernel_rfl) (fun _ _ _ h => h) (by kernel_rfl) (by assumption) (fun s => ?hy) ?_; case hy => (go_simp <;> with_reducible rfl)
          try simp only [List.getElem_toArray, List.getElem_cons_succ, List.getElem_cons_zero, Act.put, List.setIfInBounds_toArray, List.set_cons_zero, List.set_cons_succ]
          refine mixs_take 23 (v := ?_) rfl (by kernel_rfl) (fun _ _ _ h => h) (by kernel_rfl) (by assumption) (fun s => ?hy) ?_; case hy => (go_simp <;> with_reducible rfl)
          try simp only [List.getElem_toArray, List.getElem_cons_succ, List.getElem_cons_zero, Act.put, List.setIfInBounds_toArray, List.set_cons_zero, List.set_cons_succ]
          refine wpAnyH_done (by kernel_rfl) ?_ _
          clear ki kF
          go_wp2_with fail
          go_roundg (n - (j + 1))
          case measure => omega
          case rel => exact ⟨j + 1, by omega, by go_num, hnx2, hS⟩
      · rw [hlg] at hcG
        replace hcG := Lib.hid hcG
        clear hlg hpv hf3
        generalize cs[j].id = idj at *
        generalize flRow cs[j].f = RF at *
        go_wp2_with fail
        refine mixs_begin (by kernel_rfl) hS ?_
        clear hS
        intro w2 hS
        refine mixs_take 0 (v := ?_) rfl (by kernel_rfl) (fun _ _ _ h => h) (by kernel_rfl) (by assumption) (fun s => ?hy) ?_; case hy => (go_simp <;> with_reducible rfl)
        try simp only [List.getElem_toArray, List.getElem_cons_succ, List.getElem_cons_zero, Act.put, List.setIfInBounds_toArray, List.set_cons_zero, List.set_cons_succ]
        refine mixs_take 1 (v := ?_) rfl (by kernel_rfl) (fun _ _ _ h => h) (by kernel_rfl) (by assumption) (fun s => ?hy) ?_; case hy => (go_simp <;> with_reducible rfl)
        try simp only [List.getElem_toArray, List.getElem_cons_succ, List.getElem_cons_zero, Act.put, List.setIfInBounds_toArray, List.set_cons_zero, List.set_cons_succ]
        refine mixs_take 2 (v := ?_) rfl (by kernel_rfl) (fun _ _ _ h => h) (by kernel_rfl) (by assumption) (fun s => ?hy) ?_; case hy => (go_simp <;> with_reducible rfl)
        try simp only [List.getElem_toArray, List.getElem_cons_succ, List.getElem_cons_zero, Act.put, List.setIfInBounds_toArray, List.set_cons_zero, List.set_cons_succ]
        refine mixs_take 3 (v := ?_) rfl (by kernel_rfl) (fun _ _ _ h => h) (by kernel_rfl) (by assumption) (fun s => ?hy) ?_; case hy => (go_simp <;> with_reducible rfl)
        try simp only [List.getElem_toArray, List.getElem_cons_succ, List.getElem_cons_zero, Act.put, List.setIfInBounds_toArray, List.set_cons_zero, List.set_cons_succ]
        refine mixs_take 4 (v := ?_) rfl (by kernel_rfl) (fun _ _ _ h => h) (by kernel_rfl) (by assumption) (fun s => ?hy) ?_; case hy => (refine Eq.trans (take_loadrow s rfl rfl kF) ?_; with_reducible rfl)
        try simp only [List.getElem_toArray, List.getElem_cons_succ, List.getElem_cons_zero, Act.put, List.setIfInBounds_toArray, List.set_cons_zero, List.set_cons_succ]
        refine mixs_one 5 (by kernel_rfl) rfl (fun K hK => ?_)
        go_simp
        ( (go_at_call 34; (with_reducible refine (hcG.out _).mono ?_); rintro _ w9 ⟨rfl, hk9⟩; have hS1 := hS.keepB hk9; clear hk9 hS; have hS := hS1; clear hS1) )
        try clear hC
        refine hK.out _ _ _ (fun _ h => h) (by first | exact hS | exact hS.drop | exact hS.drop.drop | exact hS.drop.drop.drop | exact hS.drop.drop.drop.drop | exact hS.empty | exact hS.one 0 rfl | exact hS.one 1 rfl | exact hS.one 2 rfl | exact hS.one 3 rfl | exact hS.one 4 rfl | exact hS.one 5 rfl | exact hS.one 6 rfl | exact hS.one 7 rfl | exact hS.one 8 rfl | exact hS.one 9 rfl | exact hS.one 10 rfl | exact hS.one 11 rfl) (fun hC => ?_)
        clear hK K
        try simp only [List.getElem_toArray, List.getElem_cons_succ, List.getElem_cons_zero, Act.put, List.setIfInBounds_toArray, List.set_cons_zero, List.set_cons_succ]
        refine mixs_take 6 (v := ?_) rfl (by kernel_rfl) (fun _ _ _ h => h) (by kernel_rfl) (by assumption) (fun s => ?hy) ?_; case hy => (go_simp <;> with_reducible rfl)
        try simp only [List.getElem_toArray, List.getElem_cons_succ, List.getElem_cons_zero, Act.put, List.setIfInBounds_toArray, List.set_cons_zero, List.set_cons_succ]
        refine mixs_skip 7 rfl (by kernel_rfl) (fun _ _ _ h => h) (by kernel_rfl) (by assumption) ?_
        try simp only [List.getElem_toArray, List.getElem_cons_succ, List.getElem_cons_zero, Act.put, List.setIfInBounds_toArray, List.set_cons_zero, List.set_cons_succ]
        refine mixs_skip 8 rfl (by kernel_rfl) (fun _ _ _ h => h) (by kernel_rfl) (by assumption) ?_
        try simp only [List.getElem_toArray, List.getElem_cons_succ, List.getElem_cons_zero, Act.put, List.setIfInBounds_toArray, List.set_cons_zero, List.set_cons_succ]
        refine mixs_skip 9 rfl (by kernel_rfl) (fun _ _ _ h => h) (by kernel_rfl) (by assumption) ?_
        try simp only [List.getElem_toArray, List.getElem_cons_succ, List.getElem_cons_zero, Act.put, List.setIfInBounds_toArray, List.set_cons_zero, List.set_cons_succ]
        refine mixs_skip 10 rfl (by kernel_rfl) (fun _ _ _ h => h) (by kernel_rfl) (by assumption) ?_
        try simp only [List.getElem_toArray, List.getElem_cons_succ, List.getElem_cons_zero, Act.put, List.setIfInBounds_toArray, List.set_cons_zero, List.set_cons_succ]
        refine mixs_skip 11 rfl (by kernel_rfl) (fun _ _ _ h => h) (by kernel_rfl) (by assumption) ?_
        try simp only [List.getElem_toArray, List.getElem_cons_succ, List.getElem_cons_zero, Act.put, List.setIfInBounds_toArray, List.set_cons_zero, List.set_cons_succ]
        refine mixs_skip 12 rfl (by kernel_rfl) (fun _ _ _ h => h) (by kernel_rfl) (by assumption) ?_
        try simp only [List.getElem_toArray, List.getElem_cons_succ, List.getElem_cons_zero, Act.put, List.setIfInBounds_toArray, List.set_cons_zero, List.set_cons_succ]
        refine mixs_skip 13 rfl (by kernel_rfl) (fun _ _ _ h => h) (by kernel_rfl) (by assumption) ?_
        try simp only [List.getElem_toArray, List.getElem_cons_succ, List.getElem_cons_zero, Act.put, List.setIfInBounds_toArray, List.set_cons_zero, List.set_cons_succ]
        refine mixs_skip 14 rfl (by kernel_rfl) (fun _ _ _ h => h) (by kernel_rfl) (by assumption) ?_
        try simp only [List.getElem_toArray, List.getElem_cons_succ, List.getElem_cons_zero, Act.put, List.setIfInBounds_toArray, List.set_cons_zero, List.set_cons_succ]
        refine mixs_skip 15 rfl (by kernel_rfl) (fun _ _ _ h => h) (by kernel_rfl) (by assumption) ?_
        try simp only [List.getElem_toArray, List.getElem_cons_succ, List.getElem_cons_zero, Act.put, List.setIfInBounds_toArray, List.set_cons_zero, List.set_cons_succ]
        refine mixs_skip 16 rfl (by kernel_rfl) (fun _ _ _ h => h) (by kernel_rfl) (by assumption) ?_
        try simp only [List.getElem_toArray, List.getElem_cons_succ, List.getElem_cons_zero, Act.put, List.setIfInBounds_toArray, List.set_cons_zero, List.set_cons_succ]
        refine mixs_skip 17 rfl (by kernel_rfl) (fun _ _ _ h => h) (by kernel_rfl) (by assumption) ?_
        try simp only [List.getElem_toArray, List.getElem_cons_succ, List.getElem_cons_zero, Act.put, List.setIfInBounds_toArray, List.set_cons_zero, List.set_cons_succ]
        refine mixs_skip 18 rfl (by kernel_rfl) (fun _ _ _ h => h) (by kernel_rfl) (by assumption) ?_
        try simp only [List.getElem_toArray, List.getElem_cons_succ, List.getElem_cons_zero, Act.put, List.setIfInBounds_toArray, List.set_cons_zero, List.set_cons_succ]
        refine mixs_skip 19 rfl (by kernel_rfl) (fun _ _ _ h => h) (by kernel_rfl) (by assumption) ?_
        try simp only [List.getElem_toArray, List.getElem_cons_succ, List.getElem_cons_zero, Act.put, List.setIfInBounds_toArray, List.set_cons_zero, List.set_cons_succ]
        refine mixs_skip 20 rfl (by kernel_rfl) (fun _ _ _ h => h) (by kernel_rfl) (by assumption) ?_
        try simp only [List.getElem_toArray, List.getElem_cons_succ, List.getElem_cons_zero, Act.put, List.setIfInBounds_toArray, List.set_cons_zero, List.set_cons_succ]
        refine mixs_skip 21 rfl (by kernel_rfl) (fun _ _ _ h => h) (by kernel_rfl) (by assumption) ?_
        try simp only [List.getElem_toArray, List.getElem_cons_succ, List.getElem_cons_zero, Act.put, List.setIfInBounds_toArray, List.set_cons_zero, List.set_cons_succ]
        refine mixs_skip 22 rfl (by kernel_rfl) (fun _ _ _ h => h) (by kernel_rfl) (by assumption) ?_
        try simp only [List.getElem_toArray, List.getElem_cons_succ, List.getElem_cons_zero, Act.put, List.setIfInBounds_toArray, List.set_cons_zero, List.set_cons_succ]
        refine mixs_take 23 (v := ?_) rfl (by kernel_rfl) (fun _ _ _ h => h) (by kernel_rfl) (by assumption) (fun s => ?hy) ?_; case hy => (go_simp <;> with_reducible rfl)
        try simp only [List.getElem_toArray, List.getElem_cons_succ, List.getElem_cons_zero, Act.put, List.setIfInBounds_toArray, List.set_cons_zero, List.set_cons_succ]
        refine wpAnyH_done (by kernel_rfl) ?_ _
        clear ki kF
        go_wp2_with (first
          | (go_at_call 25; (with_reducible refine (cA.out _).mono ?_); rintro _ w9 ⟨rfl, hk9⟩; have hS1 := hS.keepB hk9; clear hk9 hS; have hS := hS1; clear hS1))
        go_ret
        exact ⟨rfl, hS.below⟩
    · have hris : RisC cs := ris_of_adj fun i hi => hr.out i hi (by have := hlen.out; omega)
      have cT2 := cT.out hris
      clear cT hr
      cases G
      ·
        clear cT2 cR
        cases E
        ·
          go_wp2_with (first
            | (go_at_call 32; (with_reducible refine (cC.out _ hS.below).mono ?_); rintro _ w3 ⟨rfl, hk9⟩; have hS1 := hS.keepB hk9; clear hk9 hS; have hS := hS1; clear hS1)
            | (go_at_call 35; (with_reducible refine (cD.out _ hS.below).mono ?_); rintro _ w3 ⟨rfl, hk9⟩; have hS1 := hS.keepB hk9; clear hk9 hS; have hS := hS1; clear hS1)
            | (go_at_call 30; (with_reducible refine (cS.out _ hS.below).mono ?_); rintro _ w3 ⟨rfl, hk9⟩; have hS1 := hS.keepB hk9; clear hk9 hS; have hS := hS1; clear hS1)
            | (go_at_call 16; (with_reducible refine (cZ.out _ hS.below).mono ?_); rintro _ w3 ⟨rfl, hk9⟩; have hS1 := hS.keepB hk9; clear hk9 hS; have hS := hS1; clear hS1)
            | (go_at_call 25; (with_reducible refine (cA.out _).mono ?_); rintro _ w9 ⟨rfl, hk9⟩; have hS1 := hS.keepB hk9; clear hk9 hS; have hS := hS1; clear hS1))
          go_ret
          exact ⟨rfl, hS.below⟩
        ·
          go_wp2_with (first
            | (go_at_call 32; (with_reducible refine (cC.out _ hS.below).mono ?_); rintro _ w3 ⟨rfl, hk9⟩; have hS1 := hS.keepB hk9; clear hk9 hS; have hS := hS1; clear hS1)
            | (go_at_call 35; (with_reducible refine (cD.out _ hS.below).mono ?_); rintro _ w3 ⟨rfl, hk9⟩; have hS1 := hS.keepB hk9; clear hk9 hS; have hS := hS1; clear hS1)
            | (go_at_call 30; (with_reducible refine (cS.out _ hS.below).mono ?_); rintro _ w3 ⟨rfl, hk9⟩; have hS1 := hS.keepB hk9; clear hk9 hS; have hS := hS1; clear hS1)
            | (go_at_call 16; (with_reducible refine (cZ.out _ hS.below).mono ?_); rintro _ w3 ⟨rfl, hk9⟩; have hS1 := hS.keepB hk9; clear hk9 hS; have hS := hS1; clear hS1)
            | (go_at_call 25; (with_reducible refine (cA.out _).mono ?_); rintro _ w9 ⟨rfl, hk9⟩; have hS1 := hS.keepB hk9; clear hk9 hS; have hS := hS1; clear hS1))
          go_ret
          exact ⟨rfl, hS.below⟩
      · have cT3 := cT2 rfl
        have cR3 := cR.out rfl
        clear cT2 cR hris
        cases hO : applyC cs l with
        | none =>
          rw [hO] at cT3 cR3
          replace cT3 := Lib.hid cT3
          replace cR3 := Lib.hid cR3
          clear hO
          cases E
          ·
            go_wp2_with (first
              | (go_at_call 32; (with_reducible refine (cC.out _ hS.below).mono ?_); rintro _ w3 ⟨rfl, hk9⟩; have hS1 := hS.keepB hk9; clear hk9 hS; have hS := hS1; clear hS1)
              | (go_at_call 35; (with_reducible refine (cD.out _ hS.below).mono ?_); rintro _ w3 ⟨rfl, hk9⟩; have hS1 := hS.keepB hk9; clear hk9 hS; have hS := hS1; clear hS1)
              | (go_at_call 30; (with_reducible refine (cS.out _ hS.below).mono ?_); rintro _ w3 ⟨rfl, hk9⟩; have hS1 := hS.keepB hk9; clear hk9 hS; have hS := hS1; clear hS1)
              | (go_at_call 16; (with_reducible refine (cZ.out _ hS.below).mono ?_); rintro _ w3 ⟨rfl, hk9⟩; have hS1 := hS.keepB hk9; clear hk9 hS; have hS := hS1; clear hS1)
              | (go_at_call 31; (with_reducible refine (cT3.out _ hS.below).mono ?_); rintro _ w3 ⟨rfl, hk9⟩; have hS1 := hS.keepB hk9; clear hk9 hS; have hS := hS1; clear hS1)
              | (go_at_call 20; (with_reducible refine (cR3.out _ hS.below).mono ?_); rintro _ w3 ⟨rfl, hk9⟩; have hS1 := hS.keepB hk9; clear hk9 hS; have hS := hS1; clear hS1)
              | (go_at_call 22; (with_reducible refine (cN0.out _).mono ?_); rintro _ w3 ⟨rfl, hk9⟩; have hS1 := hS.keepB hk9; clear hk9 hS; have hS := hS1; clear hS1)
              | (go_at_call 25; (with_reducible refine (cA.out _).mono ?_); rintro _ w9 ⟨rfl, hk9⟩; have hS1 := hS.keepB hk9; clear hk9 hS; have hS := hS1; clear hS1))
            go_ret
            exact ⟨rfl, hS.below⟩
          ·
            go_wp2_with (first
              | (go_at_call 32; (with_reducible refine (cC.out _ hS.below).mono ?_); rintro _ w3 ⟨rfl, hk9⟩; have hS1 := hS.keepB hk9; clear hk9 hS; have hS := hS1; clear hS1)
              | (go_at_call 35; (with_reducible refine (cD.out _ hS.below).mono ?_); rintro _ w3 ⟨rfl, hk9⟩; have hS1 := hS.keepB hk9; clear hk9 hS; have hS := hS1; clear hS1)
              | (go_at_call 30; (with_reducible refine (cS.out _ hS.below).mono ?_); rintro _ w3 ⟨rfl, hk9⟩; have hS1 := hS.keepB hk9; clear hk9 hS; have hS := hS1; clear hS1)
              | (go_at_call 16; (with_reducible refine (cZ.out _ hS.below).mono ?_); rintro _ w3 ⟨rfl, hk9⟩; have hS1 := hS.keepB hk9; clear hk9 hS; have hS := hS1; clear hS1)
              | (go_at_call 31; (with_reducible refine (cT3.out _ hS.below).mono ?_); rintro _ w3 ⟨rfl, hk9⟩; have hS1 := hS.keepB hk9; clear hk9 hS; have hS := hS1; clear hS1)
              | (go_at_call 20; (with_reducible refine (cR3.out _ hS.below).mono ?_); rintro _ w3 ⟨rfl, hk9⟩; have hS1 := hS.keepB hk9; clear hk9 hS; have hS := hS1; clear hS1)
              | (go_at_call 22; (with_reducible refine (cN0.out _).mono ?_); rintro _ w3 ⟨rfl, hk9⟩; have hS1 := hS.keepB hk9; clear hk9 hS; have hS := hS1; clear hS1)
              | (go_at_call 25; (with_reducible refine (cA.out _).mono ?_); rintro _ w9 ⟨rfl, hk9⟩; have hS1 := hS.keepB hk9; clear hk9 hS; have hS := hS1; clear hS1))
            go_ret
            exact ⟨rfl, hS.below⟩
        | some M =>
          have hM := hal.out M hO
          have hM1 : M.length ≤ 1000 := by omega
          have hM2 := Lib.hid hM.2
          have cE2 := Lib.hid (cE.out M hM1)
          rw [hO] at cT3 cR3
          replace cT3 := Lib.hid cT3
          replace cR3 := Lib.hid cR3
          clear hO hM
          cases E
          ·
            go_wp2_with (first
              | (go_at_call 32; (with_reducible refine (cC.out _ hS.below).mono ?_); rintro _ w3 ⟨rfl, hk9⟩; have hS1 := hS.keepB hk9; clear hk9 hS; have hS := hS1; clear hS1)
              | (go_at_call 35; (with_reducible refine (cD.out _ hS.below).mono ?_); rintro _ w3 ⟨rfl, hk9⟩; have hS1 := hS.keepB hk9; clear hk9 hS; have hS := hS1; clear hS1)
              | (go_at_call 30; (with_reducible refine (cS.out _ hS.below).mono ?_); rintro _ w3 ⟨rfl, hk9⟩; have hS1 := hS.keepB hk9; clear hk9 hS; have hS := hS1; clear hS1)
              | (go_at_call 16; (with_reducible refine (cZ.out _ hS.below).mono ?_); rintro _ w3 ⟨rfl, hk9⟩; have hS1 := hS.keepB hk9; clear hk9 hS; have hS := hS1; clear hS1)
              | (go_at_call 31; (with_reducible refine (cT3.out _ hS.below).mono ?_); rintro _ w3 ⟨a8, c8, rfl, hk9⟩; have hS1 := hS.made hk9; clear hS hk9; have hS := hS1; clear hS1)
              | (go_at_call 20; (with_reducible refine (cR3.out _ hS.below).mono ?_); rintro _ w3 ⟨a9, c9, rfl, hk9⟩; have hS1 := hS.made hk9; clear hS hk9; have hS := hS1; clear hS1)
              | (go_at_call 22; (with_reducible refine (cE2.out _ _ _ _ _ (hS.lst 1 rfl rfl hM2.out) (hS.lst 0 rfl rfl hM2.out)).mono ?_); rintro _ w3 ⟨rfl, hk9⟩; have hS1 := hS.keepB hk9; clear hk9 hS; have hS := hS1; clear hS1)
              | (go_at_call 25; (with_reducible refine (cA.out _).mono ?_); rintro _ w9 ⟨rfl, hk9⟩; have hS1 := hS.keepB hk9; clear hk9 hS; have hS := hS1; clear hS1))
            go_ret
            exact ⟨rfl, hS.below⟩
          ·
            go_wp2_with (first
              | (go_at_call 32; (with_reducible refine (cC.out _ hS.below).mono ?_); rintro _ w3 ⟨rfl, hk9⟩; have hS1 := hS.keepB hk9; clear hk9 hS; have hS := hS1; clear hS1)
              | (go_at_call 35; (with_reducible refine (cD.out _ hS.below).mono ?_); rintro _ w3 ⟨rfl, hk9⟩; have hS1 := hS.keepB hk9; clear hk9 hS; have hS := hS1; clear hS1)
              | (go_at_call 30; (with_reducible refine (cS.out _ hS.below).mono ?_); rintro _ w3 ⟨rfl, hk9⟩; have hS1 := hS.keepB hk9; clear hk9 hS; have hS := hS1; clear hS1)
              | (go_at_call 16; (with_reducible refine (cZ.out _ hS.below).mono ?_); rintro _ w3 ⟨rfl, hk9⟩; have hS1 := hS.keepB hk9; clear hk9 hS; have hS := hS1; clear hS1)
              | (go_at_call 31; (with_reducible refine (cT3.out _ hS.below).mono ?_); rintro _ w3 ⟨a8, c8, rfl, hk9⟩; have hS1 := hS.made hk9; clear hS hk9; have hS := hS1; clear hS1)
              | (go_at_call 20; (with_reducible refine (cR3.out _ hS.below).mono ?_); rintro _ w3 ⟨a9, c9, rfl, hk9⟩; have hS1 := hS.made hk9; clear hS hk9; have hS := hS1; clear hS1)
              | (go_at_call 22; (with_reducible refine (cE2.out _ _ _ _ _ (hS.lst 1 rfl rfl hM2.out) (hS.lst 0 rfl rfl hM2.out)).mono ?_); rintro _ w3 ⟨rfl, hk9⟩; have hS1 := hS.keepB hk9; clear hk9 hS; have hS := hS1; clear hS1)
              | (go_at_call 25; (with_reducible refine (cA.out _).mono ?_); rintro _ w9 ⟨rfl, hk9⟩; have hS1 := hS.keepB hk9; clear hk9 hS; have hS := hS1; clear hS1))
            go_ret
            exact ⟨rfl, hS.below⟩
theorem applies_any (a b d : Option Addr) (n m k c1 c2 c3 : Nat) (cs : List Cd) (l q : List It) (w : World) (hc : Lst cdRow CdIn w a n c1 cs) (hl : Lst itRow ItIn w b m c2 l) (hq : Lst itRow ItIn w d k c3 q) :
    Calls Try.prog 9 #[.slice a n c1, .slice b m c2, .slice d k c3] w fun e w' => e = .returned (.bool true) ∧ Below w.heap.size w w' := by
  have hS := St.start w
  have hnm : n ≤ 9223372036854775807 := by have := hc.le; have := hc.cm; unfold maxLen at this; omega
  have cW : ∀ W, Below w.heap.size w W → Calls Try.prog 33 #[.slice b m c2] W fun e w' => e = .returned (.bool (wideI l)) ∧ Below W.heap.size W w' := fun W hb => wide_any b m c2 l W (hl.below hb)
  have cV : ∀ W, Below w.heap.size w W → Calls Try.prog 33 #[.slice d k c3] W fun e w' => e = .returned (.bool (wideI q)) ∧ Below W.heap.size W w' := fun W hb => wide_any d k c3 q W (hq.below hb)
  have cA := Lib.hid fun W : World => awake23_any W
  cases h1 : wideI l
  · rw [h1] at cW
    cases h2 : wideI q
    · rw [h2] at cV
      by_cases h60 : n ≤ 60
      · exact applies_main a b d n m k c1 c2 c3 cs l q w hc hl hq h1 h2 h60
      · have d60 : decide (60 < n) = true := decide_eq_true (by omega)
        have d61 : decide (60 < (n : Int)) = true := decide_eq_true (by omega)
        replace cW := Lib.hid cW
        replace cV := Lib.hid cV
        replace hc := Lib.hid hc
        replace hl := Lib.hid hl
        replace hq := Lib.hid hq
        clear h1
        go_enter Try.func9, Try.ntmps9
        go_wp2_with (first
          | (go_at_call 33; (with_reducible refine (cW.out _ hS.below).mono ?_); rintro _ w3 ⟨rfl, hk9⟩; have hS1 := hS.keepB hk9; clear hk9 hS; have hS := hS1; clear hS1)
          | (go_at_call 33; (with_reducible refine (cV.out _ hS.below).mono ?_); rintro _ w3 ⟨rfl, hk9⟩; have hS1 := hS.keepB hk9; clear hk9 hS; have hS := hS1; clear hS1)
          | (go_at_call 25; (with_reducible refine (cA.out _).mono ?_); rintro _ w9 ⟨rfl, hk9⟩; have hS1 := hS.keepB hk9; clear hk9 hS; have hS := hS1; clear hS1))
        go_ret
        exact ⟨rfl, hS.below⟩
    · rw [h2] at cV
      replace cW := Lib.hid cW
      replace cV := Lib.hid cV
      replace hc := Lib.hid hc
      replace hl := Lib.hid hl
      replace hq := Lib.hid hq
      clear h1
      go_enter Try.func9, Try.ntmps9
      go_wp2_with (first
        | (go_at_call 33; (with_reducible refine (cW.out _ hS.below).mono ?_); rintro _ w3 ⟨rfl, hk9⟩; have hS1 := hS.keepB hk9; clear hk9 hS; have hS := hS1; clear hS1)
        | (go_at_call 33; (with_reducible refine (cV.out _ hS.below).mono ?_); rintro _ w3 ⟨rfl, hk9⟩; have hS1 := hS.keepB hk9; clear hk9 hS; have hS := hS1; clear hS1)
        | (go_at_call 25; (with_reducible refine (cA.out _).mono ?_); rintro _ w9 ⟨rfl, hk9⟩; have hS1 := hS.keepB hk9; clear hk9 hS; have hS := hS1; clear hS1))
      go_ret
      exact ⟨rfl, hS.below⟩
  · rw [h1] at cW
    replace cW := Lib.hid cW
    replace cV := Lib.hid cV
    replace hc := Lib.hid hc
    replace hl := Lib.hid hl
    replace hq := Lib.hid hq
    clear h1
    go_enter Try.func9, Try.ntmps9
    go_wp2_with (first
      | (go_at_call 33; (with_reducible refine (cW.out _ hS.below).mono ?_); rintro _ w3 ⟨rfl, hk9⟩; have hS1 := hS.keepB hk9; clear hk9 hS; have hS := hS1; clear hS1)
      | (go_at_call 33; (with_reducible refine (cV.out _ hS.below).mono ?_); rintro _ w3 ⟨rfl, hk9⟩; have hS1 := hS.keepB hk9; clear hk9 hS; have hS := hS1; clear hS1)
      | (go_at_call 25; (with_reducible refine (cA.out _).mono ?_); rintro _ w9 ⟨rfl, hk9⟩; have hS1 := hS.keepB hk9; clear hk9 hS; have hS := hS1; clear hS1))
    go_ret
    exact ⟨rfl, hS.below⟩
end Go.Proofs.Ytajldelodnjmoaa
end
