/- Texts laid together: TransOnce TransOnceE. -/
import Derived.Test.YtajldelodnjmoaaM13
import Derived.Test.YtajldelodnjmoaaM14
section
/- The law TransOnce. -/
set_option linter.unusedSimpArgs false
set_option linter.unusedVariables false
namespace Go.Proofs.Ytajldelodnjmoaa
open Go.RowKit Go.Ofp
set_option linter.unusedVariables false
set_option maxRecDepth 100000
set_option maxHeartbeats 4000000

theorem it_lens {In : It → Prop} {w : World} {a : Option Addr} {n c : Nat} {l : List It} (h : Lst itRow In w a n c l) (hI : ∀ x, In x → x.c.f.length = 8) : ∀ x ∈ l, (itRow x).length = 28 := fun x hx => itRow_len x (hI x (h.mem x hx))
theorem net_f {l : List Tn} (h : ∀ t ∈ l, t.c.f.length = 8) : ∀ x ∈ netOf l, x.c.f.length = 8 := by
  intro x hx
  unfold netOf at hx
  obtain ⟨id, -, e⟩ := List.mem_filterMap.1 hx
  unfold netAt at e
  obtain ⟨a, ha, e⟩ := Option.bind_eq_some_iff.1 e
  obtain ⟨b, hb, e⟩ := Option.bind_eq_some_iff.1 e
  exact itemOf_len e (h b (lastOf_mem hb).1)
def oldAt (l : List Tn) (id : Int) : Int := ((firstOf l id).map Tn.old).getD (-1)
def nowAt (l : List Tn) (id : Int) : Int := ((lastOf l id).map Tn.new).getD (-1)

theorem once_main (a : Option Addr) (n c : Nat) (l : List Tn) (w : World) (hl : Lst tnRow TnIn w a n c l) (h1 : largeT l = false) (h2 : goes Cd.ok [] l = true) :
    Calls Try.prog 6 #[.slice a n c] w fun e w' => e = .returned (.bool true) ∧ Below w.heap.size w w' := by
  have hn : n ≤ 100 := by
    unfold largeT at h1
    rw [Bool.or_eq_false_iff] at h1
    have := of_decide_eq_false h1.1
    rw [hl.len] at this
    omega
  have hS := St.start w
  have cL : ∀ W, Below w.heap.size w W → Calls Try.prog 12 #[.slice a n c] W fun e w' => e = .returned (.bool false) ∧ Below W.heap.size W w' := fun W hb => by
    have := largeT_any a n c l W (hl.below hb)
    rwa [h1] at this
  have cC : ∀ W, Below w.heap.size w W → Calls Try.prog 13 #[.slice a n c] W fun e w' => e = .returned (.bool true) ∧ Below W.heap.size W w' := fun W hb => by
    have := rcheck23_any a n c l W (hl.below hb) (by omega)
    rwa [h2] at this
  have cN := Lib.hid fun W (hb : Below w.heap.size w W) => tnet_any a n c l W (hl.below hb) (by omega)
  have cA := Lib.hid fun W : World => awake23_any W
  replace cL := Lib.hid cL
  replace cC := Lib.hid cC
  have hni := net_items h2
  have hnl := net_length l
  have hnf := net_f (l := l) fun t ht => (hl.mem t ht).c.len
  rw [hl.len] at hnl
  replace hni := Lib.hid hni
  replace hnf := Lib.hid hnf
  replace hl := Lib.hid hl
  have hmo := Lib.hid fun (t : Tn) (ht : t ∈ l) => (may_old (goes_may _ _ h2 t ht)).1
  generalize netOf l = N at *
  clear h1 h2
  go_enter Try.func6, Try.ntmps6
  go_wp2_with (first
    | (go_at_call 12; (with_reducible refine (cL.out _ hS.below).mono ?_); rintro _ w3 ⟨rfl, hk9⟩; have hS1 := hS.keepB hk9; clear hk9 hS; have hS := hS1; clear hS1)
    | (go_at_call 13; (with_reducible refine (cC.out _ hS.below).mono ?_); rintro _ w4 ⟨rfl, hk9⟩; have hS1 := hS.keepB hk9; clear hk9 hS; have hS := hS1; clear hS1)
    | (go_at_call 26; (with_reducible refine (cN.out _ hS.below).mono ?_); rintro _ w5 ⟨ai, ci, rfl, hk9⟩; have hS1 := hS.made hk9; clear hS hk9; have hS : St w [] [Ch.row 50 28 (.slice ai N.length ci) N.length (N.map itRow).flatten] w5 := hS1; clear hS1))
  have hB := Lib.hid hS.below
  obtain ⟨_, _, e1, hsi, -, hc1, hc2⟩ := hS.row 0 rfl
  cases e1
  have hli := Lib.hid (show Lst itRow (fun x => x.c.f.length = 8) w5 ai N.length ci N from ⟨hsi, rfl, hc1, hc2, hnf.out⟩)
  have hlw := Lib.hid (hl.out.below hB.out)
  clear hS hsi hc1 hc2 cL cC cN
  have hS := St.start w5
  have hlen := Lib.hid hlw.out.len
  have hlens := Lib.hid (tn_lens hlw.out)
  have hilens := Lib.hid (it_lens hli.out fun x h => h)
  have hbase := Lib.hid (hlw.out.base (by decide) hlens.out)
  have hibase := Lib.hid (hli.out.base (by decide) hilens.out)
  go_loopg [4] N.length (fun gk vx wr => ∃ j : Nat, j + gk = N.length ∧ vx = .int .i64 j ∧ St w5 [] [] wr)
  case atStart => exact ⟨0, Nat.zero_add _, rfl, hS⟩
  case round =>
    clear hS
    obtain ⟨j, hj, rfl, hS⟩ := hrel
    by_cases hlt : j < N.length
    · obtain ⟨bi, oi, rfl⟩ := hibase.out (by omega)
      have hir := hli.out.rowb hilens.out j hlt
      have x0 : w5.cell? ⟨bi, oi + j * 28, none⟩ = some (.int .i64 N[j].kind) := by simpa using hir 0 _ rfl
      have x1 : w5.cell? ⟨bi, oi + j * 28 + 1, none⟩ = some (.int .i64 N[j].c.id) := hir 1 _ rfl
      obtain ⟨-, -, -, ta, tb, hta, htb, hold, hne, hk1, hk2⟩ := hni.out.2 N[j] (List.getElem_mem hlt)
      have hn0 : 0 < n := by
        have := (firstOf_mem hta).1
        have := List.length_pos_of_mem this
        rw [hlen.out] at this
        exact this
      obtain ⟨b, off, rfl⟩ := hbase.out hn0
      have hcl : ∀ q (hq : q < l.length), w5.cell? ⟨b, off + q * 31 + 1, none⟩ = some (.int .i64 l[q].id) ∧ w5.cell? ⟨b, off + q * 31 + 2, none⟩ = some (.int .i64 l[q].old) ∧ w5.cell? ⟨b, off + q * 31 + 3, none⟩ = some (.int .i64 l[q].new) := fun q hq => by
        have hr := hlw.out.rowb hlens.out q hq
        exact ⟨hr 1 _ rfl, hr 2 _ rfl, hr 3 _ rfl⟩
      replace hcl := Lib.hid hcl
      have hjN : N.length ≤ 100 := by omega
      by_cases hj0 : 0 < j
      · obtain ⟨m, hmj⟩ : ∃ m, m + 1 = j := ⟨j - 1, by omega⟩
        have hmN : m < N.length := by omega
        have hr2 := hli.out.rowb hilens.out m hmN
        have y1 : w5.cell? ⟨bi, oi + m * 28 + 1, none⟩ = some (.int .i64 N[m].c.id) := hr2 1 _ rfl
        have hjw : IntKind.i64.wrap ((j : Int) - 1) = (m : Int) := by rw [IntWalk.i64_in _ (by omega)]; omega
        have hris : N[m].c.id < N[j].c.id := List.pairwise_iff_getElem.1 hni.out.1 m j hmN hlt (by omega)
        have ds : decide (N[j].c.id ≤ N[m].c.id) = false := decide_eq_false (by omega)
        have dj : decide (0 < (j : Int)) = true := decide_eq_true (by omega)
        have dj2 : decide (0 < j) = true := decide_eq_true hj0
        have k1 := hS.kold0 x1
        have k2 := hS.kold0 y1
        replace hmj := Lib.hid hmj
        clear hr2 hir hj0
        generalize N[m].c.id = idm at *
        go_wp2_with fail
        refine mixs_begin (by kernel_rfl) hS ?_
        clear hS
        intro w6 hS
        refine mixs_take 0 (v := ?_) rfl (by kernel_rfl) (fun _ _ _ h => h) (by kernel_rfl) (by assumption) (fun s => ?hy) ?_; case hy => (go_simp <;> with_reducible rfl)
        try simp only [List.getElem_toArray, List.getElem_cons_succ, List.getElem_cons_zero, Act.put, List.setIfInBounds_toArray, List.set_cons_zero, List.set_cons_succ]
        refine mixs_take 1 (v := ?_) rfl (by kernel_rfl) (fun _ _ _ h => h) (by kernel_rfl) (by assumption) (fun s => ?hy) ?_; case hy => (go_simp <;> with_reducible rfl)
        try simp only [List.getElem_toArray, List.getElem_cons_succ, List.getElem_cons_zero, Act.put, List.setIfInBounds_toArray, List.set_cons_zero, List.set_cons_succ]
        refine mixs_take 2 (v := ?_) rfl (by kernel_rfl) (fun _ _ _ h => h) (by kernel_rfl) (by assumption) (fun s => ?hy) ?_; case hy => (go_simp <;> with_reducible rfl)
        try simp only [List.getElem_toArray, List.getElem_cons_succ, List.getElem_cons_zero, Act.put, List.setIfInBounds_toArray, List.set_cons_zero, List.set_cons_succ]
        refine mixs_take 3 (v := ?_) rfl (by kernel_rfl) (fun _ _ _ h => h) (by kernel_rfl) (by assumption) (fun s => ?hy) ?_; case hy => (go_simp <;> with_reducible rfl)
        try simp only [List.getElem_toArray, List.getElem_cons_succ, List.getElem_cons_zero, Act.put, List.setIfInBounds_toArray, List.set_cons_zero, List.set_cons_succ]
        refine mixs_take 4 (v := ?_) rfl (by kernel_rfl) (fun _ _ _ h => h) (by kernel_rfl) (by assumption) (fun s => ?hy) ?_; case hy => (go_simp <;> with_reducible rfl)
        try simp only [List.getElem_toArray, List.getElem_cons_succ, List.getElem_cons_zero, Act.put, List.setIfInBounds_toArray, List.set_cons_zero, List.set_cons_succ]
        refine mixs_take 5 (v := ?_) rfl (by kernel_rfl) (fun _ _ _ h => h) (by kernel_rfl) (by assumption) (fun s => ?hy) ?_; case hy => (go_simp <;> with_reducible rfl)
        try simp only [List.getElem_toArray, List.getElem_cons_succ, List.getElem_cons_zero, Act.put, List.setIfInBounds_toArray, List.set_cons_zero, List.set_cons_succ]
        refine mixs_take 6 (v := ?_) rfl (by kernel_rfl) (fun _ _ _ h => h) (by kernel_rfl) (by assumption) (fun s => ?hy) ?_; case hy => (go_simp <;> with_reducible rfl)
        try simp only [List.getElem_toArray, List.getElem_cons_succ, List.getElem_cons_zero, Act.put, List.setIfInBounds_toArray, List.set_cons_zero, List.set_cons_succ]
        refine mixs_take 7 (v := ?_) rfl (by kernel_rfl) (fun _ _ _ h => h) (by kernel_rfl) (by assumption) (fun s => ?hy) ?_; case hy => (go_simp <;> with_reducible rfl)
        try simp only [List.getElem_toArray, List.getElem_cons_succ, List.getElem_cons_zero, Act.put, List.setIfInBounds_toArray, List.set_cons_zero, List.set_cons_succ]
        refine mixs_take 8 (v := ?_) rfl (by kernel_rfl) (fun _ _ _ h => h) (by kernel_rfl) (by assumption) (fun s => ?hy) ?_; case hy => (go_simp <;> with_reducible rfl)
        try simp only [List.getElem_toArray, List.getElem_cons_succ, List.getElem_cons_zero, Act.put, List.setIfInBounds_toArray, List.set_cons_zero, List.set_cons_succ]
        refine mixs_take 9 (v := ?_) rfl (by kernel_rfl) (fun _ _ _ h => h) (by kernel_rfl) (by assumption) (fun s => ?hy) ?_; case hy => (go_simp <;> with_reducible rfl)
        try simp only [List.getElem_toArray, List.getElem_cons_succ, List.getElem_cons_zero, Act.put, List.setIfInBounds_toArray, List.set_cons_zero, List.set_cons_succ]
        refine mixs_take 10 (v := ?_) rfl (by kernel_rfl) (fun _ _ _ h => h) (by kernel_rfl) (by assumption) (fun s => ?hy) ?_; case hy => (go_simp <;> with_reducible rfl)
        try simp only [List.getElem_toArray, List.getElem_cons_succ, List.getElem_cons_zero, Act.put, List.setIfInBounds_toArray, List.set_cons_zero, List.set_cons_succ]
        refine mixs_take 11 (v := ?_) rfl (by kernel_rfl) (fun _ _ _ h => h) (by kernel_rfl) (by assumption) (fun s => ?hy) ?_; case hy => (go_simp <;> with_reducible rfl)
        try simp only [List.getElem_toArray, List.getElem_cons_succ, List.getElem_cons_zero, Act.put, List.setIfInBounds_toArray, List.set_cons_zero, List.set_cons_succ]
        refine mixs_take 12 (v := ?_) rfl (by kernel_rfl) (fun _ _ _ h => h) (by kernel_rfl) (by assumption) (fun s => ?hy) ?_; case hy => (go_simp <;> with_reducible rfl)
        try simp only [List.getElem_toArray, List.getElem_cons_succ, List.getElem_cons_zero, Act.put, List.setIfInBounds_toArray, List.set_cons_zero, List.set_cons_succ]
        refine mixs_take 13 (v := ?_) rfl (by kernel_rfl) (fun _ _ _ h => h) (by kernel_rfl) (by assumption) (fun s => ?hy) ?_; case hy => (go_simp <;> with_reducible rfl)
        try simp only [List.getElem_toArray, List.getElem_cons_succ, List.getElem_cons_zero, Act.put, List.setIfInBounds_toArray, List.set_cons_zero, List.set_cons_succ]
        refine mixs_take 14 (v := ?_) rfl (by kernel_rfl) (fun _ _ _ h => h) (by kernel_rfl) (by assumption) (fun s => ?hy) ?_; case hy => (go_simp <;> with_reducible rfl)
        try simp only [List.getElem_toArray, List.getElem_cons_succ, List.getElem_cons_zero, Act.put, List.setIfInBounds_toArray, List.set_cons_zero, List.set_cons_succ]
        refine mixs_take 15 (v := ?_) rfl (by kernel_rfl) (fun _ _ _ h => h) (by kernel_rfl) (by assumption) (fun s => ?hy) ?_; case hy => (go_simp <;> with_reducible rfl)
        try simp only [List.getElem_toArray, List.getElem_cons_succ, List.getElem_cons_zero, Act.put, List.setIfInBounds_toArray, List.set_cons_zero, List.set_cons_succ]
        refine mixs_take 16 (v := ?_) rfl (by kernel_rfl) (fun _ _ _ h => h) (by kernel_rfl) (by assumption) (fun s => ?hy) ?_; case hy => (go_simp <;> with_reducible rfl)
        try simp only [List.getElem_toArray, List.getElem_cons_succ, List.getElem_cons_zero, Act.put, List.setIfInBounds_toArray, List.set_cons_zero, List.set_cons_succ]
        refine mixs_take 17 (v := ?_) rfl (by kernel_rfl) (fun _ _ _ h => h) (by kernel_rfl) (by assumption) (fun s => ?hy) ?_; case hy => (go_simp <;> with_reducible rfl)
        try simp only [List.getElem_toArray, List.getElem_cons_succ, List.getElem_cons_zero, Act.put, List.setIfInBounds_toArray, List.set_cons_zero, List.set_cons_succ]
        refine wpAnyH_done (by kernel_rfl) ?_ _
        go_wp2_with fail
        go_loopg [5, 6, 7] n (fun gk v5 v6 vk wr => ∃ q : Nat, q + gk = n ∧ vk = .int .i64 q ∧ v5 = .int .i64 (oldAt (l.take q) N[j].c.id) ∧ v6 = .int .i64 (nowAt (l.take q) N[j].c.id) ∧ St w5 [] [] wr)
        case atStart => exact ⟨0, Nat.zero_add _, rfl, rfl, rfl, hS⟩
        case round =>
          clear hS
          obtain ⟨q, hq, rfl, rfl, rfl, hS⟩ := hrel
          by_cases hlt2 : q < n
          · have hql : q < l.length := by rw [hlen.out]; exact hlt2
            obtain ⟨y1, y2, y3⟩ := hcl.out q hql
            have c2 := hS.old y2 (by simp)
            have c3 := hS.old y3 (by simp)
            have kx := hS.kold0 x1
            have ky := hS.kold0 y1
            have htk : l.take (q + 1) = l.take q ++ [l[q]] := List.take_succ_eq_append_getElem hql
            have ho := firstOf_snoc (l.take q) l[q] N[j].c.id
            have hw := lastOf_snoc (l.take q) l[q] N[j].c.id
            rw [← htk] at ho hw
            by_cases he : l[q].id = N[j].c.id
            · have de : (l[q].id == N[j].c.id) = true := by simpa using he
              rw [if_pos he] at ho hw
              have hnw : nowAt (l.take (q + 1)) N[j].c.id = l[q].new := by unfold nowAt; rw [hw]; rfl
              replace hnw := Lib.hid hnw
              cases hf : firstOf (l.take q) N[j].c.id with
              | none =>
                rw [hf] at ho
                have hov : oldAt (l.take (q + 1)) N[j].c.id = l[q].old := by unfold oldAt; rw [ho]; rfl
                have hoc : oldAt (l.take q) N[j].c.id = -1 := by unfold oldAt; rw [hf]; rfl
                replace hov := Lib.hid hov
                rw [hoc]
                clear ho hw hf htk he hoc
                generalize nowAt (l.take q) N[j].c.id = nv at *
                generalize l[q].id = iq at *
                generalize l[q].old = oq at *
                generalize l[q].new = nq at *
                generalize N[j].c.id = idj at *
                go_wp2_with fail
                refine mixs_begin (by kernel_rfl) hS ?_
                clear hS
                intro w7 hS
                refine mixs_take 0 (v := ?_) rfl (by kernel_rfl) (fun _ _ _ h => h) (by kernel_rfl) (by assumption) (fun s => ?hy) ?_; case hy => (go_simp <;> with_reducible rfl)
                try simp only [List.getElem_toArray, List.getElem_cons_succ, List.getElem_cons_zero, Act.put, List.setIfInBounds_toArray, List.set_cons_zero, List.set_cons_succ]
                refine mixs_take 1 (v := ?_) rfl (by kernel_rfl) (fun _ _ _ h => h) (by kernel_rfl) (by assumption) (fun s => ?hy) ?_; case hy => (go_simp <;> with_reducible rfl)
                try simp only [List.getElem_toArray, List.getElem_cons_succ, List.getElem_cons_zero, Act.put, List.setIfInBounds_toArray, List.set_cons_zero, List.set_cons_succ]
                refine mixs_take 2 (v := ?_) rfl (by kernel_rfl) (fun _ _ _ h => h) (by kernel_rfl) (by assumption) (fun s => ?hy) ?_; case hy => (go_simp <;> with_reducible rfl)
                try simp only [List.getElem_toArray, List.getElem_cons_succ, List.getElem_cons_zero, Act.put, List.setIfInBounds_toArray, List.set_cons_zero, List.set_cons_succ]
                refine mixs_take 3 (v := ?_) rfl (by kernel_rfl) (fun _ _ _ h => h) (by kernel_rfl) (by assumption) (fun s => ?hy) ?_; case hy => (go_simp <;> with_reducible rfl)
                try simp only [List.getElem_toArray, List.getElem_cons_succ, List.getElem_cons_zero, Act.put, List.setIfInBounds_toArray, List.set_cons_zero, List.set_cons_succ]
                refine mixs_take 4 (v := ?_) rfl (by kernel_rfl) (fun _ _ _ h => h) (by kernel_rfl) (by assumption) (fun s => ?hy) ?_; case hy => (go_simp <;> with_reducible rfl)
                try simp only [List.getElem_toArray, List.getElem_cons_succ, List.getElem_cons_zero, Act.put, List.setIfInBounds_toArray, List.set_cons_zero, List.set_cons_succ]
                refine mixs_take 5 (v := ?_) rfl (by kernel_rfl) (fun _ _ _ h => h) (by kernel_rfl) (by assumption) (fun s => ?hy) ?_; case hy => (go_simp <;> with_reducible rfl)
                try simp only [List.getElem_toArray, List.getElem_cons_succ, List.getElem_cons_zero, Act.put, List.setIfInBounds_toArray, List.set_cons_zero, List.set_cons_succ]
                refine mixs_take 6 (v := ?_) rfl (by kernel_rfl) (fun _ _ _ h => h) (by kernel_rfl) (by assumption) (fun s => ?hy) ?_; case hy => (go_simp <;> with_reducible rfl)
                try simp only [List.getElem_toArray, List.getElem_cons_succ, List.getElem_cons_zero, Act.put, List.setIfInBounds_toArray, List.set_cons_zero, List.set_cons_succ]
                refine mixs_take 7 (v := ?_) rfl (by kernel_rfl) (fun _ _ _ h => h) (by kernel_rfl) (by assumption) (fun s => ?hy) ?_; case hy => (go_simp <;> with_reducible rfl)
                try simp only [List.getElem_toArray, List.getElem_cons_succ, List.getElem_cons_zero, Act.put, List.setIfInBounds_toArray, List.set_cons_zero, List.set_cons_succ]
                refine mixs_take 8 (v := ?_) rfl (by kernel_rfl) (fun _ _ _ h => h) (by kernel_rfl) (by assumption) (fun s => ?hy) ?_; case hy => (go_simp <;> with_reducible rfl)
                try simp only [List.getElem_toArray, List.getElem_cons_succ, List.getElem_cons_zero, Act.put, List.setIfInBounds_toArray, List.set_cons_zero, List.set_cons_succ]
                refine mixs_take 9 (v := ?_) rfl (by kernel_rfl) (fun _ _ _ h => h) (by kernel_rfl) (by assumption) (fun s => ?hy) ?_; case hy => (go_simp <;> with_reducible rfl)
                try simp only [List.getElem_toArray, List.getElem_cons_succ, List.getElem_cons_zero, Act.put, List.setIfInBounds_toArray, List.set_cons_zero, List.set_cons_succ]
                refine mixs_take 10 (v := ?_) rfl (by kernel_rfl) (fun _ _ _ h => h) (by kernel_rfl) (by assumption) (fun s => ?hy) ?_; case hy => (go_simp <;> with_reducible rfl)
                try simp only [List.getElem_toArray, List.getElem_cons_succ, List.getElem_cons_zero, Act.put, List.setIfInBounds_toArray, List.set_cons_zero, List.set_cons_succ]
                refine mixs_take 11 (v := ?_) rfl (by kernel_rfl) (fun _ _ _ h => h) (by kernel_rfl) (by assumption) (fun s => ?hy) ?_; case hy => (go_simp <;> with_reducible rfl)
                try simp only [List.getElem_toArray, List.getElem_cons_succ, List.getElem_cons_zero, Act.put, List.setIfInBounds_toArray, List.set_cons_zero, List.set_cons_succ]
                refine wpAnyH_done (by kernel_rfl) ?_ _
                have c2 := hS.old y2 (by simp)
                have c3 := hS.old y3 (by simp)
                go_wp2_with fail
                go_roundg (n - (q + 1))
                case measure => omega
                case rel => exact ⟨q + 1, by omega, by go_num, by rw [hov.out], by rw [hnw.out], hS⟩
              | some u =>
                rw [hf] at ho
                have hov : oldAt (l.take (q + 1)) N[j].c.id = u.old := by unfold oldAt; rw [ho]; rfl
                have hoc : oldAt (l.take q) N[j].c.id = u.old := by unfold oldAt; rw [hf]; rfl
                have hu0 := hmo.out u (List.mem_of_mem_take (firstOf_mem hf).1)
                have du : decide (u.old < 0) = false := decide_eq_false (by omega)
                replace hov := Lib.hid hov
                rw [hoc]
                clear ho hw hf htk he hoc hu0
                generalize nowAt (l.take q) N[j].c.id = nv at *
                generalize u.old = uo at *
                generalize l[q].id = iq at *
                generalize l[q].old = oq at *
                generalize l[q].new = nq at *
                generalize N[j].c.id = idj at *
                go_wp2_with fail
                refine mixs_begin (by kernel_rfl) hS ?_
                clear hS
                intro w7 hS
                refine mixs_take 0 (v := ?_) rfl (by kernel_rfl) (fun _ _ _ h => h) (by kernel_rfl) (by assumption) (fun s => ?hy) ?_; case hy => (go_simp <;> with_reducible rfl)
                try simp only [List.getElem_toArray, List.getElem_cons_succ, List.getElem_cons_zero, Act.put, List.setIfInBounds_toArray, List.set_cons_zero, List.set_cons_succ]
                refine mixs_take 1 (v := ?_) rfl (by kernel_rfl) (fun _ _ _ h => h) (by kernel_rfl) (by assumption) (fun s => ?hy) ?_; case hy => (go_simp <;> with_reducible rfl)
                try simp only [List.getElem_toArray, List.getElem_cons_succ, List.getElem_cons_zero, Act.put, List.setIfInBounds_toArray, List.set_cons_zero, List.set_cons_succ]
                refine mixs_take 2 (v := ?_) rfl (by kernel_rfl) (fun _ _ _ h => h) (by kernel_rfl) (by assumption) (fun s => ?hy) ?_; case hy => (go_simp <;> with_reducible rfl)
                try simp only [List.getElem_toArray, List.getElem_cons_succ, List.getElem_cons_zero, Act.put, List.setIfInBounds_toArray, List.set_cons_zero, List.set_cons_succ]
                refine mixs_take 3 (v := ?_) rfl (by kernel_rfl) (fun _ _ _ h => h) (by kernel_rfl) (by assumption) (fun s => ?hy) ?_; case hy => (go_simp <;> with_reducible rfl)
                try simp only [List.getElem_toArray, List.getElem_cons_succ, List.getElem_cons_zero, Act.put, List.setIfInBounds_toArray, List.set_cons_zero, List.set_cons_succ]
                refine mixs_take 4 (v := ?_) rfl (by kernel_rfl) (fun _ _ _ h => h) (by kernel_rfl) (by assumption) (fun s => ?hy) ?_; case hy => (go_simp <;> with_reducible rfl)
                try simp only [List.getElem_toArray, List.getElem_cons_succ, List.getElem_cons_zero, Act.put, List.setIfInBounds_toArray, List.set_cons_zero, List.set_cons_succ]
                refine mixs_take 5 (v := ?_) rfl (by kernel_rfl) (fun _ _ _ h => h) (by kernel_rfl) (by assumption) (fun s => ?hy) ?_; case hy => (go_simp <;> with_reducible rfl)
                try simp only [List.getElem_toArray, List.getElem_cons_succ, List.getElem_cons_zero, Act.put, List.setIfInBounds_toArray, List.set_cons_zero, List.set_cons_succ]
                refine mixs_take 6 (v := ?_) rfl (by kernel_rfl) (fun _ _ _ h => h) (by kernel_rfl) (by assumption) (fun s => ?hy) ?_; case hy => (go_simp <;> with_reducible rfl)
                try simp only [List.getElem_toArray, List.getElem_cons_succ, List.getElem_cons_zero, Act.put, List.setIfInBounds_toArray, List.set_cons_zero, List.set_cons_succ]
                refine mixs_take 7 (v := ?_) rfl (by kernel_rfl) (fun _ _ _ h => h) (by kernel_rfl) (by assumption) (fun s => ?hy) ?_; case hy => (go_simp <;> with_reducible rfl)
                try simp only [List.getElem_toArray, List.getElem_cons_succ, List.getElem_cons_zero, Act.put, List.setIfInBounds_toArray, List.set_cons_zero, List.set_cons_succ]
                refine mixs_take 8 (v := ?_) rfl (by kernel_rfl) (fun _ _ _ h => h) (by kernel_rfl) (by assumption) (fun s => ?hy) ?_; case hy => (go_simp <;> with_reducible rfl)
                try simp only [List.getElem_toArray, List.getElem_cons_succ, List.getElem_cons_zero, Act.put, List.setIfInBounds_toArray, List.set_cons_zero, List.set_cons_succ]
                refine mixs_take 9 (v := ?_) rfl (by kernel_rfl) (fun _ _ _ h => h) (by kernel_rfl) (by assumption) (fun s => ?hy) ?_; case hy => (go_simp <;> with_reducible rfl)
                try simp only [List.getElem_toArray, List.getElem_cons_succ, List.getElem_cons_zero, Act.put, List.setIfInBounds_toArray, List.set_cons_zero, List.set_cons_succ]
                refine mixs_take 10 (v := ?_) rfl (by kernel_rfl) (fun _ _ _ h => h) (by kernel_rfl) (by assumption) (fun s => ?hy) ?_; case hy => (go_simp <;> with_reducible rfl)
                try simp only [List.getElem_toArray, List.getElem_cons_succ, List.getElem_cons_zero, Act.put, List.setIfInBounds_toArray, List.set_cons_zero, List.set_cons_succ]
                refine mixs_take 11 (v := ?_) rfl (by kernel_rfl) (fun _ _ _ h => h) (by kernel_rfl) (by assumption) (fun s => ?hy) ?_; case hy => (go_simp <;> with_reducible rfl)
                try simp only [List.getElem_toArray, List.getElem_cons_succ, List.getElem_cons_zero, Act.put, List.setIfInBounds_toArray, List.set_cons_zero, List.set_cons_succ]
                refine wpAnyH_done (by kernel_rfl) ?_ _
                have c2 := hS.old y2 (by simp)
                have c3 := hS.old y3 (by simp)
                go_wp2_with fail
                go_roundg (n - (q + 1))
                case measure => omega
                case rel => exact ⟨q + 1, by omega, by go_num, by rw [hov.out], by rw [hnw.out], hS⟩
            · have de : (l[q].id == N[j].c.id) = false := by simpa using he
              rw [if_neg he] at ho hw
              rw [Option.or_none] at ho
              have hnw : nowAt (l.take (q + 1)) N[j].c.id = nowAt (l.take q) N[j].c.id := by unfold nowAt; rw [hw]
              have hov : oldAt (l.take (q + 1)) N[j].c.id = oldAt (l.take q) N[j].c.id := by unfold oldAt; rw [ho]
              replace hnw := Lib.hid hnw
              replace hov := Lib.hid hov
              clear ho hw htk he c2 c3
              generalize nowAt (l.take q) N[j].c.id = nv at *
              generalize oldAt (l.take q) N[j].c.id = ov at *
              generalize l[q].id = iq at *
              generalize N[j].c.id = idj at *
              go_wp2_with fail
              refine mixs_begin (by kernel_rfl) hS ?_
              clear hS
              intro w7 hS
              refine mixs_take 0 (v := ?_) rfl (by kernel_rfl) (fun _ _ _ h => h) (by kernel_rfl) (by assumption) (fun s => ?hy) ?_; case hy => (go_simp <;> with_reducible rfl)
              try simp only [List.getElem_toArray, List.getElem_cons_succ, List.getElem_cons_zero, Act.put, List.setIfInBounds_toArray, List.set_cons_zero, List.set_cons_succ]
              refine mixs_take 1 (v := ?_) rfl (by kernel_rfl) (fun _ _ _ h => h) (by kernel_rfl) (by assumption) (fun s => ?hy) ?_; case hy => (go_simp <;> with_reducible rfl)
              try simp only [List.getElem_toArray, List.getElem_cons_succ, List.getElem_cons_zero, Act.put, List.setIfInBounds_toArray, List.set_cons_zero, List.set_cons_succ]
              refine mixs_take 2 (v := ?_) rfl (by kernel_rfl) (fun _ _ _ h => h) (by kernel_rfl) (by assumption) (fun s => ?hy) ?_; case hy => (go_simp <;> with_reducible rfl)
              try simp only [List.getElem_toArray, List.getElem_cons_succ, List.getElem_cons_zero, Act.put, List.setIfInBounds_toArray, List.set_cons_zero, List.set_cons_succ]
              refine mixs_take 3 (v := ?_) rfl (by kernel_rfl) (fun _ _ _ h => h) (by kernel_rfl) (by assumption) (fun s => ?hy) ?_; case hy => (go_simp <;> with_reducible rfl)
              try simp only [List.getElem_toArray, List.getElem_cons_succ, List.getElem_cons_zero, Act.put, List.setIfInBounds_toArray, List.set_cons_zero, List.set_cons_succ]
              refine mixs_take 4 (v := ?_) rfl (by kernel_rfl) (fun _ _ _ h => h) (by kernel_rfl) (by assumption) (fun s => ?hy) ?_; case hy => (go_simp <;> with_reducible rfl)
              try simp only [List.getElem_toArray, List.getElem_cons_succ, List.getElem_cons_zero, Act.put, List.setIfInBounds_toArray, List.set_cons_zero, List.set_cons_succ]
              refine mixs_take 5 (v := ?_) rfl (by kernel_rfl) (fun _ _ _ h => h) (by kernel_rfl) (by assumption) (fun s => ?hy) ?_; case hy => (go_simp <;> with_reducible rfl)
              try simp only [List.getElem_toArray, List.getElem_cons_succ, List.getElem_cons_zero, Act.put, List.setIfInBounds_toArray, List.set_cons_zero, List.set_cons_succ]
              refine mixs_take 6 (v := ?_) rfl (by kernel_rfl) (fun _ _ _ h => h) (by kernel_rfl) (by assumption) (fun s => ?hy) ?_; case hy => (go_simp <;> with_reducible rfl)
              try simp only [List.getElem_toArray, List.getElem_cons_succ, List.getElem_cons_zero, Act.put, List.setIfInBounds_toArray, List.set_cons_zero, List.set_cons_succ]
              refine mixs_take 7 (v := ?_) rfl (by kernel_rfl) (fun _ _ _ h => h) (by kernel_rfl) (by assumption) (fun s => ?hy) ?_; case hy => (go_simp <;> with_reducible rfl)
              try simp only [List.getElem_toArray, List.getElem_cons_succ, List.getElem_cons_zero, Act.put, List.setIfInBounds_toArray, List.set_cons_zero, List.set_cons_succ]
              refine mixs_take 8 (v := ?_) rfl (by kernel_rfl) (fun _ _ _ h => h) (by kernel_rfl) (by assumption) (fun s => ?hy) ?_; case hy => (go_simp <;> with_reducible rfl)
              try simp only [List.getElem_toArray, List.getElem_cons_succ, List.getElem_cons_zero, Act.put, List.setIfInBounds_toArray, List.set_cons_zero, List.set_cons_succ]
              refine mixs_take 9 (v := ?_) rfl (by kernel_rfl) (fun _ _ _ h => h) (by kernel_rfl) (by assumption) (fun s => ?hy) ?_; case hy => (go_simp <;> with_reducible rfl)
              try simp only [List.getElem_toArray, List.getElem_cons_succ, List.getElem_cons_zero, Act.put, List.setIfInBounds_toArray, List.set_cons_zero, List.set_cons_succ]
              refine mixs_take 10 (v := ?_) rfl (by kernel_rfl) (fun _ _ _ h => h) (by kernel_rfl) (by assumption) (fun s => ?hy) ?_; case hy => (go_simp <;> with_reducible rfl)
              try simp only [List.getElem_toArray, List.getElem_cons_succ, List.getElem_cons_zero, Act.put, List.setIfInBounds_toArray, List.set_cons_zero, List.set_cons_succ]
              refine mixs_take 11 (v := ?_) rfl (by kernel_rfl) (fun _ _ _ h => h) (by kernel_rfl) (by assumption) (fun s => ?hy) ?_; case hy => (go_simp <;> with_reducible rfl)
              try simp only [List.getElem_toArray, List.getElem_cons_succ, List.getElem_cons_zero, Act.put, List.setIfInBounds_toArray, List.set_cons_zero, List.set_cons_succ]
              refine wpAnyH_done (by kernel_rfl) ?_ _
              go_wp2_with fail
              go_roundg (n - (q + 1))
              case measure => omega
              case rel => exact ⟨q + 1, by omega, by go_num, by rw [hov.out], by rw [hnw.out], hS⟩
          · have e : l.take q = l := List.take_of_length_le (by rw [hlen.out]; omega)
            have hov : oldAt l N[j].c.id = ta.old := by unfold oldAt; rw [hta]; rfl
            have hnw : nowAt l N[j].c.id = tb.new := by unfold nowAt; rw [htb]; rfl
            rw [e, hov, hnw]
            have c0 := hS.old x0 (by simp)
            have d0 : decide (ta.old < 0) = false := decide_eq_false (by omega)
            have d1 : (ta.old == tb.new) = false := by simpa using hne
            obtain ⟨b1, u1, u2⟩ : ∃ b1, (N[j].kind == 1) = b1 ∧ (ta.old == 0) = b1 := ⟨_, rfl, by rw [Bool.eq_iff_iff]; simpa using hk1.symm⟩
            obtain ⟨b2, u3, u4⟩ : ∃ b2, (N[j].kind == 2) = b2 ∧ (tb.new == 0) = b2 := ⟨_, rfl, by rw [Bool.eq_iff_iff]; simpa using hk2.symm⟩
            clear hta htb hold hne hk1 hk2 hov hnw e
            generalize ta.old = ao at *
            generalize tb.new = bn at *
            generalize N[j].kind = kj at *
            cases b1
            ·
              cases b2
              ·
                go_wp2_with fail
                go_roundg (N.length - (j + 1))
                case measure => omega
                case rel => exact ⟨j + 1, by omega, by go_num, hS⟩
              ·
                go_wp2_with fail
                go_roundg (N.length - (j + 1))
                case measure => omega
                case rel => exact ⟨j + 1, by omega, by go_num, hS⟩
            ·
              cases b2
              ·
                go_wp2_with fail
                go_roundg (N.length - (j + 1))
                case measure => omega
                case rel => exact ⟨j + 1, by omega, by go_num, hS⟩
              ·
                go_wp2_with fail
                go_roundg (N.length - (j + 1))
                case measure => omega
                case rel => exact ⟨j + 1, by omega, by go_num, hS⟩
      · have dj : decide (0 < (j : Int)) = false := decide_eq_false (by omega)
        have dj2 : decide (0 < j) = false := decide_eq_false hj0
        clear hir hj0
        go_wp2_with fail
        refine mixs_begin (by kernel_rfl) hS ?_
        clear hS
        intro w6 hS
        refine mixs_take 0 (v := ?_) rfl (by kernel_rfl) (fun _ _ _ h => h) (by kernel_rfl) (by assumption) (fun s => ?hy) ?_; case hy => (go_simp <;> with_reducible rfl)
        try simp only [List.getElem_toArray, List.getElem_cons_succ, List.getElem_cons_zero, Act.put, List.setIfInBounds_toArray, List.set_cons_zero, List.set_cons_succ]
        refine mixs_take 1 (v := ?_) rfl (by kernel_rfl) (fun _ _ _ h => h) (by kernel_rfl) (by assumption) (fun s => ?hy) ?_; case hy => (go_simp <;> with_reducible rfl)
        try simp only [List.getElem_toArray, List.getElem_cons_succ, List.getElem_cons_zero, Act.put, List.setIfInBounds_toArray, List.set_cons_zero, List.set_cons_succ]
        refine mixs_take 2 (v := ?_) rfl (by kernel_rfl) (fun _ _ _ h => h) (by kernel_rfl) (by assumption) (fun s => ?hy) ?_; case hy => (go_simp <;> with_reducible rfl)
        try simp only [List.getElem_toArray, List.getElem_cons_succ, List.getElem_cons_zero, Act.put, List.setIfInBounds_toArray, List.set_cons_zero, List.set_cons_succ]
        refine mixs_skip 3 rfl (by kernel_rfl) (fun _ _ _ h => h) (by kernel_rfl) (by assumption) ?_
        try simp only [List.getElem_toArray, List.getElem_cons_succ, List.getElem_cons_zero, Act.put, List.setIfInBounds_toArray, List.set_cons_zero, List.set_cons_succ]
        refine mixs_skip 4 rfl (by kernel_rfl) (fun _ _ _ h => h) (by kernel_rfl) (by assumption) ?_
        try simp only [List.getElem_toArray, List.getElem_cons_succ, List.getElem_cons_zero, Act.put, List.setIfInBounds_toArray, List.set_cons_zero, List.set_cons_succ]
        refine mixs_skip 5 rfl (by kernel_rfl) (fun _ _ _ h => h) (by kernel_rfl) (by assumption) ?_
        try simp only [List.getElem_toArray, List.getElem_cons_succ, List.getElem_cons_zero, Act.put, List.setIfInBounds_toArray, List.set_cons_zero, List.set_cons_succ]
        refine mixs_skip 6 rfl (by kernel_rfl) (fun _ _ _ h => h) (by kernel_rfl) (by assumption) ?_
        try simp only [List.getElem_toArray, List.getElem_cons_succ, List.getElem_cons_zero, Act.put, List.setIfInBounds_toArray, List.set_cons_zero, List.set_cons_succ]
        refine mixs_skip 7 rfl (by kernel_rfl) (fun _ _ _ h => h) (by kernel_rfl) (by assumption) ?_
        try simp only [List.getElem_toArray, List.getElem_cons_succ, List.getElem_cons_zero, Act.put, List.setIfInBounds_toArray, List.set_cons_zero, List.set_cons_succ]
        refine mixs_skip 8 rfl (by kernel_rfl) (fun _ _ _ h => h) (by kernel_rfl) (by assumption) ?_
        try simp only [List.getElem_toArray, List.getElem_cons_succ, List.getElem_cons_zero, Act.put, List.setIfInBounds_toArray, List.set_cons_zero, List.set_cons_succ]
        refine mixs_skip 9 rfl (by kernel_rfl) (fun _ _ _ h => h) (by kernel_rfl) (by assumption) ?_
        try simp only [List.getElem_toArray, List.getElem_cons_succ, List.getElem_cons_zero, Act.put, List.setIfInBounds_toArray, List.set_cons_zero, List.set_cons_succ]
        refine mixs_skip 10 rfl (by kernel_rfl) (fun _ _ _ h => h) (by kernel_rfl) (by assumption) ?_
        try simp only [List.getElem_toArray, List.getElem_cons_succ, List.getElem_cons_zero, Act.put, List.setIfInBounds_toArray, List.set_cons_zero, List.set_cons_succ]
        refine mixs_skip 11 rfl (by kernel_rfl) (fun _ _ _ h => h) (by kernel_rfl) (by assumption) ?_
        try simp only [List.getElem_toArray, List.getElem_cons_succ, List.getElem_cons_zero, Act.put, List.setIfInBounds_toArray, List.set_cons_zero, List.set_cons_succ]
        refine mixs_skip 12 rfl (by kernel_rfl) (fun _ _ _ h => h) (by kernel_rfl) (by assumption) ?_
        try simp only [List.getElem_toArray, List.getElem_cons_succ, List.getElem_cons_zero, Act.put, List.setIfInBounds_toArray, List.set_cons_zero, List.set_cons_succ]
        refine mixs_skip 13 rfl (by kernel_rfl) (fun _ _ _ h => h) (by kernel_rfl) (by assumption) ?_
        try simp only [List.getElem_toArray, List.getElem_cons_succ, List.getElem_cons_zero, Act.put, List.setIfInBounds_toArray, List.set_cons_zero, List.set_cons_succ]
        refine mixs_skip 14 rfl (by kernel_rfl) (fun _ _ _ h => h) (by kernel_rfl) (by assumption) ?_
        try simp only [List.getElem_toArray, List.getElem_cons_succ, List.getElem_cons_zero, Act.put, List.setIfInBounds_toArray, List.set_cons_zero, List.set_cons_succ]
        refine mixs_skip 15 rfl (by kernel_rfl) (fun _ _ _ h => h) (by kernel_rfl) (by assumption) ?_
        try simp only [List.getElem_toArray, List.getElem_cons_succ, List.getElem_cons_zero, Act.put, List.setIfInBounds_toArray, List.set_cons_zero, List.set_cons_succ]
        refine mixs_skip 16 rfl (by kernel_rfl) (fun _ _ _ h => h) (by kernel_rfl) (by assumption) ?_
        try simp only [List.getElem_toArray, List.getElem_cons_succ, List.getElem_cons_zero, Act.put, List.setIfInBounds_toArray, List.set_cons_zero, List.set_cons_succ]
        refine mixs_take 17 (v := ?_) rfl (by kernel_rfl) (fun _ _ _ h => h) (by kernel_rfl) (by assumption) (fun s => ?hy) ?_; case hy => (go_simp <;> with_reducible rfl)
        try simp only [List.getElem_toArray, List.getElem_cons_succ, List.getElem_cons_zero, Act.put, List.setIfInBounds_toArray, List.set_cons_zero, List.set_cons_succ]
        refine wpAnyH_done (by kernel_rfl) ?_ _
        go_wp2_with fail
        go_loopg [5, 6, 7] n (fun gk v5 v6 vk wr => ∃ q : Nat, q + gk = n ∧ vk = .int .i64 q ∧ v5 = .int .i64 (oldAt (l.take q) N[j].c.id) ∧ v6 = .int .i64 (nowAt (l.take q) N[j].c.id) ∧ St w5 [] [] wr)
        case atStart => exact ⟨0, Nat.zero_add _, rfl, rfl, rfl, hS⟩
        case round =>
          clear hS
          obtain ⟨q, hq, rfl, rfl, rfl, hS⟩ := hrel
          by_cases hlt2 : q < n
          · have hql : q < l.length := by rw [hlen.out]; exact hlt2
            obtain ⟨y1, y2, y3⟩ := hcl.out q hql
            have c2 := hS.old y2 (by simp)
            have c3 := hS.old y3 (by simp)
            have kx := hS.kold0 x1
            have ky := hS.kold0 y1
            have htk : l.take (q + 1) = l.take q ++ [l[q]] := List.take_succ_eq_append_getElem hql
            have ho := firstOf_snoc (l.take q) l[q] N[j].c.id
            have hw := lastOf_snoc (l.take q) l[q] N[j].c.id
            rw [← htk] at ho hw
            by_cases he : l[q].id = N[j].c.id
            · have de : (l[q].id == N[j].c.id) = true := by simpa using he
              rw [if_pos he] at ho hw
              have hnw : nowAt (l.take (q + 1)) N[j].c.id = l[q].new := by unfold nowAt; rw [hw]; rfl
              replace hnw := Lib.hid hnw
              cases hf : firstOf (l.take q) N[j].c.id with
              | none =>
                rw [hf] at ho
                have hov : oldAt (l.take (q + 1)) N[j].c.id = l[q].old := by unfold oldAt; rw [ho]; rfl
                have hoc : oldAt (l.take q) N[j].c.id = -1 := by unfold oldAt; rw [hf]; rfl
                replace hov := Lib.hid hov
                rw [hoc]
                clear ho hw hf htk he hoc
                generalize nowAt (l.take q) N[j].c.id = nv at *
                generalize l[q].id = iq at *
                generalize l[q].old = oq at *
                generalize l[q].new = nq at *
                generalize N[j].c.id = idj at *
                go_wp2_with fail
                refine mixs_begin (by kernel_rfl) hS ?_
                clear hS
                intro w7 hS
                refine mixs_take 0 (v := ?_) rfl (by kernel_rfl) (fun _ _ _ h => h) (by kernel_rfl) (by assumption) (fun s => ?hy) ?_; case hy => (go_simp <;> with_reducible rfl)
                try simp only [List.getElem_toArray, List.getElem_cons_succ, List.getElem_cons_zero, Act.put, List.setIfInBounds_toArray, List.set_cons_zero, List.set_cons_succ]
                refine mixs_take 1 (v := ?_) rfl (by kernel_rfl) (fun _ _ _ h => h) (by kernel_rfl) (by assumption) (fun s => ?hy) ?_; case hy => (go_simp <;> with_reducible rfl)
                try simp only [List.getElem_toArray, List.getElem_cons_succ, List.getElem_cons_zero, Act.put, List.setIfInBounds_toArray, List.set_cons_zero, List.set_cons_succ]
                refine mixs_take 2 (v := ?_) rfl (by kernel_rfl) (fun _ _ _ h => h) (by kernel_rfl) (by assumption) (fun s => ?hy) ?_; case hy => (go_simp <;> with_reducible rfl)
                try simp only [List.getElem_toArray, List.getElem_cons_succ, List.getElem_cons_zero, Act.put, List.setIfInBounds_toArray, List.set_cons_zero, List.set_cons_succ]
                refine mixs_take 3 (v := ?_) rfl (by kernel_rfl) (fun _ _ _ h => h) (by kernel_rfl) (by assumption) (fun s => ?hy) ?_; case hy => (go_simp <;> with_reducible rfl)
                try simp only [List.getElem_toArray, List.getElem_cons_succ, List.getElem_cons_zero, Act.put, List.setIfInBounds_toArray, List.set_cons_zero, List.set_cons_succ]
                refine mixs_take 4 (v := ?_) rfl (by kernel_rfl) (fun _ _ _ h => h) (by kernel_rfl) (by assumption) (fun s => ?hy) ?_; case hy => (go_simp <;> with_reducible rfl)
                try simp only [List.getElem_toArray, List.getElem_cons_succ, List.getElem_cons_zero, Act.put, List.setIfInBounds_toArray, List.set_cons_zero, List.set_cons_succ]
                refine mixs_take 5 (v := ?_) rfl (by kernel_rfl) (fun _ _ _ h => h) (by kernel_rfl) (by assumption) (fun s => ?hy) ?_; case hy => (go_simp <;> with_reducible rfl)
                try simp only [List.getElem_toArray, List.getElem_cons_succ, List.getElem_cons_zero, Act.put, List.setIfInBounds_toArray, List.set_cons_zero, List.set_cons_succ]
                refine mixs_take 6 (v := ?_) rfl (by kernel_rfl) (fun _ _ _ h => h) (by kernel_rfl) (by assumption) (fun s => ?hy) ?_; case hy => (go_simp <;> with_reducible rfl)
                try simp only [List.getElem_toArray, List.getElem_cons_succ, List.getElem_cons_zero, Act.put, List.setIfInBounds_toArray, List.set_cons_zero, List.set_cons_succ]
                refine mixs_take 7 (v := ?_) rfl (by kernel_rfl) (fun _ _ _ h => h) (by kernel_rfl) (by assumption) (fun s => ?hy) ?_; case hy => (go_simp <;> with_reducible rfl)
                try simp only [List.getElem_toArray, List.getElem_cons_succ, List.getElem_cons_zero, Act.put, List.setIfInBounds_toArray, List.set_cons_zero, List.set_cons_succ]
                refine mixs_take 8 (v := ?_) rfl (by kernel_rfl) (fun _ _ _ h => h) (by kernel_rfl) (by assumption) (fun s => ?hy) ?_; case hy => (go_simp <;> with_reducible rfl)
                try simp only [List.getElem_toArray, List.getElem_cons_succ, List.getElem_cons_zero, Act.put, List.setIfInBounds_toArray, List.set_cons_zero, List.set_cons_succ]
                refine mixs_take 9 (v := ?_) rfl (by kernel_rfl) (fun _ _ _ h => h) (by kernel_rfl) (by assumption) (fun s => ?hy) ?_; case hy => (go_simp <;> with_reducible rfl)
                try simp only [List.getElem_toArray, List.getElem_cons_succ, List.getElem_cons_zero, Act.put, List.setIfInBounds_toArray, List.set_cons_zero, List.set_cons_succ]
                refine mixs_take 10 (v := ?_) rfl (by kernel_rfl) (fun _ _ _ h => h) (by kernel_rfl) (by assumption) (fun s => ?hy) ?_; case hy => (go_simp <;> with_reducible rfl)
                try simp only [List.getElem_toArray, List.getElem_cons_succ, List.getElem_cons_zero, Act.put, List.setIfInBounds_toArray, List.set_cons_zero, List.set_cons_succ]
                refine mixs_take 11 (v := ?_) rfl (by kernel_rfl) (fun _ _ _ h => h) (by kernel_rfl) (by assumption) (fun s => ?hy) ?_; case hy => (go_simp <;> with_reducible rfl)
                try simp only [List.getElem_toArray, List.getElem_cons_succ, List.getElem_cons_zero, Act.put, List.setIfInBounds_toArray, List.set_cons_zero, List.set_cons_succ]
                refine wpAnyH_done (by kernel_rfl) ?_ _
                have c2 := hS.old y2 (by simp)
                have c3 := hS.old y3 (by simp)
                go_wp2_with fail
                go_roundg (n - (q + 1))
                case measure => omega
                case rel => exact ⟨q + 1, by omega, by go_num, by rw [hov.out], by rw [hnw.out], hS⟩
              | some u =>
                rw [hf] at ho
                have hov : oldAt (l.take (q + 1)) N[j].c.id = u.old := by unfold oldAt; rw [ho]; rfl
                have hoc : oldAt (l.take q) N[j].c.id = u.old := by unfold oldAt; rw [hf]; rfl
                have hu0 := hmo.out u (List.mem_of_mem_take (firstOf_mem hf).1)
                have du : decide (u.old < 0) = false := decide_eq_false (by omega)
                replace hov := Lib.hid hov
                rw [hoc]
                clear ho hw hf htk he hoc hu0
                generalize nowAt (l.take q) N[j].c.id = nv at *
                generalize u.old = uo at *
                generalize l[q].id = iq at *
                generalize l[q].old = oq at *
                generalize l[q].new = nq at *
                generalize N[j].c.id = idj at *
                go_wp2_with fail
                refine mixs_begin (by kernel_rfl) hS ?_
                clear hS
                intro w7 hS
                refine mixs_take 0 (v := ?_) rfl (by kernel_rfl) (fun _ _ _ h => h) (by kernel_rfl) (by assumption) (fun s => ?hy) ?_; case hy => (go_simp <;> with_reducible rfl)
                try simp only [List.getElem_toArray, List.getElem_cons_succ, List.getElem_cons_zero, Act.put, List.setIfInBounds_toArray, List.set_cons_zero, List.set_cons_succ]
                refine mixs_take 1 (v := ?_) rfl (by kernel_rfl) (fun _ _ _ h => h) (by kernel_rfl) (by assumption) (fun s => ?hy) ?_; case hy => (go_simp <;> with_reducible rfl)
                try simp only [List.getElem_toArray, List.getElem_cons_succ, List.getElem_cons_zero, Act.put, List.setIfInBounds_toArray, List.set_cons_zero, List.set_cons_succ]
                refine mixs_take 2 (v := ?_) rfl (by kernel_rfl) (fun _ _ _ h => h) (by kernel_rfl) (by assumption) (fun s => ?hy) ?_; case hy => (go_simp <;> with_reducible rfl)
                try simp only [List.getElem_toArray, List.getElem_cons_succ, List.getElem_cons_zero, Act.put, List.setIfInBounds_toArray, List.set_cons_zero, List.set_cons_succ]
                refine mixs_take 3 (v := ?_) rfl (by kernel_rfl) (fun _ _ _ h => h) (by kernel_rfl) (by assumption) (fun s => ?hy) ?_; case hy => (go_simp <;> with_reducible rfl)
                try simp only [List.getElem_toArray, List.getElem_cons_succ, List.getElem_cons_zero, Act.put, List.setIfInBounds_toArray, List.set_cons_zero, List.set_cons_succ]
                refine mixs_take 4 (v := ?_) rfl (by kernel_rfl) (fun _ _ _ h => h) (by kernel_rfl) (by assumption) (fun s => ?hy) ?_; case hy => (go_simp <;> with_reducible rfl)
                try simp only [List.getElem_toArray, List.getElem_cons_succ, List.getElem_cons_zero, Act.put, List.setIfInBounds_toArray, List.set_cons_zero, List.set_cons_succ]
                refine mixs_take 5 (v := ?_) rfl (by kernel_rfl) (fun _ _ _ h => h) (by kernel_rfl) (by assumption) (fun s => ?hy) ?_; case hy => (go_simp <;> with_reducible rfl)
                try simp only [List.getElem_toArray, List.getElem_cons_succ, List.getElem_cons_zero, Act.put, List.setIfInBounds_toArray, List.set_cons_zero, List.set_cons_succ]
                refine mixs_take 6 (v := ?_) rfl (by kernel_rfl) (fun _ _ _ h => h) (by kernel_rfl) (by assumption) (fun s => ?hy) ?_; case hy => (go_simp <;> with_reducible rfl)
                try simp only [List.getElem_toArray, List.getElem_cons_succ, List.getElem_cons_zero, Act.put, List.setIfInBounds_toArray, List.set_cons_zero, List.set_cons_succ]
                refine mixs_take 7 (v := ?_) rfl (by kernel_rfl) (fun _ _ _ h => h) (by kernel_rfl) (by assumption) (fun s => ?hy) ?_; case hy => (go_simp <;> with_reducible rfl)
                try simp only [List.getElem_toArray, List.getElem_cons_succ, List.getElem_cons_zero, Act.put, List.setIfInBounds_toArray, List.set_cons_zero, List.set_cons_succ]
                refine mixs_take 8 (v := ?_) rfl (by kernel_rfl) (fun _ _ _ h => h) (by kernel_rfl) (by assumption) (fun s => ?hy) ?_; case hy => (go_simp <;> with_reducible rfl)
                try simp only [List.getElem_toArray, List.getElem_cons_succ, List.getElem_cons_zero, Act.put, List.setIfInBounds_toArray, List.set_cons_zero, List.set_cons_succ]
                refine mixs_take 9 (v := ?_) rfl (by kernel_rfl) (fun _ _ _ h => h) (by kernel_rfl) (by assumption) (fun s => ?hy) ?_; case hy => (go_simp <;> with_reducible rfl)
                try simp only [List.getElem_toArray, List.getElem_cons_succ, List.getElem_cons_zero, Act.put, List.setIfInBounds_toArray, List.set_cons_zero, List.set_cons_succ]
                refine mixs_take 10 (v := ?_) rfl (by kernel_rfl) (fun _ _ _ h => h) (by kernel_rfl) (by assumption) (fun s => ?hy) ?_; case hy => (go_simp <;> with_reducible rfl)
                try simp only [List.getElem_toArray, List.getElem_cons_succ, List.getElem_cons_zero, Act.put, List.setIfInBounds_toArray, List.set_cons_zero, List.set_cons_succ]
                refine mixs_take 11 (v := ?_) rfl (by kernel_rfl) (fun _ _ _ h => h) (by kernel_rfl) (by assumption) (fun s => ?hy) ?_; case hy => (go_simp <;> with_reducible rfl)
                try simp only [List.getElem_toArray, List.getElem_cons_succ, List.getElem_cons_zero, Act.put, List.setIfInBounds_toArray, List.set_cons_zero, List.set_cons_succ]
                refine wpAnyH_done (by kernel_rfl) ?_ _
                have c2 := hS.old y2 (by simp)
                have c3 := hS.old y3 (by simp)
                go_wp2_with fail
                go_roundg (n - (q + 1))
                case measure => omega
                case rel => exact ⟨q + 1, by omega, by go_num, by rw [hov.out], by rw [hnw.out], hS⟩
            · have de : (l[q].id == N[j].c.id) = false := by simpa using he
              rw [if_neg he] at ho hw
              rw [Option.or_none] at ho
              have hnw : nowAt (l.take (q + 1)) N[j].c.id = nowAt (l.take q) N[j].c.id := by unfold nowAt; rw [hw]
              have hov : oldAt (l.take (q + 1)) N[j].c.id = oldAt (l.take q) N[j].c.id := by unfold oldAt; rw [ho]
              replace hnw := Lib.hid hnw
              replace hov := Lib.hid hov
              clear ho hw htk he c2 c3
              generalize nowAt (l.take q) N[j].c.id = nv at *
              generalize oldAt (l.take q) N[j].c.id = ov at *
              generalize l[q].id = iq at *
              generalize N[j].c.id = idj at *
              go_wp2_with fail
              refine mixs_begin (by kernel_rfl) hS ?_
              clear hS
              intro w7 hS
              refine mixs_take 0 (v := ?_) rfl (by kernel_rfl) (fun _ _ _ h => h) (by kernel_rfl) (by assumption) (fun s => ?hy) ?_; case hy => (go_simp <;> with_reducible rfl)
              try simp only [List.getElem_toArray, List.getElem_cons_succ, List.getElem_cons_zero, Act.put, List.setIfInBounds_toArray, List.set_cons_zero, List.set_cons_succ]
              refine mixs_take 1 (v := ?_) rfl (by kernel_rfl) (fun _ _ _ h => h) (by kernel_rfl) (by assumption) (fun s => ?hy) ?_; case hy => (go_simp <;> with_reducible rfl)
              try simp only [List.getElem_toArray, List.getElem_cons_succ, List.getElem_cons_zero, Act.put, List.setIfInBounds_toArray, List.set_cons_zero, List.set_cons_succ]
              refine mixs_take 2 (v := ?_) rfl (by kernel_rfl) (fun _ _ _ h => h) (by kernel_rfl) (by assumption) (fun s => ?hy) ?_; case hy => (go_simp <;> with_reducible rfl)
              try simp only [List.getElem_toArray, List.getElem_cons_succ, List.getElem_cons_zero, Act.put, List.setIfInBounds_toArray, List.set_cons_zero, List.set_cons_succ]
              refine mixs_take 3 (v := ?_) rfl (by kernel_rfl) (fun _ _ _ h => h) (by kernel_rfl) (by assumption) (fun s => ?hy) ?_; case hy => (go_simp <;> with_reducible rfl)
              try simp only [List.getElem_toArray, List.getElem_cons_succ, List.getElem_cons_zero, Act.put, List.setIfInBounds_toArray, List.set_cons_zero, List.set_cons_succ]
              refine mixs_take 4 (v := ?_) rfl (by kernel_rfl) (fun _ _ _ h => h) (by kernel_rfl) (by assumption) (fun s => ?hy) ?_; case hy => (go_simp <;> with_reducible rfl)
              try simp only [List.getElem_toArray, List.getElem_cons_succ, List.getElem_cons_zero, Act.put, List.setIfInBounds_toArray, List.set_cons_zero, List.set_cons_succ]
              refine mixs_take 5 (v := ?_) rfl (by kernel_rfl) (fun _ _ _ h => h) (by kernel_rfl) (by assumption) (fun s => ?hy) ?_; case hy => (go_simp <;> with_reducible rfl)
              try simp only [List.getElem_toArray, List.getElem_cons_succ, List.getElem_cons_zero, Act.put, List.setIfInBounds_toArray, List.set_cons_zero, List.set_cons_succ]
              refine mixs_take 6 (v := ?_) rfl (by kernel_rfl) (fun _ _ _ h => h) (by kernel_rfl) (by assumption) (fun s => ?hy) ?_; case hy => (go_simp <;> with_reducible rfl)
              try simp only [List.getElem_toArray, List.getElem_cons_succ, List.getElem_cons_zero, Act.put, List.setIfInBounds_toArray, List.set_cons_zero, List.set_cons_succ]
              refine mixs_take 7 (v := ?_) rfl (by kernel_rfl) (fun _ _ _ h => h) (by kernel_rfl) (by assumption) (fun s => ?hy) ?_; case hy => (go_simp <;> with_reducible rfl)
              try simp only [List.getElem_toArray, List.getElem_cons_succ, List.getElem_cons_zero, Act.put, List.setIfInBounds_toArray, List.set_cons_zero, List.set_cons_succ]
              refine mixs_take 8 (v := ?_) rfl (by kernel_rfl) (fun _ _ _ h => h) (by kernel_rfl) (by assumption) (fun s => ?hy) ?_; case hy => (go_simp <;> with_reducible rfl)
              try simp only [List.getElem_toArray, List.getElem_cons_succ, List.getElem_cons_zero, Act.put, List.setIfInBounds_toArray, List.set_cons_zero, List.set_cons_succ]
              refine mixs_take 9 (v := ?_) rfl (by kernel_rfl) (fun _ _ _ h => h) (by kernel_rfl) (by assumption) (fun s => ?hy) ?_; case hy => (go_simp <;> with_reducible rfl)
              try simp only [List.getElem_toArray, List.getElem_cons_succ, List.getElem_cons_zero, Act.put, List.setIfInBounds_toArray, List.set_cons_zero, List.set_cons_succ]
              refine mixs_take 10 (v := ?_) rfl (by kernel_rfl) (fun _ _ _ h => h) (by kernel_rfl) (by assumption) (fun s => ?hy) ?_; case hy => (go_simp <;> with_reducible rfl)
              try simp only [List.getElem_toArray, List.getElem_cons_succ, List.getElem_cons_zero, Act.put, List.setIfInBounds_toArray, List.set_cons_zero, List.set_cons_succ]
              refine mixs_take 11 (v := ?_) rfl (by kernel_rfl) (fun _ _ _ h => h) (by kernel_rfl) (by assumption) (fun s => ?hy) ?_; case hy => (go_simp <;> with_reducible rfl)
              try simp only [List.getElem_toArray, List.getElem_cons_succ, List.getElem_cons_zero, Act.put, List.setIfInBounds_toArray, List.set_cons_zero, List.set_cons_succ]
              refine wpAnyH_done (by kernel_rfl) ?_ _
              go_wp2_with fail
              go_roundg (n - (q + 1))
              case measure => omega
              case rel => exact ⟨q + 1, by omega, by go_num, by rw [hov.out], by rw [hnw.out], hS⟩
          · have e : l.take q = l := List.take_of_length_le (by rw [hlen.out]; omega)
            have hov : oldAt l N[j].c.id = ta.old := by unfold oldAt; rw [hta]; rfl
            have hnw : nowAt l N[j].c.id = tb.new := by unfold nowAt; rw [htb]; rfl
            rw [e, hov, hnw]
            have c0 := hS.old x0 (by simp)
            have d0 : decide (ta.old < 0) = false := decide_eq_false (by omega)
            have d1 : (ta.old == tb.new) = false := by simpa using hne
            obtain ⟨b1, u1, u2⟩ : ∃ b1, (N[j].kind == 1) = b1 ∧ (ta.old == 0) = b1 := ⟨_, rfl, by rw [Bool.eq_iff_iff]; simpa using hk1.symm⟩
            obtain ⟨b2, u3, u4⟩ : ∃ b2, (N[j].kind == 2) = b2 ∧ (tb.new == 0) = b2 := ⟨_, rfl, by rw [Bool.eq_iff_iff]; simpa using hk2.symm⟩
            clear hta htb hold hne hk1 hk2 hov hnw e
            generalize ta.old = ao at *
            generalize tb.new = bn at *
            generalize N[j].kind = kj at *
            cases b1
            ·
              cases b2
              ·
                go_wp2_with fail
                go_roundg (N.length - (j + 1))
                case measure => omega
                case rel => exact ⟨j + 1, by omega, by go_num, hS⟩
              ·
                go_wp2_with fail
                go_roundg (N.length - (j + 1))
                case measure => omega
                case rel => exact ⟨j + 1, by omega, by go_num, hS⟩
            ·
              cases b2
              ·
                go_wp2_with fail
                go_roundg (N.length - (j + 1))
                case measure => omega
                case rel => exact ⟨j + 1, by omega, by go_num, hS⟩
              ·
                go_wp2_with fail
                go_roundg (N.length - (j + 1))
                case measure => omega
                case rel => exact ⟨j + 1, by omega, by go_num, hS⟩
    · have hjn : j = N.length := by omega
      have dl : decide (n < N.length) = false := decide_eq_false (by omega)
      have dl2 : decide ((N.length : Int) ≤ (n : Int)) = true := decide_eq_true (by omega)
      have dl3 : decide (N.length ≤ n) = true := decide_eq_true hnl
      go_wp2_with (go_at_call 25; (with_reducible refine (cA.out _).mono ?_); rintro _ w9 ⟨rfl, hk9⟩; have hS1 := hS.keepB hk9; clear hk9 hS; have hS := hS1; clear hS1)
      go_ret
      exact ⟨rfl, below_step hB.out hS.below⟩
end Go.Proofs.Ytajldelodnjmoaa
end

section
/- The law TransOnce, for any turns. -/
set_option linter.unusedSimpArgs false
set_option linter.unusedVariables false
namespace Go.Proofs.Ytajldelodnjmoaa
open Go.RowKit Go.Ofp
set_option linter.unusedVariables false
set_option maxRecDepth 100000
set_option maxHeartbeats 4000000
theorem once_any (a : Option Addr) (n c : Nat) (l : List Tn) (w : World) (hl : Lst tnRow TnIn w a n c l) :
    Calls Try.prog 6 #[.slice a n c] w fun e w' => e = .returned (.bool true) ∧ Below w.heap.size w w' := by
  have cA := Lib.hid fun W : World => awake23_any W
  have cL : ∀ W, Below w.heap.size w W → Calls Try.prog 12 #[.slice a n c] W fun e w' => e = .returned (.bool (largeT l)) ∧ Below W.heap.size W w' := fun W hb => largeT_any a n c l W (hl.below hb)
  have hS := St.start w
  cases h1 : largeT l
  · cases h2 : goes Cd.ok [] l
    · have hn : n ≤ 1000 := by
        unfold largeT at h1
        rw [Bool.or_eq_false_iff] at h1
        have := of_decide_eq_false h1.1
        rw [hl.len] at this
        omega
      have cC : ∀ W, Below w.heap.size w W → Calls Try.prog 13 #[.slice a n c] W fun e w' => e = .returned (.bool false) ∧ Below W.heap.size W w' := fun W hb => by
        have := rcheck23_any a n c l W (hl.below hb) hn
        rwa [h2] at this
      rw [h1] at cL
      replace cL := Lib.hid cL
      replace cC := Lib.hid cC
      replace hl := Lib.hid hl
      clear h1 h2 hn
      go_enter Try.func6, Try.ntmps6
      go_wp2_with (first
        | (go_at_call 12; (with_reducible refine (cL.out _ hS.below).mono ?_); rintro _ w3 ⟨rfl, hk9⟩; have hS1 := hS.keepB hk9; clear hk9 hS; have hS := hS1; clear hS1)
        | (go_at_call 13; (with_reducible refine (cC.out _ hS.below).mono ?_); rintro _ w4 ⟨rfl, hk9⟩; have hS1 := hS.keepB hk9; clear hk9 hS; have hS := hS1; clear hS1)
        | (go_at_call 25; (with_reducible refine (cA.out _).mono ?_); rintro _ w9 ⟨rfl, hk9⟩; have hS1 := hS.keepB hk9; clear hk9 hS; have hS := hS1; clear hS1))
      go_ret
      exact ⟨rfl, hS.below⟩
    · exact once_main a n c l w hl h1 h2
  · rw [h1] at cL
    replace cL := Lib.hid cL
    replace hl := Lib.hid hl
    clear h1
    go_enter Try.func6, Try.ntmps6
    go_wp2_with (first
      | (go_at_call 12; (with_reducible refine (cL.out _ hS.below).mono ?_); rintro _ w3 ⟨rfl, hk9⟩; have hS1 := hS.keepB hk9; clear hk9 hS; have hS := hS1; clear hS1)
      | (go_at_call 25; (with_reducible refine (cA.out _).mono ?_); rintro _ w9 ⟨rfl, hk9⟩; have hS1 := hS.keepB hk9; clear hk9 hS; have hS := hS1; clear hS1))
    go_ret
    exact ⟨rfl, hS.below⟩
end Go.Proofs.Ytajldelodnjmoaa
end
