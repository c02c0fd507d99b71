/- Texts laid together: RingFalls. -/
import Derived.Test.YtlhpibniecfofaaM4
import Derived.Test.YtlhpibniecfofaaM5
import Derived.Test.YtlhpibniecfofaaM9
section
/- The law RingFalls: the walk of it. -/
set_option linter.unusedSimpArgs false
set_option linter.unusedVariables false
namespace Go.Ofp
open Go.RowKit Pcs
section
variable {P : Program} {w w0 : World} {F : List Nat} {L : List Ch} {ops : Array Oper} {o : Oper} {a : Act} {Q : Exit → Act → World → Prop} {K : Act → World → Prop}
theorem op_build0s_st (hw : Region.wanted o (yielded ops a.tmps) = true) (hS : St w0 F L w) {t : TypeId} (ho : o.op = .buildSlice t 0 #[]) {e : TypeId} (ht : P.underlying t = some (.slice e)) {z : Value} {size bytes : Nat} (he : Elem P e z size bytes)
    (h : ∀ g w', St w0 F (Ch.row e size (.slice (some ⟨g, 0, none⟩) 0 0) 0 [] :: L) w' → K (a.put o.dst (.slice (some ⟨g, 0, none⟩) 0 0)) w') : if Region.wanted o (yielded ops a.tmps) = true then Oper.wp P o a w K Q else K (a.put o.dst undef) w := by
  rw [if_pos hw]
  have hr := run_build0 (P := P) w t e ht he
  unfold Oper.wp execOp
  simp only [ho, List.map_toArray, List.map_nil, Sem.run_bind, hr, Result.andThen_ok, Sem.run_pure]
  exact h _ _ (hS.build0 e size)
end
theorem Stands.runs {d : Dk} {r : Rg} {size : Nat} {l : List ByteArray} (h : Stands d r size l) : d.Runs r 1 r.head l r.tail := by
  obtain ⟨y, h1, h2⟩ := h.chain
  exact Dk.Runs.chain h1 h2
theorem Stands.len {d : Dk} {r : Rg} {size : Nat} {l : List ByteArray} (h : Stands d r size l) : l.length ≤ r.n := by
  have := h.runs.le (by omega)
  omega
end Go.Ofp
namespace Go.Proofs.Ytlhpibniecfofaa
open Go.RowKit Go.Ofp Pcs
set_option linter.unusedVariables false
set_option maxRecDepth 100000
set_option maxHeartbeats 16000000

theorem Sl_take {w : World} {a : Option Addr} {xs : List Value} {k : Nat} (h : Sl w a xs) : Sl w a (xs.take k) := fun i hi => by
  obtain ⟨b, off, e, hc⟩ := h i (by simp at hi; omega)
  exact ⟨b, off, e, by rw [hc]; simp⟩
theorem texts_one (l : List ByteArray) : ∀ u ∈ l.map vs, u.oneCell' = true := by
  intro u hu
  obtain ⟨s, -, rfl⟩ := List.mem_map.1 hu
  simp [vs, Value.oneCell']
theorem many_500f {n : Nat} (h : n ≤ 500) : manyB n ≤ 10 := by unfold manyB; split <;> omega

theorem falls37_any (hd : Nat) (a : Option Addr) (m c : Nat) (falls : List Fa) (w : World) (hl : Fas w a m c falls) (hhd : hd < 4294967296) :
    Calls Try.prog 7 #[.int .u32 hd, .slice a m c] w fun e w' => e = .returned (.bool true) ∧ Below w.heap.size w w' := by
  have cA := awake37_any
  have hS := St.start w
  have ex := elem_tx
  have hmm : m ≤ maxLen := Nat.le_trans hl.le hl.cm
  unfold maxLen at hmm
  replace cA := Lib.hid cA
  by_cases hm8 : m ≤ 8
  · have cN : ∀ W : World, Calls Try.prog 11 #[.int .i64 42] W fun e w' => ∃ bd sv wv, e = .returned (.pointer (some ⟨bd, 0, none⟩)) ∧ St W [] (dks bd sv wv (Dk.new 42)) w' := fun W => new_any 42 W (by decide) (by decide)
    have hl0 : (Dk.new 42).sec.length = 42 := by simp [Dk.new]
    have hr0 : (⟨2, 40, hd, hd, 1⟩ : Rg).Ok 42 := ⟨by simp, by simp, by simp only; omega, by simp only; omega, by simp⟩
    have cG : ∀ (bd : Nat) (sv wv : Value) (W : World), St W (feet (dks bd sv wv (Dk.new 42))) (dks bd sv wv (Dk.new 42)) W → Calls Try.prog 42 #[.pointer (some ⟨bd, 0, none⟩), .int .i64 2, .int .i64 40, .int .i64 hd, .int .i64 1] W fun e w' => ∃ g, e = .returned (.pointer (some ⟨g, 0, none⟩)) ∧ St W [] [rng g bd ⟨2, 40, hd, hd, 1⟩] w' := fun bd sv wv W hh =>
      (rgnew_any bd sv wv (Dk.new 42) 2 40 hd 1 W hh (by omega)).mono fun e w' hk => hk.2 (by rw [hl0, ringOk_iff]; omega)
    have hst0 := Stands.new hr0 rfl
    have hfz0 : (Dk.new 42).Fit 42 0 := Dk.Fit.new 42 (by decide)
    replace cN := Lib.hid cN
    replace cG := Lib.hid cG
    replace hst0 := Lib.hid hst0
    replace hfz0 := Lib.hid hfz0
    replace hl := Lib.hid hl
    clear hl0 hr0
    generalize Dk.new 42 = d0 at *
    go_enter Try.func7, Try.ntmps7
    go_wp2_with (first
      | (go_at_call 11; (with_reducible refine (cN.out _).mono ?_); rintro _ w2 ⟨bd, sv, wv, rfl, hk⟩; have hS1 := hS.made hk; clear hS hk; have hS := hS1; clear hS1)
      | (go_at_call 42; (with_reducible refine (cG.out _ _ _ _ (hS.preM (A := []) (B := dks _ _ _ _) (R := []))).mono ?_); rintro _ w2 ⟨g, rfl, hk⟩; have hS1 := hS.made hk; clear hS hk; have hS : St w [] (rng g bd ⟨2, 40, hd, hd, 1⟩ :: (dks bd sv wv d0 ++ [])) w2 := hS1; clear hS1)
      | ((with_reducible refine wpList_build0_st hS rfl rfl Try.underlying26 ex ?_); intro g3 w3 hS1; clear hS; have hS := hS1; clear hS1))
    clear cN cG
    go_loopg [6, 7, 8] m (fun gk vg vr vi wr => ∃ (i g : Nat) (sv wv rv : Value) (d : Dk) (r : Rg) (l : List ByteArray), i + gk = m ∧ vi = .int .i64 (i : Nat) ∧ vg = .pointer (some ⟨g, 0, none⟩) ∧ rv = vr ∧ Hid (Stands d r 42 l) ∧ Hid (d.Fit 42 0) ∧ (r.src = 2 ∧ r.n = 40 ∧ r.head = hd ∧ r.life = i + 1) ∧ St w [] (Ch.row 9 1 rv l.length (l.map vs) :: rng g bd r :: (dks bd sv wv d ++ [])) wr)
    case atStart => exact ⟨0, g, sv, wv, _, d0, _, [], by omega, rfl, rfl, rfl, hst0, hfz0, ⟨rfl, rfl, rfl, rfl⟩, hS⟩
    case round =>
      clear hS hst0 hfz0
      obtain ⟨i, g, sv, wv, rv, d, r, l, hi, rfl, rfl, rfl, hst, hwt, hrf, hS⟩ := hrel
      by_cases hlt : i < m
      · have hj1 : i < falls.length := by have := hl.out.len; omega
        have hlI : (i : Int) < m := by omega
        obtain ⟨b1, o1, rfl, hc⟩ := hl.out.get i hj1
        have z0 := hc 0 _ rfl
        have z1 := hc 1 _ rfl
        have z2 := hc 2 _ rfl
        have z3 := hc 3 _ rfl
        rw [show o1 + (i * 4 + 0) = o1 + i * 4 by omega] at z0
        rw [show o1 + (i * 4 + 1) = o1 + i * 4 + 1 by omega] at z1
        rw [show o1 + (i * 4 + 2) = o1 + i * 4 + 2 by omega] at z2
        rw [show o1 + (i * 4 + 3) = o1 + i * 4 + 3 by omega] at z3
        clear hc
        have hm := hl.out.mem falls[i] (List.getElem_mem hj1)
        generalize falls[i] = x at z0 z1 z2 z3 hm
        obtain ⟨sa, sc, sure, ra, rc, rest, ka, kc, keep, fuse⟩ := x
        obtain ⟨m1, m2, m3, m4, m5, m6, m7, m8, m9, m10⟩ := hm
        simp only at z0 z1 z2 z3 m1 m2 m3 m4 m5 m6 m7 m8 m9 m10
        have hsl1 : sure.length ≤ maxLen := Nat.le_trans m2.1 m2.2
        have hsl2 : rest.length ≤ maxLen := Nat.le_trans m5.1 m5.2
        have hsl3 : keep.length ≤ maxLen := Nat.le_trans m8.1 m8.2
        have y0 := hS.old z0 (by simp)
        have y1 := hS.old z1 (by simp)
        have y2 := hS.old z2 (by simp)
        have y3 := hS.old z3 (by simp)
        have cW1 := fun W (hb : Below w.heap.size w W) => wide37_any sa sure sure.length sc W (m1.below hb) rfl hsl1 m3
        have cW2 := fun W (hb : Below w.heap.size w W) => wide37_any ra rest rest.length rc W (m4.below hb) rfl hsl2 m6
        unfold maxLen at hsl1 hsl2 hsl3
        by_cases hQ : keep.length ≤ 60 ∧ WideQ sure.length sure ∧ WideQ rest.length rest
        · obtain ⟨hk60, hq1, hq2⟩ := hQ
          have c1 : ∀ W, Below w.heap.size w W → Calls Try.prog 43 #[.slice sa sure.length sc] W fun e w' => e = .returned (.bool false) ∧ W = w' := fun W hb => (cW1 W hb).mono fun e w' hk => ⟨hk.1.yes hq1, hk.2⟩
          have c2 : ∀ W, Below w.heap.size w W → Calls Try.prog 43 #[.slice ra rest.length rc] W fun e w' => e = .returned (.bool false) ∧ W = w' := fun W hb => (cW2 W hb).mono fun e w' hk => ⟨hk.1.yes hq2, hk.2⟩
          replace c1 := Lib.hid c1
          replace c2 := Lib.hid c2
          clear cW1 cW2
          go_wp2_with (first
            | (go_at_call 43; (first | (with_reducible refine (c1.out _ hS.below).mono ?_) | (with_reducible refine (c2.out _ hS.below).mono ?_)); rintro _ _ ⟨rfl, rfl⟩))
          clear c1 c2 y0 y1 y2 y3
          have hn30 := hq1.1
          have hn30' := hq2.1
          have hq1b := Lib.hid hq1.2
          have hq2b := Lib.hid hq2.2
          clear hq1 hq2
          have hk60' := hk60
          go_loopg [7, 9] sure.length (fun gk vr vj wr => ∃ (j : Nat) (wv rv : Value) (d : Dk) (r : Rg) (l : List ByteArray), j + gk = sure.length ∧ vj = .int .i64 (j : Nat) ∧ rv = vr ∧ Hid (Stands d r 42 l) ∧ Hid (d.Fit 42 (10 * j)) ∧ (r.src = 2 ∧ r.n = 40 ∧ r.head = hd ∧ r.life = i + 1) ∧ St w [] (Ch.row 9 1 rv l.length (l.map vs) :: rng g bd r :: (dks bd sv wv d ++ [])) wr)
          case atStart => exact ⟨0, wv, rv, d, r, l, by omega, rfl, rfl, hst, hwt, hrf, hS⟩
          case round =>
            clear hS hst hwt hrf
            obtain ⟨j, wv, rv, d, r, l, hj, rfl, rfl, hst, hfit, hrf, hS⟩ := hrel
            have hlr : l.length ≤ 40 := by have := hst.out.len; rw [hrf.2.1] at this; exact this
            have y0 := hS.old z0 (by simp)
            by_cases hjs : j < sure.length
            · have hjI : (j : Int) < sure.length := by omega
              obtain ⟨b2, o2, rfl, t1⟩ := sl_text m1 j hjs
              have t0 := hS.old t1 (by simp)
              have hs5 := hq1b.out sure[j] (List.getElem_mem hjs)
              generalize sure[j] = s at t0 t1 hs5
              have hmb := many_500f hs5
              have cD := fun W hh => rgadd_any g bd sv wv d r 42 (10 * j) s W hh hst.out.ring hfit.out (by omega) (by omega) (by omega)
              have hF := (hfit.out.add r s).mono (k' := 10 * (j + 1)) (by omega)
              have hms : (l.map vs) ++ [Value.string s] = (l ++ [s]).map vs := by simp [vs]
              rcases hst.out.add s with ⟨h1, h2, h3, h4, h5, h6⟩ | ⟨h1, h2, h3⟩
              · obtain ⟨⟨r2, d2, e2⟩, hres⟩ : ∃ z, r.add d s = z := ⟨_, rfl⟩
                rw [hres] at cD hF h1 h2 h3 h4 h5 h6
                simp only at cD hF h1 h2 h3 h4 h5 h6
                subst h1
                have hrf2 : r2.src = 2 ∧ r2.n = 40 ∧ r2.head = hd ∧ r2.life = i + 1 := ⟨h4.trans hrf.1, h5.trans hrf.2.1, h3.trans hrf.2.2.1, h6.trans hrf.2.2.2⟩
                clear hst hfit hres h3 h4 h5 h6 hs5 hmb hrf
                replace cD := Lib.hid cD
                replace h2 := Lib.hid h2
                replace hF := Lib.hid hF
                replace hms := Lib.hid hms
                have hlI2 : l.length ≤ 40 := hlr
                go_wp2_with (first
                  | (go_at_call 44; (with_reducible refine (cD.out _ (hS.preM (A := [_]) (B := rng g bd r :: dks bd sv wv d) (R := []))).mono ?_); rintro _ w8 ⟨rfl, wv8, hk8⟩; have hS1 := hS.callM (A := [_]) (B := rng g bd r :: dks bd sv wv d) (R := []) hk8; clear hS hk8 y0 t0; have hS := hS1; clear hS1; simp only [List.cons_append, List.nil_append] at hS; have y0 := hS.old z0 (by simp); have t0 := hS.old t1 (by simp))
                  | ((with_reducible refine wpList_build1c_st hS rfl rfl Try.underlying26 ex rfl ?_); intro g21 w21 hS1; clear hS y0 t0; have hS := hS1; clear hS1)
                  | (at_builtin; ((with_reducible refine wpList_app_st 1 hS rfl rfl rfl Try.underlying26 ex rfl (Src.slice Try.underlying26 (hS.blksl2 0 rfl) rfl) rfl (by simp [Value.oneCell']) (by omega) (by unfold maxLen; omega) ?_); intro v22 w22 hS1; clear hS; have hS := hS1.drop; clear hS1; simp only [List.set_cons_zero, List.set_cons_succ, hms.out] at hS))
                )
                go_roundg (sure.length - (j + 1))
                case measure => omega
                case rel => exact ⟨j + 1, wv8, _, d2, r2, l ++ [s], by omega, by go_num, rfl, h2, hF, hrf2, by simpa using hS⟩
              · rw [h1, h2, h3] at cD
                rw [h3] at hF
                clear hfit h1 h2 h3 hs5 hmb hms
                replace cD := Lib.hid cD
                replace hF := Lib.hid hF
                go_wp2_with (first
                  | (go_at_call 44; (with_reducible refine (cD.out _ (hS.preM (A := [_]) (B := rng g bd r :: dks bd sv wv d) (R := []))).mono ?_); rintro _ w8 ⟨rfl, wv8, hk8⟩; have hS1 := hS.callM (A := [_]) (B := rng g bd r :: dks bd sv wv d) (R := []) hk8; clear hS hk8 y0 t0; have hS := hS1; clear hS1; simp only [List.cons_append, List.nil_append] at hS; have y0 := hS.old z0 (by simp); have t0 := hS.old t1 (by simp))
                )
                go_roundg (sure.length - (j + 1))
                case measure => omega
                case rel => exact ⟨j + 1, wv8, rv, d, r, l, by omega, by go_num, rfl, hst, hF, hrf, hS⟩
            · have hjeq : ¬ j < sure.length := hjs
              have hfit1k := hfit.out.mono (k' := 300) (by omega)
              obtain ⟨hsy1, hsy2, hsy3⟩ := hst.out.sync
              have cY := fun W hh => sync_any bd sv wv d W hh hfit.out.ok (by have := hfit.out.wait; omega) hfit.out.fuse
              rw [hsy1] at cY
              have hfit1 : d.sync.1.Fit 42 0 := ⟨hsy2.ok, hsy2.live.sec, by rw [hsy3]; simp, (hfit.out.sync).fuse⟩
              generalize d.sync.1 = d1 at *
              obtain ⟨F0, hF0⟩ : ∃ F0 : Int, (if fuse < 0 then (0 : Int) else fuse) = F0 := ⟨_, rfl⟩
              have hF0' : (if 0 < fuse then fuse else (0 : Int)) = F0 := by rw [← hF0]; split <;> split <;> omega
              have hF00 : 0 ≤ F0 := by rw [← hF0]; split <;> omega
              obtain ⟨F, hFe⟩ : ∃ F : Int, F0 % 40 = F := ⟨_, rfl⟩
              have hFt : F0.tmod 40 = F := by rw [Int.tmod_eq_emod_of_nonneg hF00]; exact hFe
              have hFn : 0 ≤ F ∧ F < 40 := by omega
              have cFu := fun wv2 W hh => fuse_any bd sv wv2 d1 F W hh
              have hwait0 := Waits.start hsy2 hsy3 hFn.1
              have hfitw := hfit1.fused F (by omega)
              generalize hd2 : ({ d1 with fuse := F } : Dk) = d2 at *
              have y3 := hS.old z3 (by simp)
              replace cY := Lib.hid cY
              replace cFu := Lib.hid cFu
              replace hwait0 := Lib.hid hwait0
              replace hfitw := Lib.hid hfitw
              replace hst1 := Lib.hid hsy2
              replace hfit1 := Lib.hid hfit1
              replace hFe := Lib.hid hFe
              replace hd2 := Lib.hid hd2
              clear hst hfit hfit1k hsy1 hsy2 hsy3 hF00 hFn
              go_wp2_with (first
                | (go_at_call 19; (with_reducible refine (cY.out _ (hS.preM (A := [_, _]) (B := dks bd sv wv d) (R := []))).mono ?_); rintro _ w8 ⟨rfl, wv8, hk8⟩; have hS1 := hS.callM (A := [_, _]) (B := dks bd sv wv d) (R := []) hk8; clear hS hk8 y0 y3; have hS := hS1; clear hS1; simp only [List.cons_append, List.nil_append] at hS; have y3 := hS.old z3 (by simp))
                | ((with_reducible refine wpList_build0_st hS rfl rfl Try.underlying26 ex ?_); intro gr w3 hS1; clear hS y3; have hS := hS1; clear hS1; have y3 := hS.old z3 (by simp))
                | (go_at_call 20; (with_reducible refine (cFu.out _ _ (hS.preM (A := [_, _, _]) (B := dks bd sv _ d1) (R := []))).mono ?_); rintro _ w9 ⟨rfl, hk9⟩; have hS1 := hS.callM (A := [_, _, _]) (B := dks bd sv _ d1) (R := []) hk9; clear hS hk9 y3; have hS := hS1; clear hS1; simp only [List.cons_append, List.nil_append] at hS))
              clear cY cFu
              go_loopg [10, 11] rest.length (fun gk vr vj wr => ∃ (j gr cr : Nat) (wv : Value) (d : Dk) (r' : Rg) (rest' : List ByteArray), j + gk = rest.length ∧ vj = .int .i64 (j : Nat) ∧ vr = .slice (some ⟨gr, 0, none⟩) rest'.length cr ∧ (rest'.length ≤ j ∧ rest'.length ≤ cr ∧ cr ≤ 9223372036854775807) ∧ Hid (Waits d1 r 42 d r' rest') ∧ Hid (d.Fit 42 (10 * j)) ∧ St w [] (Ch.row 9 1 (.slice (some ⟨gr, 0, none⟩) rest'.length cr) rest'.length (rest'.map vs) :: Ch.row 9 1 rv l.length (l.map vs) :: rng g bd r' :: (dks bd sv wv d ++ [])) wr)
              case atStart => exact ⟨0, gr, 0, _, d2, r, [], by omega, rfl, rfl, by simp, hwait0, hfitw, hS⟩
              case round =>
                clear hS hwait0 hfitw
                obtain ⟨j, gr, cr, wv, d, r', rest', hj, rfl, rfl, hrr, hwa, hfit, hS⟩ := hrel
                by_cases hjs : j < rest.length
                · have hjI : (j : Int) < rest.length := by omega
                  obtain ⟨b3, o3, rfl, t1⟩ := sl_text m4 j hjs
                  have t0 := hS.old t1 (by simp)
                  have y1 := hS.old z1 (by simp)
                  have hs5 := hq2b.out rest[j] (List.getElem_mem hjs)
                  generalize rest[j] = s at t0 t1 hs5
                  have hmb := many_500f hs5
                  have cD := fun W hh => rgadd_any g bd sv wv d r' 42 (10 * j) s W hh hwa.out.ring hfit.out (by omega) (by omega) (by omega)
                  have hF := (hfit.out.add r' s).mono (k' := 10 * (j + 1)) (by omega)
                  have hms : (rest'.map vs) ++ [Value.string s] = (rest' ++ [s]).map vs := by simp [vs]
                  have hrr1 : rest'.length ≤ j := hrr.1
                  have hrrs : (rest' ++ [s]).length = rest'.length + 1 := by simp
                  rcases hwa.out.add hst1.out.live.sec s with ⟨h1, h2⟩ | ⟨h1, h2, h3⟩ | ⟨h1, h2⟩
                  · obtain ⟨⟨r3, d3, e3⟩, hres⟩ : ∃ z, r'.add d s = z := ⟨_, rfl⟩
                    rw [hres] at cD hF h1 h2
                    simp only at cD hF h1 h2
                    subst h1
                    clear hwa hfit hres hs5 hmb
                    replace cD := Lib.hid cD
                    replace h2 := Lib.hid h2
                    replace hF := Lib.hid hF
                    replace hms := Lib.hid hms
                    go_wp2_with (first
                      | (go_at_call 44; (with_reducible refine (cD.out _ (hS.preM (A := [_, _]) (B := rng g bd r' :: dks bd sv wv d) (R := []))).mono ?_); rintro _ w8 ⟨rfl, wv8, hk8⟩; have hS1 := hS.callM (A := [_, _]) (B := rng g bd r' :: dks bd sv wv d) (R := []) hk8; clear hS hk8 y1 t0; have hS := hS1; clear hS1; simp only [List.cons_append, List.nil_append] at hS; have y1 := hS.old z1 (by simp); have t0 := hS.old t1 (by simp))
                      | ((with_reducible refine wpList_build1c_st hS rfl rfl Try.underlying26 ex rfl ?_); intro g21 w21 hS1; clear hS y1 t0; have hS := hS1; clear hS1)
                      | (at_builtin; ((with_reducible refine wpList_app_st 1 hS rfl rfl rfl Try.underlying26 ex rfl (Src.slice Try.underlying26 (hS.blksl2 0 rfl) rfl) rfl (by simp [Value.oneCell']) (by omega) (by unfold maxLen; omega) ?_); intro v22 w22 hS1; clear hS; have hS := hS1.drop; clear hS1; simp only [List.set_cons_zero, List.set_cons_succ, hms.out] at hS; obtain ⟨gr2, cr2, rfl, hcr1, hcr2⟩ := hS.rowat 0 rfl (by omega)))
                    )
                    go_roundg (rest.length - (j + 1))
                    case measure => omega
                    case rel => exact ⟨j + 1, gr2, cr2, wv8, d3, r3, rest' ++ [s], by omega, by go_num, by rw [hrrs], ⟨by omega, by omega, by unfold maxLen at hcr2; omega⟩, h2, hF, by rw [hrrs]; exact hS⟩
                  · rw [h1, h2, h3] at cD
                    rw [h3] at hF
                    clear hfit h1 h2 h3 hs5 hmb hms
                    replace cD := Lib.hid cD
                    replace hF := Lib.hid hF
                    go_wp2_with (first
                      | (go_at_call 44; (with_reducible refine (cD.out _ (hS.preM (A := [_, _]) (B := rng g bd r' :: dks bd sv wv d) (R := []))).mono ?_); rintro _ w8 ⟨rfl, wv8, hk8⟩; have hS1 := hS.callM (A := [_, _]) (B := rng g bd r' :: dks bd sv wv d) (R := []) hk8; clear hS hk8 y1 t0; have hS := hS1; clear hS1; simp only [List.cons_append, List.nil_append] at hS; have y1 := hS.old z1 (by simp); have t0 := hS.old t1 (by simp))
                    )
                    go_roundg (rest.length - (j + 1))
                    case measure => omega
                    case rel => exact ⟨j + 1, gr, cr, wv8, d, r', rest', by omega, by go_num, rfl, ⟨by omega, hrr.2⟩, hwa, hF, hS⟩
                  · obtain ⟨⟨r3, d3, e3⟩, hres⟩ : ∃ z, r'.add d s = z := ⟨_, rfl⟩
                    rw [hres] at cD hF h1 h2
                    simp only at cD hF h1 h2
                    subst h1
                    have hj30 : rest'.length + 1 ≤ 30 := by omega
                    have hF3 := hF.mono (k' := 310) (by omega)
                    clear hwa hfit hres hs5 hmb hF
                    replace cD := Lib.hid cD
                    replace h2 := Lib.hid h2
                    replace hF3 := Lib.hid hF3
                    replace hms := Lib.hid hms
                    have hG : Hid (Gone d1 r d3 (rest' ++ [s])) := h2
                    clear h2
                    obtain ⟨RR, hRR⟩ : ∃ RR, rest' ++ [s] = RR := ⟨_, rfl⟩
                    rw [hRR] at hG hms hrrs
                    clear hRR
                    obtain ⟨k, t, hkr, hruns, hst2, hwt2⟩ := hG.out.crash hst1.out (by have := hfit1.out.wait; exact List.eq_nil_of_length_eq_zero (by omega)) hF3.out.ok keep (by rw [hrf.2.2.2]; omega)
                    have hfit2 : (d3.crash keep).Fit 42 0 := ⟨hst2.ok, hst2.live.sec, by rw [hwt2]; simp, by simp [Dk.crash]⟩
                    have hdd : (d3.crash keep).dead = false := hst2.live.dead
                    have cC : ∀ (wvx : Value) (A1 A2 A3 : Ch) W, St w [] (A1 :: A2 :: A3 :: (dks bd sv wvx d3 ++ [])) W → _ := fun wvx A1 A2 A3 W hh => crash_any bd sv wvx d3 ka keep keep.length kc W (hh.preM (A := [_, _, _]) (B := dks bd sv wvx d3) (R := [])) hF3.out.ok (by have := hF3.out.wait; omega) (m7.old hh (by simp)) (fun z hz => (m9 z hz).2) rfl (by unfold maxLen; omega) (fun h0 b o e => by
                      obtain ⟨b', o', e', hc'⟩ := m7 0 (by simpa using h0)
                      rw [e] at e'
                      cases e'
                      have := hh.oldoff (World.block_lt_of_cell? w _ hc')
                      have := (feet_off (A := [_, _, _]) (B := dks bd sv wvx d3 ++ []) this).2
                      exact (feet_off this).1)
                    simp only [hrf.1, hrf.2.1, hrf.2.2.1, hrf.2.2.2] at hruns hst2
                    generalize d3.crash keep = d9 at *
                    have hro : ringOk 42 2 40 hd ((i + 2 : Nat) : Int) = true := by rw [ringOk_iff]; omega
                    have e2 : ((i + 2 : Nat) : Int) = (i : Int) + 2 := by omega
                    have cO : ∀ (wvx : Value) W, St W (feet (dks bd sv wvx d9)) (dks bd sv wvx d9) W → Calls Try.prog 45 #[.pointer (some ⟨bd, 0, none⟩), .int .i64 2, .int .i64 40, .int .i64 hd, .int .i64 ((i : Int) + 2)] W fun e w' => ∃ g v t recs, e = .returned (.tuple #[.pointer (some ⟨g, 0, none⟩), v, .int .i64 0]) ∧ d9.Runs ⟨2, 40, hd, hd, i + 2⟩ 1 hd recs t ∧ St W (feet (dks bd sv wvx d9)) (Ch.row 9 1 v recs.length (recs.map vs) :: rng g bd ⟨2, 40, hd, t, i + 2⟩ :: dks bd sv wvx d9) w' := fun wvx W hh => by
                      have := rgopen_any bd sv wvx d9 2 40 hd (i + 2) 42 0 W hh hfit2 (by omega) (by omega) hro hdd
                      rw [e2] at this
                      exact this
                    have hlr : l.length ≤ 40 := by have := hst1.out.len; rw [hrf.2.1] at this; exact this
                    have hTk : (RR.take k).length = k := by rw [List.length_take]; omega
                    have hsl2x : ∀ (W : World) (a : Option Addr), Sl W a (RR.map vs) → Sl W a ((RR.take k).map vs) := fun W a h => by rw [List.map_take]; exact Sl_take h
                    replace hsl2x := Lib.hid hsl2x
                    obtain ⟨G, hGe⟩ : ∃ G, l ++ RR.take k = G := ⟨_, rfl⟩
                    have hgl : G.length = l.length + k := by rw [← hGe, List.length_append, hTk]
                    rw [hGe] at hruns hst2
                    have hGm : (l.map vs) ++ ((RR.take k).map vs) = G.map vs := by rw [← hGe, List.map_append]
                    have wi2 : IntKind.i64.wrap ((i : Int) + 2) = (i : Int) + 2 := IntWalk.i64_in _ (by omega)
                    have q1 : ¬ (G.length < l.length) := by omega
                    have q1d : decide (G.length < l.length) = false := decide_eq_false q1
                    have q1I : ¬ ((G.length : Int) < l.length) := by omega
                    have q2 : IntKind.i64.wrap ((l.length : Int) + ((rest'.length + 1) : Nat)) = ((l.length + (rest'.length + 1) : Nat) : Int) := by rw [IntWalk.i64_in _ (by omega)]; omega
                    have q3 : ¬ (l.length + (rest'.length + 1) < G.length) := by omega
                    have q3d : decide (l.length + (rest'.length + 1) < G.length) = false := decide_eq_false q3
                    have q3I : ¬ (((l.length + (rest'.length + 1) : Nat) : Int) < G.length) := by omega
                    have q4 : IntKind.i64.wrap ((G.length : Int) - l.length) = (k : Nat) := by rw [IntWalk.i64_in _ (by omega)]; omega
                    have cX : ∀ (a1 : Option Addr) (c1 : Nat) (a2 : Option Addr) (c2 : Nat) W, Sl W a1 (G.map vs) → Sl W a2 (G.map vs) → Calls Try.prog 46 #[.slice a1 G.length c1, .slice a2 (l.length + k : Nat) c2] W fun e w' => e = .returned (.bool true) ∧ Below W.heap.size W w' := fun a1 c1 a2 c2 W k1 k2 => by
                      have := texts_any a1 a2 G G G.length (l.length + k) c1 c2 W k1 k2 rfl hgl (by omega) (by omega)
                      simpa using this
                    replace cX := Lib.hid cX
                    have q9 : (l.length : Int) ≤ G.length := by omega
                    have q9N : l.length ≤ G.length := by omega
                    replace hgl := Lib.hid hgl
                    replace hTk := Lib.hid hTk
                    obtain ⟨asu, csu, hrv, -⟩ := hS.row 1 rfl
                    subst hrv
                    replace cC := Lib.hid cC
                    replace cO := Lib.hid cO
                    replace hruns := Lib.hid hruns
                    replace hst2 := Lib.hid hst2
                    replace hfit2 := Lib.hid hfit2
                    replace hGm := Lib.hid hGm
                    clear hGe hG hwt2 hdd hro e2
                    go_wp2_with (first
                      | (go_at_call 44; (with_reducible refine (cD.out _ (hS.preM (A := [_, _]) (B := rng g bd r' :: dks bd sv wv d) (R := []))).mono ?_); rintro _ w8 ⟨rfl, wv8, hk8⟩; have hS1 := hS.callM (A := [_, _]) (B := rng g bd r' :: dks bd sv wv d) (R := []) hk8; clear hS hk8 y1 t0; have hS := hS1; clear hS1; simp only [List.cons_append, List.nil_append] at hS; have y1 := hS.old z1 (by simp); have t0 := hS.old t1 (by simp))
                      | ((with_reducible refine wpList_build1c_st hS rfl rfl Try.underlying26 ex rfl ?_); intro g21 w21 hS1; clear hS y1 t0; have hS := hS1; clear hS1)
                      | (at_builtin; ((with_reducible refine wpList_app_st 1 hS rfl rfl rfl Try.underlying26 ex rfl (Src.slice Try.underlying26 (hS.blksl2 0 rfl) rfl) rfl (by simp [Value.oneCell']) (by omega) (by unfold maxLen; omega) ?_); intro v22 w22 hS1; clear hS; have hS := hS1.drop; clear hS1; simp only [List.set_cons_zero, List.set_cons_succ, hms.out] at hS; obtain ⟨gr2, cr2, rfl, hcr1, hcr2⟩ := hS.rowat 0 rfl (by omega); have y2 := hS.old z2 (by simp)))
                      | (go_at_call 21; (with_reducible refine (cC.out _ _ _ _ _ hS).mono ?_); rintro _ w18 ⟨rfl, wv9, hk18⟩; have hS1 := hS.callM (A := [_, _, _]) (B := dks bd sv _ _) (R := []) hk18; clear hS hk18 y2; have hS := hS1; clear hS1; simp only [List.cons_append, List.nil_append] at hS)
                      | (go_at_call 45; (with_reducible refine (cO.out _ _ (hS.preM (A := [_, _, _]) (B := dks bd sv _ d9) (R := []))).mono ?_); rintro _ w19 ⟨g2, v2, t2, recs, rfl, hr9, hk9⟩; obtain ⟨rfl, rfl⟩ := hruns.out.det hr9; have hS1 := hS.callM (A := [_, _, _]) (B := dks bd sv _ d9) (R := []) hk9; clear hS hk9 hr9; have hS := hS1; clear hS1; simp only [List.cons_append, List.nil_append] at hS; obtain ⟨ag, cg, rfl, -⟩ := hS.row 3 rfl)
                    )
                    have qk : k ≤ cr2 := by omega
                    have qkI : (k : Int) ≤ cr2 := by omega
                    refine mixs_beginE (by kernel_rfl) hS ?_
                    clear hS
                    intro w6 hS hC
                    refine mixs_take 0 (v := ?_) rfl (by kernel_rfl) (fun _ _ _ h => h) (by kernel_rfl) (by assumption) (fun s => ?hy) ?_; case hy => (go_simp <;> with_reducible rfl)
                    try simp only [List.getElem_toArray, List.getElem_cons_succ, List.getElem_cons_zero, Act.put, List.setIfInBounds_toArray, List.set_cons_zero, List.set_cons_succ]
                    refine mixs_take 2 (v := ?_) rfl (by kernel_rfl) (fun _ _ _ h => h) (by kernel_rfl) (by assumption) (fun s => ?hy) ?_; case hy => (go_simp <;> with_reducible rfl)
                    try simp only [List.getElem_toArray, List.getElem_cons_succ, List.getElem_cons_zero, Act.put, List.setIfInBounds_toArray, List.set_cons_zero, List.set_cons_succ]
                    refine mixs_take 4 (v := ?_) rfl (by kernel_rfl) (fun _ _ _ h => h) (by kernel_rfl) (by assumption) (fun s => ?hy) ?_; case hy => (go_simp <;> with_reducible rfl)
                    try simp only [List.getElem_toArray, List.getElem_cons_succ, List.getElem_cons_zero, Act.put, List.setIfInBounds_toArray, List.set_cons_zero, List.set_cons_succ]
                    refine mixs_take 5 (v := ?_) rfl (by kernel_rfl) (fun _ _ _ h => h) (by kernel_rfl) (by assumption) (fun s => ?hy) ?_; case hy => (go_simp <;> with_reducible rfl)
                    try simp only [List.getElem_toArray, List.getElem_cons_succ, List.getElem_cons_zero, Act.put, List.setIfInBounds_toArray, List.set_cons_zero, List.set_cons_succ]
                    refine mixs_take 6 (v := ?_) rfl (by kernel_rfl) (fun _ _ _ h => h) (by kernel_rfl) (by assumption) (fun s => ?hy) ?_; case hy => (go_simp <;> with_reducible rfl)
                    try simp only [List.getElem_toArray, List.getElem_cons_succ, List.getElem_cons_zero, Act.put, List.setIfInBounds_toArray, List.set_cons_zero, List.set_cons_succ]
                    refine mixs_take 7 (v := ?_) rfl (by kernel_rfl) (fun _ _ _ h => h) (by kernel_rfl) (by assumption) (fun s => ?hy) ?_; case hy => (go_simp <;> with_reducible rfl)
                    try simp only [List.getElem_toArray, List.getElem_cons_succ, List.getElem_cons_zero, Act.put, List.setIfInBounds_toArray, List.set_cons_zero, List.set_cons_succ]
                    refine mixs_take 8 (v := ?_) rfl (by kernel_rfl) (fun _ _ _ h => h) (by kernel_rfl) (by assumption) (fun s => ?hy) ?_; case hy => (go_simp <;> with_reducible rfl)
                    try simp only [List.getElem_toArray, List.getElem_cons_succ, List.getElem_cons_zero, Act.put, List.setIfInBounds_toArray, List.set_cons_zero, List.set_cons_succ]
                    refine mixs_take 9 (v := ?_) rfl (by kernel_rfl) (fun _ _ _ h => h) (by kernel_rfl) (by assumption) (fun s => ?hy) ?_; case hy => (go_simp <;> with_reducible rfl)
                    try simp only [List.getElem_toArray, List.getElem_cons_succ, List.getElem_cons_zero, Act.put, List.setIfInBounds_toArray, List.set_cons_zero, List.set_cons_succ]
                    refine mixs_take 10 (v := ?_) rfl (by kernel_rfl) (fun _ _ _ h => h) (by kernel_rfl) (by assumption) (fun s => ?hy) ?_; case hy => (go_simp <;> with_reducible rfl)
                    try simp only [List.getElem_toArray, List.getElem_cons_succ, List.getElem_cons_zero, Act.put, List.setIfInBounds_toArray, List.set_cons_zero, List.set_cons_succ]
                    refine mixs_one 1 (by kernel_rfl) rfl (fun K hK => ?_)
                    ( (first | (refine op_build0s_st (by kernel_rfl) hS rfl Try.underlying26 ex ?_; intro g30 w30 hS1; clear hS; have hS := hS1; clear hS1) | (refine op_app_st (by kernel_rfl) 0 hS rfl rfl Try.underlying26 ex rfl (Src.slice Try.underlying26 (hS.rowsl 2 rfl) (by simp)) rfl (texts_one l) (by omega) (by unfold maxLen; omega) ?_; intro v31 w31 hS1; clear hS; have hS := hS1; clear hS1; simp only [List.set_cons_zero, Nat.zero_add, List.nil_append] at hS) | (refine op_app_st (by kernel_rfl) 0 hS rfl rfl Try.underlying26 ex rfl (Src.slice Try.underlying26 (hsl2x.out _ _ (hS.rowsl 1 rfl)) (by rw [List.length_map, hTk.out, Nat.mul_one])) rfl (texts_one _) (by omega) (by unfold maxLen; omega) ?_; intro v32 w32 hS1; clear hS; have hS := hS1; clear hS1; simp only [List.set_cons_zero, hGm.out] at hS; obtain ⟨a32, c32, rfl, -⟩ := hS.row 0 rfl) | (go_at_call 46; (with_reducible refine (cX.out _ _ _ _ _ (hS.rowsl 4 rfl) (hS.rowsl 0 rfl)).mono ?_); rintro _ w33 ⟨rfl, hb33⟩; have hS1 := hS.keepB hb33; clear hb33 hS; have hS := hS1; clear hS1)) )
                    try clear hC
                    refine hK.out _ _ _ (fun _ h => h) (by first | exact hS | exact hS.drop | exact hS.drop.drop | exact hS.drop.drop.drop | exact hS.drop.drop.drop.drop | exact hS.empty | exact hS.one 0 rfl | exact hS.one 1 rfl | exact hS.one 2 rfl | exact hS.one 3 rfl | exact hS.one 4 rfl | exact hS.one 5 rfl | exact hS.one 6 rfl | exact hS.one 7 rfl | exact hS.one 8 rfl | exact hS.one 9 rfl | exact hS.one 10 rfl | exact hS.one 11 rfl) (fun hC => ?_)
                    clear hK K
                    try simp only [List.getElem_toArray, List.getElem_cons_succ, List.getElem_cons_zero, Act.put, List.setIfInBounds_toArray, List.set_cons_zero, List.set_cons_succ]
                    refine mixs_one 3 (by kernel_rfl) rfl (fun K hK => ?_)
                    ( (first | (refine op_build0s_st (by kernel_rfl) hS rfl Try.underlying26 ex ?_; intro g30 w30 hS1; clear hS; have hS := hS1; clear hS1) | (refine op_app_st (by kernel_rfl) 0 hS rfl rfl Try.underlying26 ex rfl (Src.slice Try.underlying26 (hS.rowsl 2 rfl) (by simp)) rfl (texts_one l) (by omega) (by unfold maxLen; omega) ?_; intro v31 w31 hS1; clear hS; have hS := hS1; clear hS1; simp only [List.set_cons_zero, Nat.zero_add, List.nil_append] at hS) | (refine op_app_st (by kernel_rfl) 0 hS rfl rfl Try.underlying26 ex rfl (Src.slice Try.underlying26 (hsl2x.out _ _ (hS.rowsl 1 rfl)) (by rw [List.length_map, hTk.out, Nat.mul_one])) rfl (texts_one _) (by omega) (by unfold maxLen; omega) ?_; intro v32 w32 hS1; clear hS; have hS := hS1; clear hS1; simp only [List.set_cons_zero, hGm.out] at hS; obtain ⟨a32, c32, rfl, -⟩ := hS.row 0 rfl) | (go_at_call 46; (with_reducible refine (cX.out _ _ _ _ _ (hS.rowsl 4 rfl) (hS.rowsl 0 rfl)).mono ?_); rintro _ w33 ⟨rfl, hb33⟩; have hS1 := hS.keepB hb33; clear hb33 hS; have hS := hS1; clear hS1)) )
                    try clear hC
                    refine hK.out _ _ _ (fun _ h => h) (by first | exact hS | exact hS.drop | exact hS.drop.drop | exact hS.drop.drop.drop | exact hS.drop.drop.drop.drop | exact hS.empty | exact hS.one 0 rfl | exact hS.one 1 rfl | exact hS.one 2 rfl | exact hS.one 3 rfl | exact hS.one 4 rfl | exact hS.one 5 rfl | exact hS.one 6 rfl | exact hS.one 7 rfl | exact hS.one 8 rfl | exact hS.one 9 rfl | exact hS.one 10 rfl | exact hS.one 11 rfl) (fun hC => ?_)
                    clear hK K
                    try simp only [List.getElem_toArray, List.getElem_cons_succ, List.getElem_cons_zero, Act.put, List.setIfInBounds_toArray, List.set_cons_zero, List.set_cons_succ]
                    refine mixs_one 11 (by kernel_rfl) rfl (fun K hK => ?_)
                    ( (first | (refine op_build0s_st (by kernel_rfl) hS rfl Try.underlying26 ex ?_; intro g30 w30 hS1; clear hS; have hS := hS1; clear hS1) | (refine op_app_st (by kernel_rfl) 0 hS rfl rfl Try.underlying26 ex rfl (Src.slice Try.underlying26 (hS.rowsl 2 rfl) (by simp)) rfl (texts_one l) (by omega) (by unfold maxLen; omega) ?_; intro v31 w31 hS1; clear hS; have hS := hS1; clear hS1; simp only [List.set_cons_zero, Nat.zero_add, List.nil_append] at hS) | (refine op_app_st (by kernel_rfl) 0 hS rfl rfl Try.underlying26 ex rfl (Src.slice Try.underlying26 (hsl2x.out _ _ (hS.rowsl 1 rfl)) (by rw [List.length_map, hTk.out, Nat.mul_one])) rfl (texts_one _) (by omega) (by unfold maxLen; omega) ?_; intro v32 w32 hS1; clear hS; have hS := hS1; clear hS1; simp only [List.set_cons_zero, hGm.out] at hS; obtain ⟨a32, c32, rfl, -⟩ := hS.row 0 rfl) | (go_at_call 46; (with_reducible refine (cX.out _ _ _ _ _ (hS.rowsl 4 rfl) (hS.rowsl 0 rfl)).mono ?_); rintro _ w33 ⟨rfl, hb33⟩; have hS1 := hS.keepB hb33; clear hb33 hS; have hS := hS1; clear hS1)) )
                    try clear hC
                    refine hK.out _ _ _ (fun _ h => h) (by first | exact hS | exact hS.drop | exact hS.drop.drop | exact hS.drop.drop.drop | exact hS.drop.drop.drop.drop | exact hS.empty | exact hS.one 0 rfl | exact hS.one 1 rfl | exact hS.one 2 rfl | exact hS.one 3 rfl | exact hS.one 4 rfl | exact hS.one 5 rfl | exact hS.one 6 rfl | exact hS.one 7 rfl | exact hS.one 8 rfl | exact hS.one 9 rfl | exact hS.one 10 rfl | exact hS.one 11 rfl) (fun hC => ?_)
                    clear hK K
                    try simp only [List.getElem_toArray, List.getElem_cons_succ, List.getElem_cons_zero, Act.put, List.setIfInBounds_toArray, List.set_cons_zero, List.set_cons_succ]
                    refine mixs_one 12 (by kernel_rfl) rfl (fun K hK => ?_)
                    go_simp
                    ( (first | (refine op_build0s_st (by kernel_rfl) hS rfl Try.underlying26 ex ?_; intro g30 w30 hS1; clear hS; have hS := hS1; clear hS1) | (refine op_app_st (by kernel_rfl) 0 hS rfl rfl Try.underlying26 ex rfl (Src.slice Try.underlying26 (hS.rowsl 2 rfl) (by simp)) rfl (texts_one l) (by omega) (by unfold maxLen; omega) ?_; intro v31 w31 hS1; clear hS; have hS := hS1; clear hS1; simp only [List.set_cons_zero, Nat.zero_add, List.nil_append] at hS) | (refine op_app_st (by kernel_rfl) 0 hS rfl rfl Try.underlying26 ex rfl (Src.slice Try.underlying26 (hsl2x.out _ _ (hS.rowsl 1 rfl)) (by rw [List.length_map, hTk.out, Nat.mul_one])) rfl (texts_one _) (by omega) (by unfold maxLen; omega) ?_; intro v32 w32 hS1; clear hS; have hS := hS1; clear hS1; simp only [List.set_cons_zero, hGm.out] at hS; obtain ⟨a32, c32, rfl, -⟩ := hS.row 0 rfl) | (go_at_call 46; (with_reducible refine (cX.out _ _ _ _ _ (hS.rowsl 4 rfl) (hS.rowsl 0 rfl)).mono ?_); rintro _ w33 ⟨rfl, hb33⟩; have hS1 := hS.keepB hb33; clear hb33 hS; have hS := hS1; clear hS1)) )
                    try clear hC
                    refine hK.out _ _ _ (fun _ h => h) (by first | exact hS | exact hS.drop | exact hS.drop.drop | exact hS.drop.drop.drop | exact hS.drop.drop.drop.drop | exact hS.empty | exact hS.one 0 rfl | exact hS.one 1 rfl | exact hS.one 2 rfl | exact hS.one 3 rfl | exact hS.one 4 rfl | exact hS.one 5 rfl | exact hS.one 6 rfl | exact hS.one 7 rfl | exact hS.one 8 rfl | exact hS.one 9 rfl | exact hS.one 10 rfl | exact hS.one 11 rfl) (fun hC => ?_)
                    clear hK K
                    try simp only [List.getElem_toArray, List.getElem_cons_succ, List.getElem_cons_zero, Act.put, List.setIfInBounds_toArray, List.set_cons_zero, List.set_cons_succ]
                    refine mixs_take 13 (v := ?_) rfl (by kernel_rfl) (fun _ _ _ h => h) (by kernel_rfl) (by assumption) (fun s => ?hy) ?_; case hy => (go_simp <;> with_reducible rfl)
                    try simp only [List.getElem_toArray, List.getElem_cons_succ, List.getElem_cons_zero, Act.put, List.setIfInBounds_toArray, List.set_cons_zero, List.set_cons_succ]
                    refine wpAnyH_done (by kernel_rfl) ?_ _
                    try clear hC
                    go_wp2_with fail
                    go_roundg (m - (i + 1))
                    case measure => omega
                    case rel => exact ⟨i + 1, g2, sv, _, _, d9, _, G, by omega, by go_num, rfl, rfl, hst2, hfit2, ⟨rfl, rfl, rfl, rfl⟩, hS.back (A := [_, _, _, _])⟩
                · have hG := Lib.hid hwa.out.gone
                  have hfit3 := Lib.hid (hfit.out.mono (k' := 310) (by omega))
                  have hj30 : rest'.length ≤ 30 := by omega
                  have hcr1 : rest'.length ≤ cr := hrr.2.1
                  have hcr2 : cr ≤ 9223372036854775807 := hrr.2.2
                  have y1 := hS.old z1 (by simp)
                  have y2 := hS.old z2 (by simp)
                  clear hwa hrr hfit
                  obtain ⟨k, t, hkr, hruns, hst2, hwt2⟩ := hG.out.crash hst1.out (by have := hfit1.out.wait; exact List.eq_nil_of_length_eq_zero (by omega)) hfit3.out.ok keep (by rw [hrf.2.2.2]; omega)
                  have hfit2 : (d.crash keep).Fit 42 0 := ⟨hst2.ok, hst2.live.sec, by rw [hwt2]; simp, by simp [Dk.crash]⟩
                  have hdd : (d.crash keep).dead = false := hst2.live.dead
                  have cC : ∀ (wvx : Value) (A1 A2 A3 : Ch) W, St w [] (A1 :: A2 :: A3 :: (dks bd sv wvx d ++ [])) W → _ := fun wvx A1 A2 A3 W hh => crash_any bd sv wvx d ka keep keep.length kc W (hh.preM (A := [_, _, _]) (B := dks bd sv wvx d) (R := [])) hfit3.out.ok (by have := hfit3.out.wait; omega) (m7.old hh (by simp)) (fun z hz => (m9 z hz).2) rfl (by unfold maxLen; omega) (fun h0 b o e => by
                    obtain ⟨b', o', e', hc'⟩ := m7 0 (by simpa using h0)
                    rw [e] at e'
                    cases e'
                    have := hh.oldoff (World.block_lt_of_cell? w _ hc')
                    have := (feet_off (A := [_, _, _]) (B := dks bd sv wvx d ++ []) this).2
                    exact (feet_off this).1)
                  simp only [hrf.1, hrf.2.1, hrf.2.2.1, hrf.2.2.2] at hruns hst2
                  generalize d.crash keep = d9 at *
                  have hro : ringOk 42 2 40 hd ((i + 2 : Nat) : Int) = true := by rw [ringOk_iff]; omega
                  have e2 : ((i + 2 : Nat) : Int) = (i : Int) + 2 := by omega
                  have cO : ∀ (wvx : Value) W, St W (feet (dks bd sv wvx d9)) (dks bd sv wvx d9) W → Calls Try.prog 45 #[.pointer (some ⟨bd, 0, none⟩), .int .i64 2, .int .i64 40, .int .i64 hd, .int .i64 ((i : Int) + 2)] W fun e w' => ∃ g v t recs, e = .returned (.tuple #[.pointer (some ⟨g, 0, none⟩), v, .int .i64 0]) ∧ d9.Runs ⟨2, 40, hd, hd, i + 2⟩ 1 hd recs t ∧ St W (feet (dks bd sv wvx d9)) (Ch.row 9 1 v recs.length (recs.map vs) :: rng g bd ⟨2, 40, hd, t, i + 2⟩ :: dks bd sv wvx d9) w' := fun wvx W hh => by
                    have := rgopen_any bd sv wvx d9 2 40 hd (i + 2) 42 0 W hh hfit2 (by omega) (by omega) hro hdd
                    rw [e2] at this
                    exact this
                  have hlr : l.length ≤ 40 := by have := hst1.out.len; rw [hrf.2.1] at this; exact this
                  have hTk : (rest'.take k).length = k := by rw [List.length_take]; omega
                  have hsl2x : ∀ (W : World) (a : Option Addr), Sl W a (rest'.map vs) → Sl W a ((rest'.take k).map vs) := fun W a h => by rw [List.map_take]; exact Sl_take h
                  replace hsl2x := Lib.hid hsl2x
                  obtain ⟨G, hGe⟩ : ∃ G, l ++ rest'.take k = G := ⟨_, rfl⟩
                  have hgl : G.length = l.length + k := by rw [← hGe, List.length_append, hTk]
                  rw [hGe] at hruns hst2
                  have hGm : (l.map vs) ++ ((rest'.take k).map vs) = G.map vs := by rw [← hGe, List.map_append]
                  have wi2 : IntKind.i64.wrap ((i : Int) + 2) = (i : Int) + 2 := IntWalk.i64_in _ (by omega)
                  have q1 : ¬ (G.length < l.length) := by omega
                  have q1d : decide (G.length < l.length) = false := decide_eq_false q1
                  have q1I : ¬ ((G.length : Int) < l.length) := by omega
                  have q2 : IntKind.i64.wrap ((l.length : Int) + (rest'.length : Nat)) = ((l.length + rest'.length : Nat) : Int) := by rw [IntWalk.i64_in _ (by omega)]; omega
                  have q3 : ¬ (l.length + rest'.length < G.length) := by omega
                  have q3d : decide (l.length + rest'.length < G.length) = false := decide_eq_false q3
                  have q3I : ¬ (((l.length + rest'.length : Nat) : Int) < G.length) := by omega
                  have q4 : IntKind.i64.wrap ((G.length : Int) - l.length) = (k : Nat) := by rw [IntWalk.i64_in _ (by omega)]; omega
                  have cX : ∀ (a1 : Option Addr) (c1 : Nat) (a2 : Option Addr) (c2 : Nat) W, Sl W a1 (G.map vs) → Sl W a2 (G.map vs) → Calls Try.prog 46 #[.slice a1 G.length c1, .slice a2 (l.length + k : Nat) c2] W fun e w' => e = .returned (.bool true) ∧ Below W.heap.size W w' := fun a1 c1 a2 c2 W k1 k2 => by
                    have := texts_any a1 a2 G G G.length (l.length + k) c1 c2 W k1 k2 rfl hgl (by omega) (by omega)
                    simpa using this
                  replace cX := Lib.hid cX
                  have q9 : (l.length : Int) ≤ G.length := by omega
                  have q9N : l.length ≤ G.length := by omega
                  replace hgl := Lib.hid hgl
                  replace hTk := Lib.hid hTk
                  obtain ⟨asu, csu, hrv, -⟩ := hS.row 1 rfl
                  subst hrv
                  replace cC := Lib.hid cC
                  replace cO := Lib.hid cO
                  replace hruns := Lib.hid hruns
                  replace hst2 := Lib.hid hst2
                  replace hfit2 := Lib.hid hfit2
                  replace hGm := Lib.hid hGm
                  clear hGe hG hwt2 hdd hro e2
                  go_wp2_with (first
                    | (go_at_call 21; (with_reducible refine (cC.out _ _ _ _ _ hS).mono ?_); rintro _ w18 ⟨rfl, wv9, hk18⟩; have hS1 := hS.callM (A := [_, _, _]) (B := dks bd sv _ _) (R := []) hk18; clear hS hk18 y2; have hS := hS1; clear hS1; simp only [List.cons_append, List.nil_append] at hS)
                    | (go_at_call 45; (with_reducible refine (cO.out _ _ (hS.preM (A := [_, _, _]) (B := dks bd sv _ d9) (R := []))).mono ?_); rintro _ w19 ⟨g2, v2, t2, recs, rfl, hr9, hk9⟩; obtain ⟨rfl, rfl⟩ := hruns.out.det hr9; have hS1 := hS.callM (A := [_, _, _]) (B := dks bd sv _ d9) (R := []) hk9; clear hS hk9 hr9; have hS := hS1; clear hS1; simp only [List.cons_append, List.nil_append] at hS; obtain ⟨ag, cg, rfl, -⟩ := hS.row 3 rfl)
                  )
                  have qk : k ≤ cr := by omega
                  have qkI : (k : Int) ≤ cr := by omega
                  refine mixs_beginE (by kernel_rfl) hS ?_
                  clear hS
                  intro w6 hS hC
                  refine mixs_take 0 (v := ?_) rfl (by kernel_rfl) (fun _ _ _ h => h) (by kernel_rfl) (by assumption) (fun s => ?hy) ?_; case hy => (go_simp <;> with_reducible rfl)
                  try simp only [List.getElem_toArray, List.getElem_cons_succ, List.getElem_cons_zero, Act.put, List.setIfInBounds_toArray, List.set_cons_zero, List.set_cons_succ]
                  refine mixs_take 2 (v := ?_) rfl (by kernel_rfl) (fun _ _ _ h => h) (by kernel_rfl) (by assumption) (fun s => ?hy) ?_; case hy => (go_simp <;> with_reducible rfl)
                  try simp only [List.getElem_toArray, List.getElem_cons_succ, List.getElem_cons_zero, Act.put, List.setIfInBounds_toArray, List.set_cons_zero, List.set_cons_succ]
                  refine mixs_take 4 (v := ?_) rfl (by kernel_rfl) (fun _ _ _ h => h) (by kernel_rfl) (by assumption) (fun s => ?hy) ?_; case hy => (go_simp <;> with_reducible rfl)
                  try simp only [List.getElem_toArray, List.getElem_cons_succ, List.getElem_cons_zero, Act.put, List.setIfInBounds_toArray, List.set_cons_zero, List.set_cons_succ]
                  refine mixs_take 5 (v := ?_) rfl (by kernel_rfl) (fun _ _ _ h => h) (by kernel_rfl) (by assumption) (fun s => ?hy) ?_; case hy => (go_simp <;> with_reducible rfl)
                  try simp only [List.getElem_toArray, List.getElem_cons_succ, List.getElem_cons_zero, Act.put, List.setIfInBounds_toArray, List.set_cons_zero, List.set_cons_succ]
                  refine mixs_take 6 (v := ?_) rfl (by kernel_rfl) (fun _ _ _ h => h) (by kernel_rfl) (by assumption) (fun s => ?hy) ?_; case hy => (go_simp <;> with_reducible rfl)
                  try simp only [List.getElem_toArray, List.getElem_cons_succ, List.getElem_cons_zero, Act.put, List.setIfInBounds_toArray, List.set_cons_zero, List.set_cons_succ]
                  refine mixs_take 7 (v := ?_) rfl (by kernel_rfl) (fun _ _ _ h => h) (by kernel_rfl) (by assumption) (fun s => ?hy) ?_; case hy => (go_simp <;> with_reducible rfl)
                  try simp only [List.getElem_toArray, List.getElem_cons_succ, List.getElem_cons_zero, Act.put, List.setIfInBounds_toArray, List.set_cons_zero, List.set_cons_succ]
                  refine mixs_take 8 (v := ?_) rfl (by kernel_rfl) (fun _ _ _ h => h) (by kernel_rfl) (by assumption) (fun s => ?hy) ?_; case hy => (go_simp <;> with_reducible rfl)
                  try simp only [List.getElem_toArray, List.getElem_cons_succ, List.getElem_cons_zero, Act.put, List.setIfInBounds_toArray, List.set_cons_zero, List.set_cons_succ]
                  refine mixs_take 9 (v := ?_) rfl (by kernel_rfl) (fun _ _ _ h => h) (by kernel_rfl) (by assumption) (fun s => ?hy) ?_; case hy => (go_simp <;> with_reducible rfl)
                  try simp only [List.getElem_toArray, List.getElem_cons_succ, List.getElem_cons_zero, Act.put, List.setIfInBounds_toArray, List.set_cons_zero, List.set_cons_succ]
                  refine mixs_take 10 (v := ?_) rfl (by kernel_rfl) (fun _ _ _ h => h) (by kernel_rfl) (by assumption) (fun s => ?hy) ?_; case hy => (go_simp <;> with_reducible rfl)
                  try simp only [List.getElem_toArray, List.getElem_cons_succ, List.getElem_cons_zero, Act.put, List.setIfInBounds_toArray, List.set_cons_zero, List.set_cons_succ]
                  refine mixs_one 1 (by kernel_rfl) rfl (fun K hK => ?_)
                  ( (first | (refine op_build0s_st (by kernel_rfl) hS rfl Try.underlying26 ex ?_; intro g30 w30 hS1; clear hS; have hS := hS1; clear hS1) | (refine op_app_st (by kernel_rfl) 0 hS rfl rfl Try.underlying26 ex rfl (Src.slice Try.underlying26 (hS.rowsl 2 rfl) (by simp)) rfl (texts_one l) (by omega) (by unfold maxLen; omega) ?_; intro v31 w31 hS1; clear hS; have hS := hS1; clear hS1; simp only [List.set_cons_zero, Nat.zero_add, List.nil_append] at hS) | (refine op_app_st (by kernel_rfl) 0 hS rfl rfl Try.underlying26 ex rfl (Src.slice Try.underlying26 (hsl2x.out _ _ (hS.rowsl 1 rfl)) (by rw [List.length_map, hTk.out, Nat.mul_one])) rfl (texts_one _) (by omega) (by unfold maxLen; omega) ?_; intro v32 w32 hS1; clear hS; have hS := hS1; clear hS1; simp only [List.set_cons_zero, hGm.out] at hS; obtain ⟨a32, c32, rfl, -⟩ := hS.row 0 rfl) | (go_at_call 46; (with_reducible refine (cX.out _ _ _ _ _ (hS.rowsl 4 rfl) (hS.rowsl 0 rfl)).mono ?_); rintro _ w33 ⟨rfl, hb33⟩; have hS1 := hS.keepB hb33; clear hb33 hS; have hS := hS1; clear hS1)) )
                  try clear hC
                  refine hK.out _ _ _ (fun _ h => h) (by first | exact hS | exact hS.drop | exact hS.drop.drop | exact hS.drop.drop.drop | exact hS.drop.drop.drop.drop | exact hS.empty | exact hS.one 0 rfl | exact hS.one 1 rfl | exact hS.one 2 rfl | exact hS.one 3 rfl | exact hS.one 4 rfl | exact hS.one 5 rfl | exact hS.one 6 rfl | exact hS.one 7 rfl | exact hS.one 8 rfl | exact hS.one 9 rfl | exact hS.one 10 rfl | exact hS.one 11 rfl) (fun hC => ?_)
                  clear hK K
                  try simp only [List.getElem_toArray, List.getElem_cons_succ, List.getElem_cons_zero, Act.put, List.setIfInBounds_toArray, List.set_cons_zero, List.set_cons_succ]
                  refine mixs_one 3 (by kernel_rfl) rfl (fun K hK => ?_)
                  ( (first | (refine op_build0s_st (by kernel_rfl) hS rfl Try.underlying26 ex ?_; intro g30 w30 hS1; clear hS; have hS := hS1; clear hS1) | (refine op_app_st (by kernel_rfl) 0 hS rfl rfl Try.underlying26 ex rfl (Src.slice Try.underlying26 (hS.rowsl 2 rfl) (by simp)) rfl (texts_one l) (by omega) (by unfold maxLen; omega) ?_; intro v31 w31 hS1; clear hS; have hS := hS1; clear hS1; simp only [List.set_cons_zero, Nat.zero_add, List.nil_append] at hS) | (refine op_app_st (by kernel_rfl) 0 hS rfl rfl Try.underlying26 ex rfl (Src.slice Try.underlying26 (hsl2x.out _ _ (hS.rowsl 1 rfl)) (by rw [List.length_map, hTk.out, Nat.mul_one])) rfl (texts_one _) (by omega) (by unfold maxLen; omega) ?_; intro v32 w32 hS1; clear hS; have hS := hS1; clear hS1; simp only [List.set_cons_zero, hGm.out] at hS; obtain ⟨a32, c32, rfl, -⟩ := hS.row 0 rfl) | (go_at_call 46; (with_reducible refine (cX.out _ _ _ _ _ (hS.rowsl 4 rfl) (hS.rowsl 0 rfl)).mono ?_); rintro _ w33 ⟨rfl, hb33⟩; have hS1 := hS.keepB hb33; clear hb33 hS; have hS := hS1; clear hS1)) )
                  try clear hC
                  refine hK.out _ _ _ (fun _ h => h) (by first | exact hS | exact hS.drop | exact hS.drop.drop | exact hS.drop.drop.drop | exact hS.drop.drop.drop.drop | exact hS.empty | exact hS.one 0 rfl | exact hS.one 1 rfl | exact hS.one 2 rfl | exact hS.one 3 rfl | exact hS.one 4 rfl | exact hS.one 5 rfl | exact hS.one 6 rfl | exact hS.one 7 rfl | exact hS.one 8 rfl | exact hS.one 9 rfl | exact hS.one 10 rfl | exact hS.one 11 rfl) (fun hC => ?_)
                  clear hK K
                  try simp only [List.getElem_toArray, List.getElem_cons_succ, List.getElem_cons_zero, Act.put, List.setIfInBounds_toArray, List.set_cons_zero, List.set_cons_succ]
                  refine mixs_one 11 (by kernel_rfl) rfl (fun K hK => ?_)
                  ( (first | (refine op_build0s_st (by kernel_rfl) hS rfl Try.underlying26 ex ?_; intro g30 w30 hS1; clear hS; have hS := hS1; clear hS1) | (refine op_app_st (by kernel_rfl) 0 hS rfl rfl Try.underlying26 ex rfl (Src.slice Try.underlying26 (hS.rowsl 2 rfl) (by simp)) rfl (texts_one l) (by omega) (by unfold maxLen; omega) ?_; intro v31 w31 hS1; clear hS; have hS := hS1; clear hS1; simp only [List.set_cons_zero, Nat.zero_add, List.nil_append] at hS) | (refine op_app_st (by kernel_rfl) 0 hS rfl rfl Try.underlying26 ex rfl (Src.slice Try.underlying26 (hsl2x.out _ _ (hS.rowsl 1 rfl)) (by rw [List.length_map, hTk.out, Nat.mul_one])) rfl (texts_one _) (by omega) (by unfold maxLen; omega) ?_; intro v32 w32 hS1; clear hS; have hS := hS1; clear hS1; simp only [List.set_cons_zero, hGm.out] at hS; obtain ⟨a32, c32, rfl, -⟩ := hS.row 0 rfl) | (go_at_call 46; (with_reducible refine (cX.out _ _ _ _ _ (hS.rowsl 4 rfl) (hS.rowsl 0 rfl)).mono ?_); rintro _ w33 ⟨rfl, hb33⟩; have hS1 := hS.keepB hb33; clear hb33 hS; have hS := hS1; clear hS1)) )
                  try clear hC
                  refine hK.out _ _ _ (fun _ h => h) (by first | exact hS | exact hS.drop | exact hS.drop.drop | exact hS.drop.drop.drop | exact hS.drop.drop.drop.drop | exact hS.empty | exact hS.one 0 rfl | exact hS.one 1 rfl | exact hS.one 2 rfl | exact hS.one 3 rfl | exact hS.one 4 rfl | exact hS.one 5 rfl | exact hS.one 6 rfl | exact hS.one 7 rfl | exact hS.one 8 rfl | exact hS.one 9 rfl | exact hS.one 10 rfl | exact hS.one 11 rfl) (fun hC => ?_)
                  clear hK K
                  try simp only [List.getElem_toArray, List.getElem_cons_succ, List.getElem_cons_zero, Act.put, List.setIfInBounds_toArray, List.set_cons_zero, List.set_cons_succ]
                  refine mixs_one 12 (by kernel_rfl) rfl (fun K hK => ?_)
                  go_simp
                  ( (first | (refine op_build0s_st (by kernel_rfl) hS rfl Try.underlying26 ex ?_; intro g30 w30 hS1; clear hS; have hS := hS1; clear hS1) | (refine op_app_st (by kernel_rfl) 0 hS rfl rfl Try.underlying26 ex rfl (Src.slice Try.underlying26 (hS.rowsl 2 rfl) (by simp)) rfl (texts_one l) (by omega) (by unfold maxLen; omega) ?_; intro v31 w31 hS1; clear hS; have hS := hS1; clear hS1; simp only [List.set_cons_zero, Nat.zero_add, List.nil_append] at hS) | (refine op_app_st (by kernel_rfl) 0 hS rfl rfl Try.underlying26 ex rfl (Src.slice Try.underlying26 (hsl2x.out _ _ (hS.rowsl 1 rfl)) (by rw [List.length_map, hTk.out, Nat.mul_one])) rfl (texts_one _) (by omega) (by unfold maxLen; omega) ?_; intro v32 w32 hS1; clear hS; have hS := hS1; clear hS1; simp only [List.set_cons_zero, hGm.out] at hS; obtain ⟨a32, c32, rfl, -⟩ := hS.row 0 rfl) | (go_at_call 46; (with_reducible refine (cX.out _ _ _ _ _ (hS.rowsl 4 rfl) (hS.rowsl 0 rfl)).mono ?_); rintro _ w33 ⟨rfl, hb33⟩; have hS1 := hS.keepB hb33; clear hb33 hS; have hS := hS1; clear hS1)) )
                  try clear hC
                  refine hK.out _ _ _ (fun _ h => h) (by first | exact hS | exact hS.drop | exact hS.drop.drop | exact hS.drop.drop.drop | exact hS.drop.drop.drop.drop | exact hS.empty | exact hS.one 0 rfl | exact hS.one 1 rfl | exact hS.one 2 rfl | exact hS.one 3 rfl | exact hS.one 4 rfl | exact hS.one 5 rfl | exact hS.one 6 rfl | exact hS.one 7 rfl | exact hS.one 8 rfl | exact hS.one 9 rfl | exact hS.one 10 rfl | exact hS.one 11 rfl) (fun hC => ?_)
                  clear hK K
                  try simp only [List.getElem_toArray, List.getElem_cons_succ, List.getElem_cons_zero, Act.put, List.setIfInBounds_toArray, List.set_cons_zero, List.set_cons_succ]
                  refine mixs_take 13 (v := ?_) rfl (by kernel_rfl) (fun _ _ _ h => h) (by kernel_rfl) (by assumption) (fun s => ?hy) ?_; case hy => (go_simp <;> with_reducible rfl)
                  try simp only [List.getElem_toArray, List.getElem_cons_succ, List.getElem_cons_zero, Act.put, List.setIfInBounds_toArray, List.set_cons_zero, List.set_cons_succ]
                  refine wpAnyH_done (by kernel_rfl) ?_ _
                  try clear hC
                  go_wp2_with fail
                  go_roundg (m - (i + 1))
                  case measure => omega
                  case rel => exact ⟨i + 1, g2, sv, _, _, d9, _, G, by omega, by go_num, rfl, rfl, hst2, hfit2, ⟨rfl, rfl, rfl, rfl⟩, hS.back (A := [_, _, _, _])⟩
        · have hle : True := trivial
          by_cases hk60 : keep.length ≤ 60
          · by_cases hq1 : WideQ sure.length sure
            · have hq2 : ¬ WideQ rest.length rest := fun q => hQ ⟨hk60, hq1, q⟩
              have c1 : ∀ W, Below w.heap.size w W → Calls Try.prog 43 #[.slice sa sure.length sc] W fun e w' => e = .returned (.bool false) ∧ W = w' := fun W hb => (cW1 W hb).mono fun e w' hk => ⟨hk.1.yes hq1, hk.2⟩
              have c2 : ∀ W, Below w.heap.size w W → Calls Try.prog 43 #[.slice ra rest.length rc] W fun e w' => e = .returned (.bool true) ∧ W = w' := fun W hb => (cW2 W hb).mono fun e w' hk => ⟨hk.1.no hq2, hk.2⟩
              replace c1 := Lib.hid c1
              replace c2 := Lib.hid c2
              clear cW1 cW2 hq1 hq2 hQ
              go_wp2_with (first
                | (go_at_call 43; (first | (with_reducible refine (c1.out _ hS.below).mono ?_) | (with_reducible refine (c2.out _ hS.below).mono ?_)); rintro _ _ ⟨rfl, rfl⟩)
                | (go_at_call 41; (with_reducible refine (cA.out _).mono ?_); rintro _ w3 ⟨rfl, hb3⟩; have hS1 := hS.keepB hb3; clear hb3 hS; have hS := hS1; clear hS1))
              go_ret
              exact ⟨rfl, hS.below⟩
            · have c1 : ∀ W, Below w.heap.size w W → Calls Try.prog 43 #[.slice sa sure.length sc] W fun e w' => e = .returned (.bool true) ∧ W = w' := fun W hb => (cW1 W hb).mono fun e w' hk => ⟨hk.1.no hq1, hk.2⟩
              replace c1 := Lib.hid c1
              clear cW1 cW2 hq1 hQ
              go_wp2_with (first
                | (go_at_call 43; (with_reducible refine (c1.out _ hS.below).mono ?_); rintro _ _ ⟨rfl, rfl⟩)
                | (go_at_call 41; (with_reducible refine (cA.out _).mono ?_); rintro _ w3 ⟨rfl, hb3⟩; have hS1 := hS.keepB hb3; clear hb3 hS; have hS := hS1; clear hS1))
              go_ret
              exact ⟨rfl, hS.below⟩
          · have hk61 : 60 < keep.length := by omega
            clear cW1 cW2 hQ hk60
            go_wp2_with (first
              | (go_at_call 41; (with_reducible refine (cA.out _).mono ?_); rintro _ w3 ⟨rfl, hb3⟩; have hS1 := hS.keepB hb3; clear hb3 hS; have hS := hS1; clear hS1))
            go_ret
            exact ⟨rfl, hS.below⟩
      · clear hl hst hwt
        go_wp2_with (first
          | (go_at_call 41; (with_reducible refine (cA.out _).mono ?_); rintro _ w3 ⟨rfl, hb3⟩; have hS1 := hS.keepB hb3; clear hb3 hS; have hS := hS1; clear hS1))
        go_ret
        exact ⟨rfl, hS.below⟩
  · have hmI : 8 < m := by omega
    clear hl
    go_enter Try.func7, Try.ntmps7
    go_wp2_with (first
      | (go_at_call 41; (with_reducible refine (cA.out _).mono ?_); rintro _ w3 ⟨rfl, hb3⟩; have hS1 := hS.keepB hb3; clear hb3 hS; have hS := hS1; clear hS1))
    go_ret
    exact ⟨rfl, hS.below⟩
end Go.Proofs.Ytlhpibniecfofaa
end
