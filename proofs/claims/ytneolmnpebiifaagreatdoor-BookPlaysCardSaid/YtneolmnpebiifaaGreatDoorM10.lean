import Derived.Shelf.Abstract
import Derived.Laws.BitsAllLaws
import Derived.Maps.OwnSet
import Derived.Lib.SlKeysI
import Derived.Test.YtneolmnpebiifaaGreatDoorM9
set_option linter.unusedVariables false
set_option linter.unusedSimpArgs false
set_option maxRecDepth 100000
section
namespace Go.Ofp
def tzTab : List UInt8 := [0, 1, 28, 2, 29, 14, 24, 3, 30, 22, 20, 15, 25, 17, 4, 8, 31, 27, 13, 23, 21, 19, 16, 7, 26, 12, 18, 6, 11, 5, 10, 9]
def low (n : Nat) : Nat := ((List.range 32).find? fun i => n.testBit i).getD 32
def bitsOf (n : Nat) : List Nat := (List.range 8).filter fun i => n.testBit i
end Go.Ofp
namespace Go.Proofs.YtneolmnpebiifaaGreatDoor
open Go.RowKit Go.Ofp
set_option maxHeartbeats 4000000
theorem tz_fact : ∀ n : Fin 256, n.val ≠ 0 → (tzTab[(bits .and .u32 (n.val : Int) (-(n.val : Int) % 4294967296) * 125613361 % 4294967296 / 134217728).toNat]?).map (·.toNat) = some (low n.val) ∧ low n.val < 8 := by decide +kernel
theorem tz_any (q : Nat) (w : World) (h0 : q ≠ 0) (h : q < 256) (ht : Sl w (some ⟨0, 0, none⟩) (tzTab.map vb)) : Calls Tryz.prog 188 #[.int .u32 q] w fun e w' => e = .returned (.int .i64 (low q : Nat)) ∧ w = w' := by
 have hz : ((q : Int) == 0) = false := by rw [beq_eq_false_iff_ne]; omega
 obtain ⟨h1, h2⟩ := tz_fact ⟨q, h⟩ h0
 simp only at h1 h2
 obtain ⟨x, hx, hx2⟩ := Option.map_eq_some_iff.1 h1
 obtain ⟨hi, hx3⟩ := List.getElem?_eq_some_iff.1 hx
 have hc := ht.add _ (vb x) (by rw [List.getElem?_map, hx]; rfl)
 rw [Addr.add_lit, Nat.zero_add, vb, hx2] at hc
 generalize low q = t at h2 hc ⊢
 clear ht h1 hx hi hx3 hx2 h0 h
 go_enter Tryz.func188, Tryz.ntmps188
 go_wp2_with fail
 go_ret
 exact ⟨rfl, rfl⟩
theorem bits_fact : ∀ n : Fin 256, n.val ≠ 0 → bitsOf n.val = low n.val :: bitsOf (bits .and .u32 (n.val : Int) ((n.val : Int) - 1)).toNat ∧ (bits .and .u32 (n.val : Int) ((n.val : Int) - 1)).toNat < n.val ∧ 0 ≤ bits .and .u32 (n.val : Int) ((n.val : Int) - 1) := by decide +kernel
theorem bits_none : bitsOf 0 = [] := by decide
def held (b : Nat) (w : World) : Nat := match w.cell? ⟨b, 0, none⟩ with
 | some (.int _ z) => z.toNat
 | _ => 0
theorem held_eq {b : Nat} {w : World} {t : TypeId} {k : IntKind} {q : Nat} (h : Boxed w b t (.int k q)) : held b w = q := by
 unfold held
 rw [h.cell]
 rfl
attribute [local go_sem] Oper.semAt_some in
theorem each1_gives (n : Nat) (hn : 1 ≤ n) (q : Nat) (h : q < 256) (Bn n0 : Nat) (w : World) (hb : Boxed w Bn 37 (.int .u32 q)) (hB : Bn < n0) (h0 : 0 < Bn) (ht : Sl w (some ⟨0, 0, none⟩) (tzTab.map vb)) :
 Gives Fence.wide n Tryz.prog 187 #[.pointer (some ⟨Bn, 0, none⟩)] ((bitsOf q).map fun i => .int .i64 (i : Nat)) n0 Bn w := by
 intro l J W hW hJ hY hJ0
 have hbW : Boxed W Bn 37 (.int .u32 q) := (hW.block Bn hB).trans hb
 have htW : ∀ A B, Below n0 A B → Sl A (some ⟨0, 0, none⟩) (tzTab.map vb) → Sl B (some ⟨0, 0, none⟩) (tzTab.map vb) := by
  intro A B hAB hA i hi
  obtain ⟨b, off, e, hc⟩ := hA i hi
  cases e
  exact ⟨_, _, rfl, (hAB.cell (p := ⟨_, _, none⟩) (by simp only; omega)).trans hc⟩
 have hT := htW _ _ hW ht
 refine callsIn_of_wp Tryz.func187 rfl trivial ?_ rfl
 simp only [Tryz.ntmps187, List.size_toArray, List.length_cons, List.length_nil, Nat.reduceAdd, Nat.reduceSub, Array.replicate_succ, Array.replicate_zero, List.push_toArray, List.append_toArray, List.nil_append, List.cons_append]
 gi_wp2
 gi_loopw [3] (fun _ wr => ∃ k q' : Nat, q' < 256 ∧ k ≤ (bitsOf q).length ∧ Hid (bitsOf q' = (bitsOf q).drop k) ∧ Boxed wr Bn 37 (.int .u32 q') ∧ Hid (Sl wr (some ⟨0, 0, none⟩) (tzTab.map vb)) ∧ J k wr) (fun _ wr => held Bn wr)
 case atStart => exact ⟨0, q, h, Nat.zero_le _, Lib.hid rfl, hbW, Lib.hid hT, hJ0⟩
 case round =>
  obtain ⟨k, q', hq, hk, hd, hbx, hTr, hJk⟩ := hrel
  have hc := hbx.cell
  by_cases hz : q' = 0
  · subst hz
    have hdo := hd.out
    rw [bits_none] at hdo
    have hlen : (bitsOf q).length = k := by
     have := List.drop_eq_nil_iff.1 hdo.symm
     omega
    gi_wp2
    go_end0
    exact ⟨⟨_, rfl⟩, by rw [List.length_map, hlen]; exact hJk⟩
  · obtain ⟨f1, f2, f3⟩ := bits_fact ⟨q', hq⟩ hz
    simp only at f1 f2 f3
    have hdo := hd.out
    rw [f1] at hdo
    have hkl : k < (bitsOf q).length := by
     rcases Nat.lt_or_ge k (bitsOf q).length with h | h
     · exact h
     · rw [List.drop_eq_nil_of_le h] at hdo; cases hdo
    rw [List.drop_eq_getElem_cons hkl] at hdo
    obtain ⟨e1, e2⟩ := List.cons.inj hdo
    have hxs : ((bitsOf q).map fun i => Value.int .i64 (i : Nat))[k]? = some (.int .i64 (low q' : Nat)) := by
     rw [List.getElem?_map, List.getElem?_eq_getElem hkl, e1]
     rfl
    have hzb : ((q' : Int) != 0) = true := by rw [bne_iff_ne]; omega
    obtain ⟨q2, hq2⟩ := Int.eq_ofNat_of_zero_le f3
    rw [hq2, Int.toNat_natCast] at e2 f2
    have cT := Lib.hid (tz_any q' wr hz hq hTr.out)
    obtain ⟨fn, tmps, assign, body, hy, hR⟩ := hY k _ wr hJk hxs
    have hqe := Lib.hid hq2
    have hqm : ((q' : Int) - 1) % 4294967296 = (q' : Int) - 1 := by omega
    replace e2 := Lib.hid e2
    clear hdo hd f1 f3 hq2 e1 hxs
    gi_wp2_with (refine ⟨trivial, ?_⟩; gi_at_call 188; refine (callsIn_wide.2 cT.out).mono ?_; rintro _ _ ⟨rfl, rfl⟩)
    refine hR.mono ?_
    rintro e W3 ⟨rfl, hJ3, hb3⟩
    have hbx3 : Boxed W3 Bn 37 (.int .u32 q') := (hb3.block Bn hB).trans hbx
    have hT3 := htW _ _ hb3 hTr.out
    have hc3 := hbx3.cell
    have hf3 := hbx3.frozen
    gi_wp2
    have hx4 : Boxed (W3.setCell ⟨Bn, 0, none⟩ (.int .u32 q2)) Bn 37 (.int .u32 q2) := hbx3.set _
    have hT4 : Sl (W3.setCell ⟨Bn, 0, none⟩ (.int .u32 q2)) (some ⟨0, 0, none⟩) (tzTab.map vb) := by
     intro i hi
     obtain ⟨b, off, e, hc⟩ := hT3 i hi
     cases e
     exact ⟨_, _, rfl, (((Below.refl Bn W3).setCell (p := ⟨Bn, 0, none⟩) (Nat.le_refl _) _).cell (p := ⟨_, _, none⟩) h0).trans hc⟩
    have hJ4 := hJ _ _ _ hJ3 (grownBy_setCell' W3 Bn (.int .u32 q2))
    go_roundw
    case rel =>
     rw [hqe.out]
     exact ⟨k + 1, q2, by omega, by omega, e2, hx4, Lib.hid hT4, hJ4⟩
    case measure =>
     rw [hqe.out, held_eq hx4, held_eq hbx]
     exact f2
theorem each_any (q : Nat) (w : World) : Calls Tryz.prog 176 #[.int .u32 q] w fun e w' => e = .returned (.func (.func 187) #[] #[.pointer (some ⟨w.heap.size, 0, none⟩)]) ∧ w' = w.alloc (.cells #[.int .u32 q] 37) := by
 go_enter Tryz.func176, Tryz.ntmps176
 go_wp2_with fail
 go_ret
 exact ⟨rfl, rfl⟩
attribute [local go_sem] Oper.semAt_some in
theorem apseq_any (gf : Nat) (lb : Array Value) (eg : ∀ args w, (callFunc gf args).run Tryz.prog w = .ok (.enter gf args) w) (l : List Int) (Bn : Nat) (hl : l.length ≤ 100000) (w : World) (hBn : Bn < w.heap.size) (hs : Gives Fence.wide 9 Tryz.prog gf lb (l.map vi) w.heap.size Bn w) :
 Calls Tryz.prog 145 #[.slice none 0 0, .func (.func gf) #[] lb] w fun e w' => ∃ a c, e = .returned (.slice a l.length c) ∧ l.length ≤ c ∧ c ≤ maxLen ∧ St w [Bn] [irow a c l] w' := by
 obtain ⟨i0, hi, hz0, hz1, hz2⟩ := info_parts (show (Tryz.prog.info? 3).map (fun i => (i.zero, i.size, i.bytes)) = some (some (.int .i64 0), 1, 8) by kernel_rfl)
 refine (callsIn_wide (n := 10)).1 ?_
 refine callsIn_of_wp_marks Tryz.func145 rfl trivial ?_ rfl
 simp only [Tryz.ntmps145, List.size_toArray, List.length_cons, List.length_nil, Nat.reduceAdd, Nat.reduceSub, Array.replicate_succ, Array.replicate_zero, List.push_toArray, List.append_toArray, List.nil_append, List.cons_append]
 gi_wp2
 have hN := Lib.hid hl
 refine wpIn_gives (n := 10) rfl (by decide) (gf := gf) (lb := lb) rfl trivial eg (xs := l.map vi) (n0 := w.heap.size) (Bn := Bn) (hs.later ((Below.refl _ w).alloc (Nat.le_refl _) _)) (by simp; omega) (by simp) rfl
  (fun k W => (∃ v, Boxed W w.heap.size 46 v ∧ W.ownsRow w.heap.size 3 1 v k ((l.take k).map vi)) ∧ Fr [Bn] w W) ?hI ?h0
  (fun x => { tmps := #[.slice none 0 0, .func (.func gf) #[] lb, .pointer (some ⟨w.heap.size, 0, none⟩), undef, .slice none 0 0, x, .func (.func gf) #[] lb, x, undef, undef, undef, undef, undef], defers := [] }) ?assign ?body ?done
 case hI => exact (abide_held hBn (Nat.le_refl _) (by simp)).and (abide_fr (by simp))
 case h0 => exact ⟨⟨_, Boxed.new _ _ _, World.ownsRow_nil _ _ _ _⟩, (Fr.alloc w _).mono (by simp)⟩
 case assign =>
  intro l x W K hx hK
  obtain ⟨z, hz, rfl⟩ := List.mem_map.1 hx
  unfold vi at hK ⊢
  gi_wp2
  exact hK
 case body =>
  rintro L k x W ⟨⟨v, hv, hrow⟩, hB⟩ hx
  have hsz := hB.size
  have hc := hv.cell
  rw [List.getElem?_map] at hx
  obtain ⟨z, hz, rfl⟩ := Option.map_eq_some_iff.1 hx
  have hkl := (List.getElem?_eq_some_iff.1 hz).1
  unfold vi
  gi_wp2_with (gi_at_builtin; refine wpListIn_append_own _ rfl _ _ 46 rfl w.heap.size 3 i0 (.int .i64 0) 1 8 Tryz.underlying46 hi hz0 hz1 hz2 rfl (by decide) _ _ _ rfl (hrow.alloc _) ⟨W.heap.size, 0, none⟩ 1 1 [.int .i64 z] rfl rfl (cell_one_new _ _ _) (by simp [Value.oneCell']) (by unfold maxLen; omega) (by omega) (by simp; omega) ?_; intro v' w1 hown' hgrow _; obtain ⟨g', cap', rfl⟩ := ownsRow_succ hown'; obtain ⟨hv1, hv2, hr2, hk2, hb2⟩ := hv.appended (by decide) hrow hsz (Nat.le_refl _) hown' hgrow; have hc1 := hv1.cell; have hf1 := hv1.frozen)
  have hls : (l.take (k + 1)).map vi = (l.take k).map vi ++ [.int .i64 z] := by
   rw [List.take_succ_eq_append_getElem hkl, List.map_append, (List.getElem?_eq_some_iff.1 hz).2]
   rfl
  exact ⟨hk2.from _, hb2, ⟨_, hv2, by have := hr2; rw [← hls] at this; exact this⟩, hB.belowN hb2⟩
 case done =>
  rintro D W hD ⟨⟨v, hv, hrow⟩, hB⟩ hK
  have hc := hv.cell
  gi_wp2
  rw [List.length_map, List.take_length] at hrow
  obtain ⟨a, cap, rfl, -, -, h5, h6⟩ := owns_sl hrow
  refine ⟨by simp, .inl ⟨_, _, rfl, run_takeDeferred hK, ?_⟩⟩
  exact ⟨_, results_tmp rfl _ _ _, a, cap, rfl, h5, h6, St.ofRow (hB.belowN (belowK_b (w := w) (Nat.le_refl _) W D _ _ (by simp at hD; omega) hK rfl rfl)) (ownsRow_putObj hrow _ hK rfl)⟩
theorem coll_any (gf : Nat) (lb : Array Value) (eg : ∀ args w, (callFunc gf args).run Tryz.prog w = .ok (.enter gf args) w) (l : List Int) (Bn : Nat) (hl : l.length ≤ 100000) (w : World) (hBn : Bn < w.heap.size) (hs : Gives Fence.wide 9 Tryz.prog gf lb (l.map vi) w.heap.size Bn w) :
 Calls Tryz.prog 108 #[.func (.func gf) #[] lb] w fun e w' => ∃ a c, e = .returned (.slice a l.length c) ∧ l.length ≤ c ∧ c ≤ maxLen ∧ St w [Bn] [irow a c l] w' := by
 have cA := Lib.hid (apseq_any gf lb eg l Bn hl w hBn hs)
 clear hs eg
 go_enter Tryz.func108, Tryz.ntmps108
 go_wp2_with (go_at_call 145; (with_reducible refine cA.out.mono ?_); rintro _ w3 ⟨a, c, rfl, h1, h2, h3⟩)
 go_ret
 exact ⟨a, c, rfl, h1, h2, h3⟩
theorem bitsOf_mod (m : Nat) : bitsOf (m % 256) = bitsOf m := by
 unfold bitsOf
 refine List.filter_congr fun i hi => ?_
 have : i < 8 := by simpa using hi
 rw [show (256 : Nat) = 2 ^ 8 by rfl, Nat.testBit_mod_two_pow]
 simp [this]
theorem bitsOf_len (m : Nat) : (bitsOf m).length ≤ 8 := by
 have := List.length_filter_le (fun i => m.testBit i) (List.range 8)
 simpa [bitsOf] using this
def nums (l : List Nat) : List Int := l.map fun (i : Nat) => (i : Int)
theorem fields_any (m : Nat) (hm : m < 4294967296) (w : World) (h0 : 0 < w.heap.size) (ht : Sl w (some ⟨0, 0, none⟩) (tzTab.map vb)) :
 Calls Tryz.prog 149 #[.int .u32 m] w (IntsRet (nums (bitsOf m)) w) := by
 have e : bits .and .u32 (m : Int) 255 = ((m % 256 : Nat) : Int) := by
  rw [show (255 : Int) = ((255 : Nat) : Int) by rfl, u32_and_nat m 255 hm (by decide), show (255 : Nat) = 2 ^ 8 - 1 by rfl, Nat.and_two_pow_sub_one_eq_mod]
 rw [← bitsOf_mod]
 have hl := bitsOf_len (m % 256)
 have hq : m % 256 < 256 := by omega
 generalize m % 256 = q at *
 have cE := Lib.hid (each_any q w)
 have cC := coll_any 187 #[.pointer (some ⟨w.heap.size, 0, none⟩)] (Go.Proofs.enters_of Tryz.func187 (by kernel_rfl) rfl) (nums (bitsOf q)) w.heap.size (by simp [nums]; omega) (w.alloc (.cells #[.int .u32 q] 37)) (by simp)
  (by
   have := each1_gives 9 (by decide) q hq w.heap.size (w.alloc (.cells #[.int .u32 q] 37)).heap.size (w.alloc (.cells #[.int .u32 q] 37)) (Boxed.new _ _ _) (by simp) h0 (ht.below ((Below.refl _ w).alloc (Nat.le_refl _) _))
   unfold nums
   rw [List.map_map]
   exact this)
 replace cC := Lib.hid cC
 clear ht hl
 have hS := St.start w
 go_enter Tryz.func149, Tryz.ntmps149
 go_wp2_with (first | (go_at_call 176; (with_reducible refine cE.out.mono ?_); rintro _ w3 ⟨rfl, rfl⟩) | (go_at_call 108; (with_reducible refine cC.out.mono ?_); rintro _ w3 ⟨a, c, rfl, h1, h2, h3⟩))
 go_ret
 have h4 := (hS.alloc #[.int .u32 q] 37).call (A := [_]) [] rfl h3
 exact ⟨a, c, rfl, h1, h2, by simpa using h4⟩
end Go.Proofs.YtneolmnpebiifaaGreatDoor
end
section
namespace Go.Ofp
theorem flat_len2 {α : Type} (k : Nat) (R : List (List α)) (h : ∀ r ∈ R, r.length = k) : R.flatten.length = R.length * k := by
 induction R with
 | nil => simp
 | cons r R ih => rw [List.flatten_cons, List.length_append, ih (fun x hx => h x (by simp [hx])), h r (by simp), List.length_cons, Nat.add_mul]; omega
theorem flat_take {α : Type} (k : Nat) (R : List (List α)) (h : ∀ r ∈ R, r.length = k) (j : Nat) : R.flatten.take (j * k) = (R.take j).flatten := by
 induction R generalizing j with
 | nil => simp
 | cons r R ih =>
  cases j with
  | zero => simp
  | succ j =>
   have hr := h r (by simp)
   rw [List.flatten_cons, List.take_succ_cons, List.flatten_cons, ← ih (fun x hx => h x (by simp [hx])), List.take_append, List.take_of_length_le (by rw [hr, Nat.add_mul]; omega), hr, show (j + 1) * k - k = j * k by rw [Nat.add_mul]; omega]
theorem flat_drop {α : Type} (k : Nat) (R : List (List α)) (h : ∀ r ∈ R, r.length = k) (j : Nat) : R.flatten.drop (j * k) = (R.drop j).flatten := by
 induction R generalizing j with
 | nil => simp
 | cons r R ih =>
  cases j with
  | zero => simp
  | succ j =>
   have hr := h r (by simp)
   rw [List.flatten_cons, List.drop_succ_cons, ← ih (fun x hx => h x (by simp [hx])), List.drop_append, List.drop_of_length_le (by rw [hr, Nat.add_mul]; omega), List.nil_append, hr, show (j + 1) * k - k = j * k by rw [Nat.add_mul]; omega]
theorem flat_elem {α : Type} (k : Nat) (R : List (List α)) (h : ∀ r ∈ R, r.length = k) (j : Nat) (hj : j < R.length) : (R.flatten.drop (j * k)).take k = R[j] := by
 have hr := h _ (List.getElem_mem hj)
 rw [flat_drop k R h, List.drop_eq_getElem_cons hj, List.flatten_cons, List.take_left' hr]
theorem flat_set {α : Type} (k : Nat) (R : List (List α)) (h : ∀ r ∈ R, r.length = k) (j : Nat) (hj : j < R.length) (x : List α) : R.flatten.take (j * k) ++ x ++ R.flatten.drop (j * k + k) = (R.set j x).flatten := by
 rw [flat_take k R h, show j * k + k = (j + 1) * k by rw [Nat.add_mul]; omega, flat_drop k R h, List.set_eq_take_append_cons_drop, if_pos hj]
 simp
end Go.Ofp
end
section
namespace Go.Ofp
structure Vl where
 kind : Int
 n : Int
 s : ByteArray
deriving DecidableEq
def Vl.zero : Vl := ⟨0, 0, ⟨#[]⟩⟩
structure Cd where
 id : Int
 ver : Int
 lab : Nat
 f : List Vl
deriving DecidableEq
structure Pt where
 mask : Nat
 lab : Nat
 f : List Vl
deriving DecidableEq
def putF (f : List Vl) (out : List Vl) (l : List Nat) : List Vl := l.foldl (fun o i => o.set i (f.getD i Vl.zero)) out
theorem putF_length (f out : List Vl) (l : List Nat) : (putF f out l).length = out.length := by
 unfold putF
 induction l generalizing out with
 | nil => rfl
 | cons i l ih => rw [List.foldl_cons, ih, List.length_set]
theorem putF_snoc (f out : List Vl) (l : List Nat) (i : Nat) : putF f out (l ++ [i]) = (putF f out l).set i (f.getD i Vl.zero) := by simp [putF]
def noF : List Vl := List.replicate 8 Vl.zero
def Cd.proj (c : Cd) (m : Nat) : Cd := ⟨c.id, c.ver, if m.testBit 8 then c.lab else 0, putF c.f noF (bitsOf m)⟩
def Cd.of (c : Cd) (m : Nat) : Pt := ⟨m, (c.proj m).lab, (c.proj m).f⟩
def Cd.merge (c : Cd) (p : Pt) : Cd := ⟨c.id, if c.ver < 1099511627776 then c.ver + 1 else c.ver, if p.mask.testBit 8 then p.lab else c.lab, putF p.f c.f (bitsOf p.mask)⟩
def Cd.none (id : Int) : Cd := ⟨id, 0, 0, noF⟩
def Pt.fresh (id : Int) (p : Pt) : Cd := (Cd.none id).merge p
end Go.Ofp
namespace Go.Proofs.YtneolmnpebiifaaGreatDoor
open Go.RowKit Go.Ofp
set_option maxHeartbeats 4000000
/-! ### In memory -/
theorem elem_value : Elem Tryz.prog 39 (.agg #[.int .i64 0, .int .i64 0, .string ⟨#[]⟩]) 3 32 := Elem.mk (by kernel_rfl) (by rfl) (by decide)
def vlRow (v : Vl) : List Value := [.int .i64 v.kind, .int .i64 v.n, .string v.s]
def flRow (f : List Vl) : List Value := (f.map vlRow).flatten
def cdRow (c : Cd) : List Value := .int .i64 c.id :: .int .i64 c.ver :: .int .u32 c.lab :: flRow c.f
def ptRow (p : Pt) : List Value := .int .u32 p.mask :: .int .u32 p.lab :: flRow p.f
theorem vlRow_length (v : Vl) : (vlRow v).length = 3 := rfl
theorem flRow_length (f : List Vl) : (flRow f).length = f.length * 3 := by
 induction f with
 | nil => rfl
 | cons v f ih => simp [flRow, vlRow] at ih ⊢; omega
theorem vl_each (f : List Vl) : ∀ r ∈ f.map vlRow, r.length = 3 := by
 intro r hr
 obtain ⟨v, _, rfl⟩ := List.mem_map.1 hr
 rfl
theorem vl_one (v : Vl) : (vlRow v).all Value.oneCell' = true := rfl
theorem fl_one (f : List Vl) : (flRow f).all Value.oneCell' = true := by
 rw [List.all_eq_true]
 intro x hx
 obtain ⟨r, hr, hxr⟩ := List.mem_flatten.1 hx
 obtain ⟨v, _, rfl⟩ := List.mem_map.1 hr
 exact List.all_eq_true.1 (vl_one v) x hxr
theorem fl_at (H : List Value) (f : List Vl) (i : Nat) (v : Vl) (hv : f[i]? = some v) : ((H ++ flRow f).drop (H.length + i * 3)).take 3 = vlRow v := by
 obtain ⟨hi, rfl⟩ := List.getElem?_eq_some_iff.1 hv
 rw [List.drop_append, List.drop_of_length_le (by omega), List.nil_append, show H.length + i * 3 - H.length = i * 3 by omega, flRow, flat_elem 3 _ (vl_each f) i (by simpa using hi), List.getElem_map]
theorem fl_put (H : List Value) (f : List Vl) (i : Nat) (v : Vl) (hi : i < f.length) : (H ++ flRow f).take (H.length + i * 3) ++ vlRow v ++ (H ++ flRow f).drop (H.length + i * 3 + 3) = H ++ flRow (f.set i v) := by
 have := flat_set 3 _ (vl_each f) i (by simpa using hi) (vlRow v)
 rw [List.take_append, List.take_of_length_le (by omega), List.drop_append, List.drop_of_length_le (by omega), List.nil_append, show H.length + i * 3 - H.length = i * 3 by omega, show H.length + i * 3 + 3 - H.length = i * 3 + 3 by omega,
  List.append_assoc, List.append_assoc, ← List.append_assoc (List.take _ _), flRow, this, ← List.map_set]
 rfl
end Go.Proofs.YtneolmnpebiifaaGreatDoor
end
section
namespace Go.Ofp
open Go.RowKit Go.WideShapes
section
variable {H : Type} {enc : TypeId × Value → H} {P : Program} {w : World} {base : Nat} {spare : Nat → Bool} {held : Bool}
theorem field_text {f : TypeId} {o n : Nat} {cs : List Value} {y : DataW H × List MemPlace} (hf : P.underlying f = some .string) (hc : P.cellsOf f = 1) (ho : o < cs.length)
 (h : DataW.trod enc P w base spare held n f ((cs.drop o).take (P.cellsOf f)) = some y) : ∃ s : ByteArray, cs[o]? = some (.string s) ∧ s.size ≤ maxLen := by
 obtain ⟨z, hz, _, hs⟩ := DataW.trod_string hf h
 rw [hc, List.drop_eq_getElem_cons ho] at hz
 simp only [List.take_succ_cons, List.take_zero, List.cons.injEq, and_true] at hz
 exact ⟨z, by rw [List.getElem?_eq_getElem ho, hz], hs⟩
end
structure VlIn (v : Vl) : Prop where
 kind : -9223372036854775808 ≤ v.kind ∧ v.kind ≤ 9223372036854775807
 n : -9223372036854775808 ≤ v.n ∧ v.n ≤ 9223372036854775807
 s : v.s.size ≤ maxLen
structure CdIn (c : Cd) : Prop where
 id : -9223372036854775808 ≤ c.id ∧ c.id ≤ 9223372036854775807
 ver : -9223372036854775808 ≤ c.ver ∧ c.ver ≤ 9223372036854775807
 lab : c.lab < 4294967296
 len : c.f.length = 8
 f : ∀ v ∈ c.f, VlIn v
structure PtIn (p : Pt) : Prop where
 mask : p.mask < 4294967296
 lab : p.lab < 4294967296
 len : p.f.length = 8
 f : ∀ v ∈ p.f, VlIn v
theorem wf_u32n {z : Int} (h : (Lit.int .u32 z).wf = true) : ∃ x : Nat, z = x ∧ x < 4294967296 := by
 have hb : 0 ≤ z ∧ z ≤ 4294967295 := by simpa [Lit.wf, IntKind.min, IntKind.max, IntKind.bits, IntKind.signed] using h
 exact ⟨z.toNat, by omega, by omega⟩
end Go.Ofp
namespace Go.Proofs.YtneolmnpebiifaaGreatDoor
open Go.RowKit Go.Ofp Go.WideShapes
set_option maxHeartbeats 1000000
section
variable {H : Type} {enc : TypeId × Value → H} {w : World} {base : Nat} {spare : Nat → Bool} {held : Bool}
theorem read_vl {cs : List Value} (h : ∃ fuel x, DataW.trod enc Tryz.prog w base spare held fuel 39 cs = some x) : ∃ v : Vl, cs = vlRow v ∧ VlIn v := by
 obtain ⟨fuel, x, h⟩ := h
 obtain ⟨hl, hf⟩ := field_read Tryz.underlying39 h
 have hc : Tryz.prog.cellsOf 39 = 3 := by kernel_rfl
 rw [hc] at hl
 obtain ⟨n0, y0, h0⟩ := hf 0 _ rfl
 obtain ⟨n1, y1, h1⟩ := hf 1 _ rfl
 obtain ⟨n2, y2, h2⟩ := hf 2 _ rfl
 obtain ⟨z0, e0, w0⟩ := field_int Tryz.underlying3 (by kernel_rfl) (by rw [hl]; decide) h0
 obtain ⟨z1, e1, w1⟩ := field_int Tryz.underlying3 (by kernel_rfl) (by rw [hl]; decide) h1
 obtain ⟨z2, e2, w2⟩ := field_text Tryz.underlying9 (by kernel_rfl) (by rw [hl]; decide) h2
 match cs, hl with
 | [c0, c1, c2], _ =>
  simp at e0 e1 e2
  exact ⟨⟨z0, z1, z2⟩, by rw [e0, e1, e2]; rfl, wf_i64 w0, wf_i64 w1, w2⟩
theorem read_fl {cs : List Value} (h : ∃ fuel x, DataW.trod enc Tryz.prog w base spare held fuel 40 cs = some x) : ∃ f : List Vl, cs = flRow f ∧ f.length = 8 ∧ ∀ v ∈ f, VlIn v := by
 obtain ⟨fuel, x, h⟩ := h
 obtain ⟨xs, m, _, _, hl, hn, hi⟩ := DataW.trod_array Tryz.underlying40 h
 have hc : Tryz.prog.cellsOf 40 = 24 := by kernel_rfl
 have hv : Tryz.prog.cellsOf 39 = 3 := by kernel_rfl
 rw [hc] at hl
 have key : ∀ i, i < 8 → ∃ y, DataW.trod enc Tryz.prog w base spare held m 39 ((cs.drop (i * 3)).take 3) = some y := by
  intro i hi8
  have := hi i hi8
  rw [hv, List.getElem?_eq_getElem (by omega)] at this
  exact ⟨_, this⟩
 obtain ⟨y0, h0⟩ := key 0 (by decide)
 obtain ⟨y1, h1⟩ := key 1 (by decide)
 obtain ⟨y2, h2⟩ := key 2 (by decide)
 obtain ⟨y3, h3⟩ := key 3 (by decide)
 obtain ⟨y4, h4⟩ := key 4 (by decide)
 obtain ⟨y5, h5⟩ := key 5 (by decide)
 obtain ⟨y6, h6⟩ := key 6 (by decide)
 obtain ⟨y7, h7⟩ := key 7 (by decide)
 match cs, hl with
 | [c0, c1, c2, c3, c4, c5, c6, c7, c8, c9, c10, c11, c12, c13, c14, c15, c16, c17, c18, c19, c20, c21, c22, c23], _ =>
  simp only [Nat.reduceMul, List.drop_succ_cons, List.drop_zero, List.take_succ_cons, List.take_zero] at h0 h1 h2 h3 h4 h5 h6 h7
  obtain ⟨v0, e0, w0⟩ := read_vl ⟨_, _, h0⟩
  obtain ⟨v1, e1, w1⟩ := read_vl ⟨_, _, h1⟩
  obtain ⟨v2, e2, w2⟩ := read_vl ⟨_, _, h2⟩
  obtain ⟨v3, e3, w3⟩ := read_vl ⟨_, _, h3⟩
  obtain ⟨v4, e4, w4⟩ := read_vl ⟨_, _, h4⟩
  obtain ⟨v5, e5, w5⟩ := read_vl ⟨_, _, h5⟩
  obtain ⟨v6, e6, w6⟩ := read_vl ⟨_, _, h6⟩
  obtain ⟨v7, e7, w7⟩ := read_vl ⟨_, _, h7⟩
  simp only [vlRow, List.cons.injEq, and_true] at e0 e1 e2 e3 e4 e5 e6 e7
  refine ⟨[v0, v1, v2, v3, v4, v5, v6, v7], ?_, rfl, ?_⟩
  · simp only [flRow, List.map_cons, List.map_nil, List.flatten_cons, List.flatten_nil, vlRow, List.cons_append, List.nil_append]
    simp only [e0, e1, e2, e3, e4, e5, e6, e7]
  · intro v hv
    simp only [List.mem_cons, List.not_mem_nil, or_false] at hv
    rcases hv with rfl | rfl | rfl | rfl | rfl | rfl | rfl | rfl <;> assumption
theorem read_cd {cs : List Value} (h : ∃ fuel x, DataW.trod enc Tryz.prog w base spare held fuel 58 cs = some x) : ∃ c : Cd, cs = cdRow c ∧ CdIn c := by
 obtain ⟨fuel, x, h⟩ := h
 obtain ⟨hl, hf⟩ := field_read Tryz.underlying58 h
 have hc : Tryz.prog.cellsOf 58 = 27 := by kernel_rfl
 have hc3 : Tryz.prog.cellsOf 40 = 24 := by kernel_rfl
 rw [hc] at hl
 obtain ⟨n0, y0, h0⟩ := hf 0 _ rfl
 obtain ⟨n1, y1, h1⟩ := hf 1 _ rfl
 obtain ⟨n2, y2, h2⟩ := hf 2 _ rfl
 obtain ⟨n3, y3, h3⟩ := hf 3 _ rfl
 obtain ⟨z0, e0, w0⟩ := field_int Tryz.underlying3 (by kernel_rfl) (by rw [hl]; decide) h0
 obtain ⟨z1, e1, w1⟩ := field_int Tryz.underlying3 (by kernel_rfl) (by rw [hl]; decide) h1
 obtain ⟨z2, e2, w2⟩ := field_int Tryz.underlying37 (by kernel_rfl) (by rw [hl]; decide) h2
 have h3' : DataW.trod enc Tryz.prog w base spare held n3 40 ((cs.drop 3).take (Tryz.prog.cellsOf 40)) = some y3 := h3
 rw [hc3, List.take_of_length_le (by rw [List.length_drop, hl]; decide)] at h3'
 obtain ⟨f, hf3, hf8, hfi⟩ := read_fl ⟨_, _, h3'⟩
 obtain ⟨x2, rfl, hx2⟩ := wf_u32n w2
 match cs, hl with
 | c0 :: c1 :: c2 :: rest, _ =>
  simp at e0 e1 e2 hf3
  exact ⟨⟨z0, z1, x2, f⟩, by rw [e0, e1, e2, hf3]; rfl, wf_i64 w0, wf_i64 w1, hx2, hf8, hfi⟩
theorem read_pt {cs : List Value} (h : ∃ fuel x, DataW.trod enc Tryz.prog w base spare held fuel 42 cs = some x) : ∃ p : Pt, cs = ptRow p ∧ PtIn p := by
 obtain ⟨fuel, x, h⟩ := h
 obtain ⟨hl, hf⟩ := field_read Tryz.underlying42 h
 have hc : Tryz.prog.cellsOf 42 = 26 := by kernel_rfl
 have hc3 : Tryz.prog.cellsOf 40 = 24 := by kernel_rfl
 rw [hc] at hl
 obtain ⟨n0, y0, h0⟩ := hf 0 _ rfl
 obtain ⟨n1, y1, h1⟩ := hf 1 _ rfl
 obtain ⟨n3, y3, h3⟩ := hf 2 _ rfl
 obtain ⟨z0, e0, w0⟩ := field_int Tryz.underlying37 (by kernel_rfl) (by rw [hl]; decide) h0
 obtain ⟨z1, e1, w1⟩ := field_int Tryz.underlying37 (by kernel_rfl) (by rw [hl]; decide) h1
 have h3' : DataW.trod enc Tryz.prog w base spare held n3 40 ((cs.drop 2).take (Tryz.prog.cellsOf 40)) = some y3 := h3
 rw [hc3, List.take_of_length_le (by rw [List.length_drop, hl]; decide)] at h3'
 obtain ⟨f, hf3, hf8, hfi⟩ := read_fl ⟨_, _, h3'⟩
 obtain ⟨x0, rfl, hx0⟩ := wf_u32n w0
 obtain ⟨x1, rfl, hx1⟩ := wf_u32n w1
 match cs, hl with
 | c0 :: c1 :: rest, _ =>
  simp at e0 e1 hf3
  exact ⟨⟨x0, x1, f⟩, by rw [e0, e1, hf3]; rfl, hx0, hx1, hf8, hfi⟩
end
end Go.Proofs.YtneolmnpebiifaaGreatDoor
end
section
namespace Go.Ofp
open Go.RowKit Go.Maps
def tokR (v : Value) : Option (DataW Value × List MemPlace) := some (.held v, [])
def IMap (P : Program) (k : TypeId) (w : World) (b n : Nat) (f : Int → Option Value) : Prop :=
 ∃ D, w.ownsMap P k tokR b n D ∧ ∀ i, (Lit.int .i64 i).wf = true → Maps.has D (.int .i64 i) = (f i).isSome ∧ ∀ v, f i = some v → ∀ z, D.atKey (.int .i64 i) z = .held v
def putM (f : Int → Option Value) (k : Int) (v : Value) : Int → Option Value := fun i => if i = k then some v else f i
def delM (f : Int → Option Value) (k : Int) : Int → Option Value := fun i => if i = k then none else f i
def noM : Int → Option Value := fun _ => none
theorem IMap.lt {P : Program} {k : TypeId} {w : World} {b n : Nat} {f : Int → Option Value} (h : IMap P k w b n f) : b < w.heap.size := by
 obtain ⟨D, h, -⟩ := h
 exact h.lt
theorem IMap.keep {P : Program} {k : TypeId} {w w' : World} {b n : Nat} {f : Int → Option Value} (h : IMap P k w b n f) (hk : w'.heap[b]? = w.heap[b]?) : IMap P k w' b n f := by
 obtain ⟨D, ⟨es, clock, hb, r⟩, hf⟩ := h
 exact ⟨D, ⟨es, clock, hk.trans hb, r⟩, hf⟩
theorem IMap.mono {P : Program} {k : TypeId} {w : World} {b n m : Nat} {f : Int → Option Value} (h : IMap P k w b n f) (hm : n ≤ m) : IMap P k w b m f := by
 obtain ⟨D, h, hf⟩ := h
 exact ⟨D, h.mono hm, hf⟩
def Ch.map (P : Program) (k : TypeId) (b n : Nat) (f : Int → Option Value) : Ch where
 foot := [b]
 holds w := IMap P k w b n f
 lt h x hx := by simp at hx; subst hx; exact h.lt
 keep h k := h.keep (k b (by simp))
section
variable {P : Program} {k : TypeId} {w : World} {b n : Nat} {f : Int → Option Value}
theorem isK (i : Int) : WideAt.IsKeyLit (.int .i64 i) := trivial
theorem IMap.made (w : World) (P : Program) (k : TypeId) : IMap P k (w.alloc (.map #[] 0)) w.heap.size 0 noM :=
 ⟨_, World.ownsMap_made w P k tokR, fun i _ => ⟨rfl, fun v hv => by cases hv⟩⟩
theorem IMap.look_ok {t e : TypeId} (h : IMap P k w b n f) (hk : P.underlying k = some (.int .i64)) (ht : P.underlying t = some (.map k e)) {z : Value} (hz : (zeroValue e).run P w = .ok z w) {i : Int} (hi : (Lit.int .i64 i).wf = true) :
 (Instr.lookup t (.map (some b)) (.int .i64 i) true).run P w = .ok (.tuple #[(f i).getD z, .bool (f i).isSome]) w := by
 obtain ⟨D, ⟨es, clock, hb, F, hs, rfl⟩, hf⟩ := h
 obtain ⟨h1, h2⟩ := hf i hi
 rcases Maps.fit_look true (int_keyed hk) ht hz hb F (keyOf_int_mk hk hi) with ⟨hrun, _, hat⟩ | ⟨e0, y, _, _, hrun, hRv, hat, _⟩
 · rw [hrun]
   rw [Maps.has_false_of_atKey hat] at h1
   cases hfi : f i with
   | none => rfl
   | some v => rw [hfi] at h1; cases h1
 · rw [hrun]
   rw [Maps.has_true_of_atKey hat] at h1
   cases hfi : f i with
   | none => rw [hfi] at h1; cases h1
   | some v =>
    have e1 := (h2 v hfi .nil).symm.trans (hat .nil)
    cases hRv
    cases e1
    rfl
theorem IMap.look {t e : TypeId} (h : IMap P k w b n f) (hk : P.underlying k = some (.int .i64)) (ht : P.underlying t = some (.map k e)) {z : Value} (hz : (zeroValue e).run P w = .ok z w) {i : Int} (hi : (Lit.int .i64 i).wf = true) :
 (Instr.lookup t (.map (some b)) (.int .i64 i) false).run P w = .ok ((f i).getD z) w := by
 obtain ⟨D, ⟨es, clock, hb, F, hs, rfl⟩, hf⟩ := h
 obtain ⟨h1, h2⟩ := hf i hi
 rcases Maps.fit_look false (int_keyed hk) ht hz hb F (keyOf_int_mk hk hi) with ⟨hrun, _, hat⟩ | ⟨e0, y, _, _, hrun, hRv, hat, _⟩
 · rw [hrun]
   rw [Maps.has_false_of_atKey hat] at h1
   cases hfi : f i with
   | none => rfl
   | some v => rw [hfi] at h1; cases h1
 · rw [hrun]
   rw [Maps.has_true_of_atKey hat] at h1
   cases hfi : f i with
   | none => rw [hfi] at h1; cases h1
   | some v =>
    have e1 := (h2 v hfi .nil).symm.trans (hat .nil)
    cases hRv
    cases e1
    rfl
theorem IMap.store {t e : TypeId} (h : IMap P k w b n f) (hk : P.underlying k = some (.int .i64)) (ht : P.underlying t = some (.map k e)) (hn : n < maxLen) {i : Int} (hi : (Lit.int .i64 i).wf = true) (v : Value) :
 ∃ w', (Instr.mapUpdate t (.map (some b)) (.int .i64 i) v).run P w = .ok () w' ∧ IMap P k w' b (n + 1) (putM f i v) ∧ w.grownBy w' (some b) := by
 obtain ⟨D, hown, hf⟩ := h
 obtain ⟨w', h1, h2, h3⟩ := hown.update (int_keyed hk) ht hn (keyOf_int_mk hk hi) (val := v) (d := .held v) (ps := []) rfl
 refine ⟨w', h1, ⟨_, h2, fun j hj => ?_⟩, h3⟩
 by_cases e : j = i
 · subst e
   refine ⟨by rw [Maps.has_put_same hown.isMap (isK _)]; simp [putM], fun u hu z => ?_⟩
   rw [Maps.atKey_put_same hown.isMap (isK _)]
   simp [putM] at hu
   rw [hu]
 · have hne : (Lit.int .i64 j) ≠ Lit.int .i64 i := fun h => e (by cases h; rfl)
   refine ⟨by rw [Maps.has_put_other hne, (hf j hj).1]; simp [putM, e], fun u hu z => ?_⟩
   rw [Maps.atKey_put_other hne]
   exact (hf j hj).2 u (by simpa [putM, e] using hu) z
theorem IMap.drop {t e : TypeId} (h : IMap P k w b n f) (hk : P.underlying k = some (.int .i64)) (ht : P.underlying t = some (.map k e)) {i : Int} (hi : (Lit.int .i64 i).wf = true) (ty : TypeId) :
 ∃ w', (Builtin.delete_ #[t, k] ty #[.map (some b), .int .i64 i]).run P w = .ok (.tuple #[]) w' ∧ IMap P k w' b n (delM f i) ∧ w.grownBy w' (some b) := by
 obtain ⟨D, hown, hf⟩ := h
 obtain ⟨w', h1, h2, h3⟩ := hown.drop (int_keyed hk) ht (keyOf_int_mk hk hi) ty
 refine ⟨w', h1, ⟨_, h2, fun j hj => ?_⟩, h3.grown⟩
 by_cases e : j = i
 · subst e
   exact ⟨by rw [Maps.has_del_same]; simp [delM], fun u hu z => by simp [delM] at hu⟩
 · have hne : (Lit.int .i64 j) ≠ Lit.int .i64 i := fun h => e (by cases h; rfl)
   refine ⟨by rw [Maps.has_del_other hne, (hf j hj).1]; simp [delM, e], fun u hu z => ?_⟩
   rw [Maps.atKey_del_other hne]
   exact (hf j hj).2 u (by simpa [delM, e] using hu) z
end
namespace St
variable {P : Program} {k : TypeId} {w0 w w1 : World} {F : List Nat} {L : List Ch} {b n : Nat} {f : Int → Option Value}
theorem makeMap (h : St w0 F L w) (P : Program) (k : TypeId) : St w0 F (Ch.map P k w.heap.size 0 noM :: L) (w.alloc (.map #[] 0)) :=
 h.push (Fr.alloc _ _) (IMap.made w P k) (by simp [Ch.map])
end St
section
variable {P : Program} {w0 w : World} {F : List Nat} {L : List Ch} {ops : Array Oper} {rest : List Oper} {o : Oper} {a : Act} {Q : Exit → Act → World → Prop} {k : TypeId} {b n : Nat} {f : Int → Option Value}
theorem wpList_makemap_st (hS : St w0 F L w) (hgd : o.guard = none) {t e : TypeId} (ho : o.op = .makeMap t none) (ht : P.underlying t = some (.map k e))
 (h : ∀ g w', St w0 F (Ch.map P k g 0 noM :: L) w' → wpList P ops Q rest (a.put o.dst (.map (some g))) w') : wpList P ops Q (o :: rest) a w := by
 refine wpList_plain hgd fun K hK => ?_
 have hr := @run_makeMap P t w
 unfold Oper.wp execOp
 simp only [ho, Sem.run_bind, hr, Result.andThen_ok, Sem.run_pure]
 exact hK _ _ (h _ _ (hS.makeMap P k))
theorem wpList_mapdel_st (i : Nat) (hS : St w0 F L w) (hi : L[i]? = some (Ch.map P k b n f)) (hgd : o.guard = none) {t e : TypeId} {x y : Operand} (ho : o.op = .call { callee := .builtin .delete, args := #[x, y], argTypes := #[t, k] }) (hx : a.eval x = .map (some b)) {j : Int} (hy : a.eval y = .int .i64 j)
 (hk : P.underlying k = some (.int .i64)) (ht : P.underlying t = some (.map k e)) (hj : (Lit.int .i64 j).wf = true)
 (h : ∀ w', St w0 F (L.set i (Ch.map P k b n (delM f j))) w' → wpList P ops Q rest (a.put o.dst (.tuple #[])) w') : wpList P ops Q (o :: rest) a w := by
 refine wpList_plain hgd fun K hK => ?_
 obtain ⟨w', hr, h2, h3⟩ := (hS.get i hi).drop (P := P) hk ht hj o.type
 unfold Oper.wp execOp
 simp only [ho, resolve, invoke, builtin, hx, hy, List.map_toArray, List.map_cons, List.map_nil, Sem.run_bind, Sem.run_pure, hr, Result.andThen_ok]
 exact hK _ _ (h w' (hS.upd i hi (Fr.of_grown h3) (by simp [Ch.map]) h2 (by simp [Ch.map])))
end
section
variable {P : Program} {w0 w : World} {F : List Nat} {L : List Ch} {ops : Array Oper} {o : Oper} {a : Act} {Q : Exit → Act → World → Prop} {K : Act → World → Prop} {k : TypeId} {b n : Nat} {f : Int → Option Value}
theorem op_mapput_st (hw : Region.wanted o (yielded ops a.tmps) = true) (i : Nat) (hS : St w0 F L w) (hi : L[i]? = some (Ch.map P k b n f)) {t e : TypeId} {x y v : Operand} (ho : o.op = .mapUpdate t x y v) (hx : a.eval x = .map (some b)) {j : Int} (hy : a.eval y = .int .i64 j) {u : Value} (hv : a.eval v = u)
 (hk : P.underlying k = some (.int .i64)) (ht : P.underlying t = some (.map k e)) (hn : n < maxLen) (hj : (Lit.int .i64 j).wf = true)
 (h : ∀ w', St w0 F (L.set i (Ch.map P k b (n + 1) (putM f j u))) w' → K (a.put o.dst undef) w') : if Region.wanted o (yielded ops a.tmps) = true then Oper.wp P o a w K Q else K (a.put o.dst undef) w := by
 rw [if_pos hw]
 obtain ⟨w', hr, h2, h3⟩ := (hS.get i hi).store (P := P) hk ht hn hj u
 unfold Oper.wp execOp
 simp only [ho, hx, hy, hv, Sem.run_bind, hr, Result.andThen_ok, Sem.run_pure]
 exact h w' (hS.upd i hi (Fr.of_grown h3) (by simp [Ch.map]) h2 (by simp [Ch.map]))
end
theorem wf_of_i64 {z : Int} (h : -9223372036854775808 ≤ z ∧ z ≤ 9223372036854775807) : (Lit.int .i64 z).wf = true := by
 simpa [Lit.wf, IntKind.min, IntKind.max, IntKind.bits, IntKind.signed] using h
end Go.Ofp
end
section
namespace Go.Ofp
open Go.RowKit Go.Maps
def IsKeys (f : Int → Option Value) (ks : List Int) : Prop := ks.Pairwise (· < ·) ∧ ∀ x, x ∈ ks ↔ ((Lit.int .i64 x).wf = true ∧ (f x).isSome = true)
theorem rising_unique : ∀ {a b : List Int}, a.Pairwise (· < ·) → b.Pairwise (· < ·) → (∀ x, x ∈ a ↔ x ∈ b) → a = b
 | [], [], _, _, _ => rfl
 | [], y :: b, _, _, h => absurd ((h y).2 (by simp)) (by simp)
 | x :: a, [], _, _, h => absurd ((h x).1 (by simp)) (by simp)
 | x :: a, y :: b, h1, h2, h => by
  obtain ⟨p1, p2⟩ := List.pairwise_cons.1 h1
  obtain ⟨q1, q2⟩ := List.pairwise_cons.1 h2
  have e : x = y := by
   rcases List.mem_cons.1 ((h x).1 (by simp)) with e | hx
   · exact e
   · rcases List.mem_cons.1 ((h y).2 (by simp)) with e | hy
     · exact e.symm
     · have := q1 x hx
       have := p1 y hy
       omega
  subst e
  congr 1
  refine rising_unique p2 q2 fun z => ⟨fun hz => ?_, fun hz => ?_⟩
  · rcases List.mem_cons.1 ((h z).1 (by simp [hz])) with e | k
    · have := p1 z hz; omega
    · exact k
  · rcases List.mem_cons.1 ((h z).2 (by simp [hz])) with e | k
    · have := q1 z hz; omega
    · exact k
theorem IMap.keys {P : Program} {k : TypeId} {w : World} {b n : Nat} {f : Int → Option Value} (h : IMap P k w b n f) (hk : P.underlying k = some (.int .i64)) :
 ∃ D : DataW Value, w.ownsMap P k tokR b n D ∧ Maps.size D ≤ n ∧ ∀ ss : List Int, ss.Perm (intKeys D) → IsKeys f (ss.mergeSort fun x y => decide (x ≤ y)) ∧ ss.length ≤ n := by
 obtain ⟨D, hown, hf⟩ := h
 refine ⟨D, hown, hown.size_le, fun ss hp => ?_⟩
 obtain ⟨es, rfl, hpw, -⟩ := hown.entries (int_keyed hk)
 obtain ⟨es', hD', hko⟩ := hown.keysOf
 obtain rfl : es = es' := by simpa using hD'
 have hi : ∀ p ∈ es, ∃ x, p.1 = .int .i64 x ∧ (Lit.int .i64 x).wf = true := fun p hp => by
  obtain ⟨v, hv⟩ := hko p hp
  obtain ⟨x, _, hx, hw⟩ := Maps.keyOf_i64 hk hv
  exact ⟨x, hx, hw⟩
 have hnd : (intKeys (.map es)).Nodup := by
  show (es.map fun p => intOf p.1).Nodup
  refine List.pairwise_map.2 (hpw.imp_of_mem fun {p q} hp' hq' hne e => hne ?_)
  obtain ⟨x, hx, -⟩ := hi p hp'
  obtain ⟨y, hy, -⟩ := hi q hq'
  rw [hx, hy] at e ⊢
  exact congrArg _ e
 have hsz := hown.size_le
 refine ⟨⟨?_, fun x => ?_⟩, by rw [hp.length_eq]; simpa [intKeys, Maps.size] using hsz⟩
 · have tr : ∀ a b c : Int, decide (a ≤ b) = true → decide (b ≤ c) = true → decide (a ≤ c) = true := fun a b c h1 h2 => by simp only [decide_eq_true_eq] at *; exact Int.le_trans h1 h2
   have tot : ∀ a b : Int, (decide (a ≤ b) || decide (b ≤ a)) = true := fun a b => by simp only [Bool.or_eq_true, decide_eq_true_eq]; exact Int.le_total a b
   have h1 := List.pairwise_mergeSort tr tot ss
   have h2 : (ss.mergeSort fun x y => decide (x ≤ y)).Nodup := (List.mergeSort_perm ss _).nodup_iff.2 (hp.nodup_iff.2 hnd)
   refine (h1.and h2).imp fun {a b} ⟨h3, h4⟩ => ?_
   simp only [decide_eq_true_eq] at h3
   omega
 · rw [(List.mergeSort_perm ss _).mem_iff, hp.mem_iff]
   show x ∈ es.map (fun p => intOf p.1) ↔ _
   rw [List.mem_map]
   constructor
   · rintro ⟨p, hp', rfl⟩
     obtain ⟨a, ha, hw⟩ := hi p hp'
     rw [ha]
     refine ⟨hw, ?_⟩
     show (f a).isSome = true
     rw [← (hf a hw).1, has_eq, List.any_eq_true]
     exact ⟨p, hp', by rw [ha]; simp [Lit.sameKey]⟩
   · rintro ⟨hw, hs⟩
     rw [← (hf x hw).1, has_eq, List.any_eq_true] at hs
     obtain ⟨p, hp', hk'⟩ := hs
     obtain ⟨a, ha, -⟩ := hi p hp'
     rw [ha] at hk'
     exact ⟨p, hp', by rw [ha]; simpa [Lit.sameKey, intOf] using hk'⟩
end Go.Ofp
end
