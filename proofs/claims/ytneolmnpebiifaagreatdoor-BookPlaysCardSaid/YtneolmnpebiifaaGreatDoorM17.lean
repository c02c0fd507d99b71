import Derived.Test.YtneolmnpebiifaaGreatDoorM16
set_option linter.unusedVariables false
set_option linter.unusedSimpArgs false
set_option maxRecDepth 100000
section
namespace Go.Ofp
structure KN (n : Nat) (ks : List Key) : Prop where
 chk : chkK ks = true
 mem : ∀ k ∈ ks, k.2.length ≤ n
theorem chkKF_len : ∀ (ks : List Key) (last : Int), chkKF last ks = true → last ≤ 15 → (ks.length : Int) ≤ 15 - last
 | [], last, _, hl => by simp; omega
 | (no, mem) :: r, last, h, hl => by
  rw [chkKF_cons] at h
  simp only [Bool.and_eq_true, decide_eq_true_eq] at h
  have := chkKF_len r no h.2.2.2 (by omega)
  simp only [List.length_cons]
  omega
theorem KN.len {n : Nat} {ks : List Key} (h : KN n ks) : ks.length ≤ 16 := by
 have := chkKF_len ks (-1) h.chk (by omega)
 omega
theorem KN.ok {n : Nat} {ks : List Key} (h : KN n ks) (hn : n ≤ 2000) : OkK ks := ⟨h.chk, by have := h.len; omega, fun k hk => Nat.le_trans (h.mem k hk) hn⟩
theorem KN.mono {n m : Nat} {ks : List Key} (h : KN n ks) (hn : n ≤ m) : KN m ks := ⟨h.chk, fun k hk => Nat.le_trans (h.mem k hk) hn⟩
theorem KN.nil (n : Nat) : KN n [] := ⟨rfl, by simp⟩
theorem up_at {l : List Int} {g : Int} (h : Ids.Up l) (hn : Ids.has l g = false) : Ids.Up (l.take (Ids.place l g) ++ g :: l.drop (Ids.place l g)) := by
 obtain ⟨k1, k2⟩ := Ids.up_take_drop l g h
 have hn : g ∉ l := fun hm => by rw [(Ids.has_iff _ _).2 hm] at hn; cases hn
 unfold Ids.Up at h ⊢
 rw [List.pairwise_append]
 refine ⟨h.sublist (List.take_sublist _ _), ?_, ?_⟩
 · rw [List.pairwise_cons]
   refine ⟨fun y hy => ?_, h.sublist (List.drop_sublist _ _)⟩
   have := (k2 y).1 hy
   have : y ≠ g := fun e => hn (e ▸ this.1)
   omega
 · intro x hx y hy
   have hx' := (k1 x).1 hx
   simp only [List.mem_cons] at hy
   rcases hy with rfl | hy
   · exact hx'.2
   · have := (k2 y).1 hy; omega
theorem KN.open {n : Nat} {ks : List Key} (h : KN n ks) {g : Int} (he : (openK ks g).1 = 0) : KN n (openK ks g).2 ∧ (openK ks g).2 = ks.take (Ids.place (knos ks) g) ++ (g, []) :: ks.drop (Ids.place (knos ks) g) ∧ 0 ≤ g ∧ g < 16 ∧ Ids.has (knos ks) g = false := by
 unfold openK at he ⊢
 by_cases hb : g < 0 ∨ 16 ≤ g
 · rw [if_pos hb] at he; cases he
 rw [if_neg hb] at he ⊢
 cases hh : Ids.has (knos ks) g with
 | true => rw [hh] at he; cases he
 | false =>
  rw [if_neg (by simp)]
  refine ⟨⟨?_, ?_⟩, rfl, by omega, by omega, rfl⟩
  · obtain ⟨h1, h2, h3⟩ := (chkK_iff _).1 h.chk
    rw [chkK_iff]
    refine ⟨?_, ?_, ?_⟩
    · have := up_at h1 hh
      have e : knos (ks.take (Ids.place (knos ks) g) ++ (g, []) :: ks.drop (Ids.place (knos ks) g)) = (knos ks).take (Ids.place (knos ks) g) ++ g :: (knos ks).drop (Ids.place (knos ks) g) := by
       simp [knos]
      rw [e]
      exact this
    · intro k hk
      rcases List.mem_append.1 hk with hk | hk
      · exact h2 k (List.mem_of_mem_take hk)
      · rcases List.mem_cons.1 hk with rfl | hk
        · exact ⟨by omega, by omega⟩
        · exact h2 k (List.mem_of_mem_drop hk)
    · intro k hk
      rcases List.mem_append.1 hk with hk | hk
      · exact h3 k (List.mem_of_mem_take hk)
      · rcases List.mem_cons.1 hk with rfl | hk
        · exact ⟨List.Pairwise.nil, by simp⟩
        · exact h3 k (List.mem_of_mem_drop hk)
  · intro k hk
    rcases List.mem_append.1 hk with hk | hk
    · exact h.mem k (List.mem_of_mem_take hk)
    · rcases List.mem_cons.1 hk with rfl | hk
      · exact Nat.zero_le _
      · exact h.mem k (List.mem_of_mem_drop hk)
theorem KN.close {n : Nat} {ks : List Key} (h : KN n ks) {g : Int} (he : (closeK ks g).1 = 0) : KN n (closeK ks g).2 ∧ (closeK ks g).2 = ks.take (Ids.place (knos ks) g) ++ ks.drop (Ids.place (knos ks) g + 1) ∧ 0 ≤ g ∧ g < 16 ∧ Ids.has (knos ks) g = true := by
 unfold closeK at he ⊢
 by_cases hb : g < 0 ∨ 16 ≤ g
 · rw [if_pos hb] at he; cases he
 rw [if_neg hb] at he ⊢
 cases hh : Ids.has (knos ks) g with
 | false => rw [hh] at he; cases he
 | true =>
  rw [if_pos rfl]
  generalize Ids.place (knos ks) g = p
  have hm : ∀ k ∈ ks.take p ++ ks.drop (p + 1), k ∈ ks := fun k hk => by
   rcases List.mem_append.1 hk with hk | hk
   · exact List.mem_of_mem_take hk
   · exact List.mem_of_mem_drop hk
  have hsub : (ks.take p ++ ks.drop (p + 1)).Sublist ks := by
   conv => rhs; rw [← List.take_append_drop p ks]
   exact (List.Sublist.refl _).append (by rw [← List.drop_drop]; exact List.drop_sublist 1 _)
  refine ⟨⟨?_, fun k hk => h.mem k (hm k hk)⟩, rfl, by omega, by omega, rfl⟩
  obtain ⟨h1, h2, h3⟩ := (chkK_iff _).1 h.chk
  rw [chkK_iff]
  refine ⟨?_, fun k hk => h2 k (hm k hk), fun k hk => h3 k (hm k hk)⟩
  unfold Ids.Up knos at *
  exact h1.sublist (hsub.map _)
theorem KN.set {n : Nat} {ks : List Key} (h : KN n ks) {g : Int} (hh : Ids.has (knos ks) g = true) {m : List Int} (hm : Ids.Rise m) (hl : m.length ≤ n) (hg : 0 ≤ g ∧ g < 16) : KN n (ks.set (Ids.place (knos ks) g) (g, m)) := by
 obtain ⟨h1, h2, h3⟩ := (chkK_iff _).1 h.chk
 have hp := Ids.has_lt (knos ks) g h1 hh
 have hpk : Ids.place (knos ks) g < ks.length := by simpa [knos] using hp
 have hgk : ks[Ids.place (knos ks) g].1 = g := by
  have := Ids.has_place (knos ks) g h1
  rw [hh, dif_pos hp] at this
  have := of_decide_eq_true this.symm
  simpa [knos] using this
 generalize Ids.place (knos ks) g = p at hp hpk hgk ⊢
 have hkn : knos (ks.set p (g, m)) = knos ks := by
  unfold knos
  rw [List.map_set]
  apply List.ext_getElem (by simp)
  intro j h1 h2
  rw [List.getElem_set]
  split
  · rename_i e; subst e; simp [hgk]
  · rfl
 refine ⟨?_, fun k hk => ?_⟩
 · rw [chkK_iff, hkn]
   refine ⟨h1, fun k hk => ?_, fun k hk => ?_⟩
   · rcases List.mem_or_eq_of_mem_set hk with hk | rfl
     · exact h2 k hk
     · exact hg
   · rcases List.mem_or_eq_of_mem_set hk with hk | rfl
     · exact h3 k hk
     · exact hm
 · rcases List.mem_or_eq_of_mem_set hk with hk | rfl
   · exact h.mem k hk
   · exact hl
theorem mem_at {ks : List Key} {g : Int} (hu : Ids.Up (knos ks)) (hh : Ids.has (knos ks) g = true) : (g, memAt ks g) ∈ ks := by
 have hp := Ids.has_lt (knos ks) g hu hh
 have hpk : Ids.place (knos ks) g < ks.length := by simpa [knos] using hp
 have hgk : ks[Ids.place (knos ks) g].1 = g := by
  have := Ids.has_place (knos ks) g hu
  rw [hh, dif_pos hp] at this
  have := of_decide_eq_true this.symm
  simpa [knos] using this
 have hmA : memAt ks g = ks[Ids.place (knos ks) g].2 := by
  unfold memAt
  rw [List.getD_eq_getElem?_getD, List.getElem?_eq_getElem hpk]
  rfl
 have e : ks[Ids.place (knos ks) g] = (g, memAt ks g) := Prod.ext hgk hmA.symm
 rw [← e]
 exact List.getElem_mem hpk
theorem KN.join {n : Nat} {ks : List Key} (h : KN n ks) {g id : Int} (he : (joinK ks g id).1 = 0) : KN (n + 1) (joinK ks g id).2 ∧ (joinK ks g id).2 = ks.set (Ids.place (knos ks) g) (g, Ids.put (memAt ks g) id) ∧ Ids.has (knos ks) g = true ∧ 1 ≤ id ∧ id < 1073741824 := by
 unfold joinK at he ⊢
 by_cases hbad : g < 0 ∨ 16 ≤ g ∨ id < 1 ∨ 1073741824 ≤ id
 · rw [if_pos hbad] at he; cases he
 rw [if_neg hbad] at he ⊢
 cases hh : Ids.has (knos ks) g with
 | false => rw [hh] at he; cases he
 | true =>
  rw [hh, if_pos rfl] at he
  rw [if_pos rfl]
  cases hm : Ids.has (memAt ks g) id with
  | true => rw [hm] at he; cases he
  | false =>
   rw [if_neg (by simp)]
   obtain ⟨h1, h2, h3⟩ := (chkK_iff _).1 h.chk
   have hin := mem_at h1 hh
   have hri : Ids.Rise (memAt ks g) := h3 (g, memAt ks g) hin
   have hl := h.mem _ hin
   have := Ids.put_length (memAt ks g) id
   dsimp only at hl
   exact ⟨(h.mono (by omega)).set hh (Ids.rise_put _ id hri) (by omega) ⟨by omega, by omega⟩, rfl, rfl, by omega, by omega⟩
theorem KN.quit {n : Nat} {ks : List Key} (h : KN n ks) {g id : Int} (he : (quitK ks g id).1 = 0) : KN n (quitK ks g id).2 ∧ (quitK ks g id).2 = ks.set (Ids.place (knos ks) g) (g, Ids.drop (memAt ks g) id) ∧ Ids.has (knos ks) g = true := by
 unfold quitK at he ⊢
 by_cases hbad : g < 0 ∨ 16 ≤ g ∨ id < 1 ∨ 1073741824 ≤ id
 · rw [if_pos hbad] at he; cases he
 rw [if_neg hbad] at he ⊢
 cases hh : Ids.has (knos ks) g with
 | false => rw [hh] at he; cases he
 | true =>
  rw [hh, if_pos rfl] at he
  rw [if_pos rfl]
  cases hm : Ids.has (memAt ks g) id with
  | false => rw [hm] at he; cases he
  | true =>
   rw [if_pos rfl]
   obtain ⟨h1, h2, h3⟩ := (chkK_iff _).1 h.chk
   have hin := mem_at h1 hh
   have hri : Ids.Rise (memAt ks g) := h3 (g, memAt ks g) hin
   have hl := h.mem _ hin
   have := List.length_filter_le (fun x => decide (x ≠ id)) (memAt ks g)
   dsimp only at hl
   exact ⟨h.set hh (Ids.rise_filter _ _ hri) (Nat.le_trans this hl) ⟨by omega, by omega⟩, rfl, rfl⟩
theorem KN.leave {n : Nat} {ks : List Key} (h : KN n ks) (id : Int) : KN n (leaveK ks id) := by
 obtain ⟨h1, h2, h3⟩ := (chkK_iff _).1 h.chk
 have hk : knos (leaveK ks id) = knos ks := by simp [knos, leaveK, Function.comp_def]
 refine ⟨?_, fun k hk => ?_⟩
 · rw [chkK_iff, hk]
   refine ⟨h1, fun k hk => ?_, fun k hk => ?_⟩
   · obtain ⟨x, hx, rfl⟩ := List.mem_map.1 hk
     exact h2 x hx
   · obtain ⟨x, hx, rfl⟩ := List.mem_map.1 hk
     exact Ids.rise_filter _ _ (h3 x hx)
 · obtain ⟨x, hx, rfl⟩ := List.mem_map.1 hk
   exact Nat.le_trans (List.length_filter_le _ _) (h.mem x hx)
structure Ed where
 kind : Int
 id : Int
 group : Int
 p : Pt
def Pt.zero : Pt := ⟨0, 0, noF⟩
def hasG (k : Int) : Bool := decide (k = 4) || decide (k = 5) || decide (k = 6) || decide (k = 7)
def hasI (k : Int) : Bool := decide (k = 2) || decide (k = 3) || decide (k = 6) || decide (k = 7)
def hasP (k : Int) : Bool := decide (k = 1) || decide (k = 2)
def Ed.check (e : Ed) : Int :=
 if e.kind < 1 ∨ 7 < e.kind then 1
 else if e.group < 0 ∨ 16 ≤ e.group ∨ (0 < e.group ∧ hasG e.kind = false) then 1
 else if (hasI e.kind = true ∧ (e.id < 1 ∨ 1073741824 ≤ e.id)) ∨ (hasI e.kind = false ∧ e.id ≠ 0) then 1
 else if hasP e.kind = true then e.p.check
 else if e.p ≠ Pt.zero then 1 else 0
structure BkS where
 seq : Int
 sh : ShS
 ks : List Key
def BkS.new : BkS := ⟨0, ShS.new, []⟩
def stepsL : Int → List Int → List (Int × Int)
 | _, [] => []
 | q, i :: r => (q + 1, i) :: stepsL (q + 1) r
theorem stepsL_len : ∀ (l : List Int) (q : Int), (stepsL q l).length = l.length
 | [], _ => rfl
 | i :: r, q => by simp [stepsL, stepsL_len r]
theorem stepsL_snoc : ∀ (l : List Int) (q i : Int), stepsL q (l ++ [i]) = stepsL q l ++ [(q + l.length + 1, i)]
 | [], q, i => by simp [stepsL]
 | x :: r, q, i => by
  simp only [List.cons_append, stepsL, stepsL_snoc r, List.length_cons]
  rw [show q + 1 + (r.length : Int) + 1 = q + ((r.length + 1 : Nat) : Int) + 1 by omega]
def BkS.act (b : BkS) (e : Ed) : Int × List Int × ShS × List Key :=
 if e.kind = 1 then ((b.sh.add e.p).2.2, [(b.sh.add e.p).2.1.id], (b.sh.add e.p).1, b.ks)
 else if e.kind = 2 then ((b.sh.write e.id e.p).2.2, [e.id], (b.sh.write e.id e.p).1, b.ks)
 else if e.kind = 3 then ((b.sh.drop e.id (b.seq + 1)).2, [e.id], (b.sh.drop e.id (b.seq + 1)).1, leaveK b.ks e.id)
 else if e.kind = 4 then ((openK b.ks e.group).1, [0], b.sh, (openK b.ks e.group).2)
 else if e.kind = 5 then ((closeK b.ks e.group).1, membersK b.ks e.group ++ [0], b.sh, (closeK b.ks e.group).2)
 else if e.kind = 6 then (if (b.sh.get e.id).2 ≠ 0 then ((b.sh.get e.id).2, [], b.sh, b.ks) else ((joinK b.ks e.group e.id).1, [e.id], b.sh, (joinK b.ks e.group e.id).2))
 else ((quitK b.ks e.group e.id).1, [e.id], b.sh, (quitK b.ks e.group e.id).2)
def BkS.does (b : BkS) (e : Ed) : BkS × List (Int × Int) × Int :=
 if e.check ≠ 0 then (b, [], e.check) else if 1099511627676 < b.seq then (b, [], 8)
 else if (b.act e).1 ≠ 0 then (b, [], (b.act e).1) else (⟨b.seq + (b.act e).2.1.length, (b.act e).2.2.1, (b.act e).2.2.2⟩, stepsL b.seq (b.act e).2.1, 0)
structure BkOk (n : Nat) (b : BkS) : Prop where
 sh : ShOk b.sh
 ks : KN n b.ks
 seq : 0 ≤ b.seq ∧ b.seq ≤ 1099511628776
theorem BkOk.new (n : Nat) : BkOk n BkS.new := ⟨ShOk.new, KN.nil n, by simp [BkS.new]⟩
theorem BkOk.mono {n m : Nat} {b : BkS} (h : BkOk n b) (hn : n ≤ m) : BkOk m b := ⟨h.sh, h.ks.mono hn, h.seq⟩
theorem membersK_len {n : Nat} {ks : List Key} (h : KN n ks) (g : Int) : (membersK ks g).length ≤ n := by
 unfold membersK
 split
 · rename_i hh
   exact h.mem (g, memAt ks g) (mem_at ((chkK_iff _).1 h.chk).1 hh)
 · exact Nat.zero_le _
theorem act_ok {n : Nat} {b : BkS} (h : BkOk n b) (e : Ed) (hp : e.p.lab < 4294967296) (he : (b.act e).1 = 0) : ShOk (b.act e).2.2.1 ∧ KN (n + 1) (b.act e).2.2.2 ∧ (b.act e).2.1.length ≤ n + 1 ∧ 1 ≤ (b.act e).2.1.length := by
 have hk := h.ks.mono (Nat.le_succ n)
 unfold BkS.act at he ⊢
 split
 · exact ⟨h.sh.add _ hp, hk, by simp, by simp⟩
 · split
   · exact ⟨h.sh.write _ _ hp, hk, by simp, by simp⟩
   · split
     · exact ⟨h.sh.drop _ _, hk.leave _, by simp, by simp⟩
     · split
       · rename_i h1 h2 h3 h4
         rw [if_neg h1, if_neg h2, if_neg h3, if_pos h4] at he
         exact ⟨h.sh, (hk.open he).1, by simp, by simp⟩
       · split
         · rename_i h1 h2 h3 h4 h5
           rw [if_neg h1, if_neg h2, if_neg h3, if_neg h4, if_pos h5] at he
           refine ⟨h.sh, (hk.close he).1, ?_, by simp⟩
           have := membersK_len h.ks e.group
           simp
           omega
         · split
           · rename_i h1 h2 h3 h4 h5 h6
             rw [if_neg h1, if_neg h2, if_neg h3, if_neg h4, if_neg h5, if_pos h6] at he
             split
             · rename_i h7
               rw [if_pos h7] at he
               exact absurd he h7
             · rename_i h7
               rw [if_neg h7] at he
               exact ⟨h.sh, (h.ks.join he).1, by simp, by simp⟩
           · rename_i h1 h2 h3 h4 h5 h6
             rw [if_neg h1, if_neg h2, if_neg h3, if_neg h4, if_neg h5, if_neg h6] at he
             exact ⟨h.sh, (hk.quit he).1, by simp, by simp⟩
theorem BkOk.does {n : Nat} {b : BkS} (h : BkOk n b) (e : Ed) (hp : e.p.lab < 4294967296) (hn : n ≤ 400) : BkOk (n + 1) (b.does e).1 := by
 unfold BkS.does
 split
 · exact h.mono (Nat.le_succ n)
 · split
   · exact h.mono (Nat.le_succ n)
   · split
     · exact h.mono (Nat.le_succ n)
     · rename_i h1 h2 h3
       obtain ⟨k1, k2, k3, k4⟩ := act_ok h e hp (Decidable.not_not.1 h3)
       refine ⟨k1, k2, ?_⟩
       have := h.seq
       show 0 ≤ b.seq + ((b.act e).2.1.length : Int) ∧ b.seq + ((b.act e).2.1.length : Int) ≤ 1099511628776
       omega
end Go.Ofp
end
section
namespace Go.Ofp
open Go.RowKit
structure Sa where
 kind : Int
 id : Int
 seq : Int
 p : Pt
structure SaIn (x : Sa) : Prop where
 kind : I64 x.kind
 id : I64 x.id
 seq : I64 x.seq
 p : PtIn x.p
structure DdIn (x : Dd) : Prop where
 id : I64 x.id
 ver : I64 x.ver
 seq : I64 x.seq
end Go.Ofp
namespace Go.Proofs.YtneolmnpebiifaaGreatDoor
open Go.RowKit Go.Ofp Go.WideShapes
set_option maxHeartbeats 1000000
theorem ptRow_len (p : Pt) (h : p.f.length = 8) : (ptRow p).length = 26 := by simp [ptRow, flRow_length, h]
section
variable {H : Type} {enc : TypeId × Value → H}
theorem read_dd {w : World} {cs : List Value} (h : ∃ fuel x, DataW.trod enc Tryz.prog w 0 (fun _ => true) true fuel 91 cs = some x) : ∃ x : Dd, cs = ddRow x ∧ DdIn x := by
 obtain ⟨fuel, x, h⟩ := h
 obtain ⟨hl, hf⟩ := field_read Tryz.underlying91 h
 have hc : Tryz.prog.cellsOf 91 = 3 := by kernel_rfl
 rw [hc] at hl
 obtain ⟨n0, y0, h0⟩ := hf 0 _ rfl
 obtain ⟨n1, y1, h1⟩ := hf 1 _ rfl
 obtain ⟨n2, y2, h2⟩ := hf 2 _ rfl
 obtain ⟨z0, e0, w0⟩ := field_int Tryz.underlying3 (by kernel_rfl) (by rw [hl]; decide) h0
 obtain ⟨z1, e1, w1⟩ := field_int Tryz.underlying3 (by kernel_rfl) (by rw [hl]; decide) h1
 obtain ⟨z2, e2, w2⟩ := field_int Tryz.underlying3 (by kernel_rfl) (by rw [hl]; decide) h2
 refine ⟨⟨z0, z1, z2⟩, ?_, wf_i64 w0, wf_i64 w1, wf_i64 w2⟩
 match cs, hl with
 | [c0, c1, c2], _ =>
  simp at e0 e1 e2
  simp [ddRow, e0, e1, e2]
end
end Go.Proofs.YtneolmnpebiifaaGreatDoor
end
section
namespace Go.Ofp
open Go.RowKit
structure EdIn (x : Ed) : Prop where
 kind : I64 x.kind
 id : I64 x.id
 group : I64 x.group
 p : PtIn x.p
end Go.Ofp
namespace Go.Proofs.YtneolmnpebiifaaGreatDoor
open Go.RowKit Go.Ofp Go.WideShapes
set_option maxHeartbeats 1000000
def edRow (x : Ed) : List Value := .int .i64 x.kind :: .int .i64 x.id :: .int .i64 x.group :: ptRow x.p
theorem edRow_len (x : Ed) (h : x.p.f.length = 8) : (edRow x).length = 29 := by simp [edRow, ptRow_len _ h]
section
variable {H : Type} {enc : TypeId × Value → H}
theorem read_ed {w : World} {cs : List Value} (h : ∃ fuel x, DataW.trod enc Tryz.prog w 0 (fun _ => true) true fuel 44 cs = some x) : ∃ x : Ed, cs = edRow x ∧ EdIn x := by
 obtain ⟨fuel, x, h⟩ := h
 obtain ⟨hl, hf⟩ := field_read Tryz.underlying44 h
 have hc : Tryz.prog.cellsOf 44 = 29 := by kernel_rfl
 have hc1 : Tryz.prog.cellsOf 42 = 26 := by kernel_rfl
 rw [hc] at hl
 obtain ⟨n0, y0, h0⟩ := hf 0 _ rfl
 obtain ⟨n1, y1, h1⟩ := hf 1 _ rfl
 obtain ⟨n2, y2, h2⟩ := hf 2 _ rfl
 obtain ⟨n4, y4, h4⟩ := hf 3 _ rfl
 obtain ⟨z0, e0, w0⟩ := field_int Tryz.underlying3 (by kernel_rfl) (by rw [hl]; decide) h0
 obtain ⟨z1, e1, w1⟩ := field_int Tryz.underlying3 (by kernel_rfl) (by rw [hl]; decide) h1
 obtain ⟨z2, e2, w2⟩ := field_int Tryz.underlying3 (by kernel_rfl) (by rw [hl]; decide) h2
 have h4' : DataW.trod enc Tryz.prog w 0 (fun _ => true) true n4 42 ((cs.drop 3).take (Tryz.prog.cellsOf 42)) = some y4 := h4
 rw [hc1, List.take_of_length_le (by rw [List.length_drop, hl]; decide)] at h4'
 obtain ⟨c, ec, hci⟩ := read_pt ⟨_, _, h4'⟩
 refine ⟨⟨z0, z1, z2, c⟩, ?_, wf_i64 w0, wf_i64 w1, wf_i64 w2, hci⟩
 match cs, hl with
 | c0 :: c1 :: c2 :: rest, _ =>
  simp at e0 e1 e2 ec
  simp [edRow, e0, e1, e2, ec]
theorem open_eds {r : Reach} {b0 : Nat} {v : Value} {d : DataW H} {ms : List MemPlace} {w : World}
 (ho : Value.okWide Tryz.prog w r b0 22 v) (ht : DataW.Trod enc Tryz.prog w 0 (fun _ => true) true 22 v d ms) :
 ∃ a n cap l, v = .slice a n cap ∧ Lst edRow EdIn w a n cap l := by
 have hc : Tryz.prog.cellsOf 44 = 29 := by kernel_rfl
 obtain ⟨b, n, cb, rfl, hn, hm, rows, hrl, hrw, hrd⟩ := open_rows Tryz.underlying22 ho ht (by rw [hc]; decide)
 obtain ⟨qs, rfl, hqs⟩ := lst_of fun cs h => read_ed (hrd cs h)
 rw [List.length_map] at hrl
 exact ⟨b, n, cb, qs, rfl, ⟨hrw.sl, hrl, hn, hm, hqs⟩⟩
end
end Go.Proofs.YtneolmnpebiifaaGreatDoor
end
section
namespace Go.Ofp
open Go.RowKit Go.Maps
theorem IMap.count {P : Program} {k : TypeId} {w : World} {b n : Nat} {f : Int → Option Value} (h : IMap P k w b n f) (hk : P.underlying k = some (.int .i64)) :
 ∃ ks, IsKeys f ks ∧ IMap P k w b ks.length f ∧ ∀ (t e ty : TypeId), P.underlying t = some (.map k e) → (Builtin.len_ #[t] ty #[.map (some b)]).run P w = .ok (.int .i64 ks.length) w := by
 obtain ⟨D0, -, -⟩ := id h
 obtain ⟨D, hown, hf⟩ := id h
 have hK : ∀ D', w.ownsMap P k tokR b n D' → Maps.size D' ≤ n → (∀ ss : List Int, ss.Perm (intKeys D') → IsKeys f (ss.mergeSort fun x y => decide (x ≤ y)) ∧ ss.length ≤ n) → D' = D → ∃ ks, IsKeys f ks ∧ ks.length = Maps.size D := fun D' _ _ h2 e => by
  subst e
  refine ⟨_, (h2 _ (List.Perm.refl _)).1, ?_⟩
  rw [List.length_mergeSort]
  obtain ⟨es, rfl, -, -⟩ := hown.entries (int_keyed hk)
  simp [intKeys, Maps.size]
 obtain ⟨D', hown', hsz, h2⟩ := h.keys hk
 have he : D' = D := by
  obtain ⟨es, clock, hb, F, hs, rfl⟩ := hown
  obtain ⟨es', clock', hb', F', hs', rfl⟩ := hown'
  rw [hb] at hb'
  cases hb'
  rfl
 obtain ⟨ks, hks, hl⟩ := hK D' hown' hsz h2 he
 refine ⟨ks, hks, ⟨D, ?_, hf⟩, fun t e ty ht => by rw [hown.len ht ty, hl]⟩
 have hs2 : Maps.size D ≤ ks.length := Nat.le_of_eq hl.symm
 obtain ⟨es, clock, hb, F, hs, rfl⟩ := hown
 exact ⟨es, clock, hb, F, by simpa [Maps.size, length_sorted] using hs2, rfl⟩
end Go.Ofp
end
section
namespace Go.Ofp
open Go.RowKit Go.Maps
section
variable {P : Program} {k : TypeId} {w : World} {b n : Nat} {f : Int → Option Value}
theorem IMap.clear {t e : TypeId} (h : IMap P k w b n f) (ht : P.underlying t = some (.map k e)) (ty : TypeId) :
 ∃ w', (Builtin.clear_ #[t] ty #[.map (some b)]).run P w = .ok (.tuple #[]) w' ∧ IMap P k w' b 0 noM ∧ w.grownBy w' (some b) := by
 obtain ⟨D, ⟨es, clock, hb, F, hs, rfl⟩, hf⟩ := h
 refine ⟨Go.ChangeMaps.setBlock w b (.map #[] clock), ?_, ⟨.map [], ⟨#[], clock, Go.ChangeMaps.heap_setBlock_same hb _, ⟨by simp, MapKept.stamped_empty clock, by simp⟩, Nat.le_refl _, rfl⟩, fun i _ => ⟨rfl, fun v hv => by cases hv⟩⟩, World.mapTurned.grown ⟨es, clock, #[], clock, hb, rfl⟩⟩
 simp [Builtin.clear_, run_underlying ht, MapKept.run_getObj_map hb, MapKept.run_setObj_map _ hb, Result.andThen, Go.ChangeMaps.setBlock]
theorem IMap.below {w' : World} (h : IMap P k w b n f) (hb : Below w.heap.size w w') : IMap P k w' b n f := h.keep (hb.block b h.lt)
end
section
variable {P : Program} {w0 w : World} {F : List Nat} {L : List Ch} {ops : Array Oper} {rest : List Oper} {o : Oper} {a : Act} {Q : Exit → Act → World → Prop} {k : TypeId} {b n : Nat} {f : Int → Option Value}
theorem wpList_look_im (hm : IMap P k w b n f) (hgd : o.guard = none) {t e : TypeId} {x y : Operand} (ho : o.op = .lookup t x y false) (hx : a.eval x = .map (some b)) {j : Int} (hy : a.eval y = .int .i64 j)
 (hk : P.underlying k = some (.int .i64)) (ht : P.underlying t = some (.map k e)) {z : Value} (hz : ∀ W, (zeroValue e).run P W = .ok z W) (hj : (Lit.int .i64 j).wf = true)
 (h : wpList P ops Q rest (a.put o.dst ((f j).getD z)) w) : wpList P ops Q (o :: rest) a w := by
 refine wpList_plain hgd fun K hK => ?_
 have hr := hm.look (P := P) hk ht (hz w) hj
 unfold Oper.wp execOp
 simp only [ho, hx, hy, Sem.run_bind, hr, Result.andThen_ok, Sem.run_pure]
 exact hK _ _ h
end
end Go.Ofp
end
section
namespace Go.Ofp
open Go.RowKit Go.Maps
section
variable {P : Program} {k : TypeId} {w : World} {b n : Nat} {row : Cd → List Value} {m : List Cd}
theorem map_tight (h : IMap P k w b n (cdM row m)) (hk : P.underlying k = some (.int .i64)) (hr : RisC m) (hw : ∀ c ∈ m, (Lit.int .i64 c.id).wf = true) : IMap P k w b m.length (cdM row m) := by
 obtain ⟨ks, h1, h2, -⟩ := h.count hk
 have := cdM_keys hr hw h1
 rw [this, List.length_map] at h2
 exact h2
theorem map_len (h : IMap P k w b n (cdM row m)) (hk : P.underlying k = some (.int .i64)) (hr : RisC m) (hw : ∀ c ∈ m, (Lit.int .i64 c.id).wf = true) (t e ty : TypeId) (ht : P.underlying t = some (.map k e)) : (Builtin.len_ #[t] ty #[.map (some b)]).run P w = .ok (.int .i64 m.length) w := by
 obtain ⟨ks, h1, -, h3⟩ := h.count hk
 have := cdM_keys hr hw h1
 rw [h3 t e ty ht, this, List.length_map]
variable {w0 : World} {F : List Nat} {L : List Ch} {ops : Array Oper} {rest : List Oper} {o : Oper} {a : Act} {Q : Exit → Act → World → Prop} {K : Act → World → Prop}
theorem St.maptight (hS : St w0 F L w) (i : Nat) (hi : L[i]? = some (Ch.map P k b n (cdM row m))) (hk : P.underlying k = some (.int .i64)) (hr : RisC m) (hw : ∀ c ∈ m, (Lit.int .i64 c.id).wf = true) : St w0 F (L.set i (Ch.map P k b m.length (cdM row m))) w :=
 hS.upd i hi (Fr.refl [] w) (by simp) (map_tight (hS.get i hi) hk hr hw) (by simp [Ch.map])
theorem wpList_maplen_st (i : Nat) (hS : St w0 F L w) (hi : L[i]? = some (Ch.map P k b n (cdM row m))) (hgd : o.guard = none) {t e : TypeId} {x : Operand} (ho : o.op = .call { callee := .builtin .len, args := #[x], argTypes := #[t] }) (hx : a.eval x = .map (some b))
 (hk : P.underlying k = some (.int .i64)) (ht : P.underlying t = some (.map k e)) (hr : RisC m) (hw : ∀ c ∈ m, (Lit.int .i64 c.id).wf = true)
 (h : wpList P ops Q rest (a.put o.dst (.int .i64 m.length)) w) : wpList P ops Q (o :: rest) a w := by
 refine wpList_plain hgd fun K hK => ?_
 have hr := map_len (hS.get i hi) hk hr hw t e o.type ht
 unfold Oper.wp execOp
 simp only [ho, resolve, invoke, builtin, hx, List.map_toArray, List.map_cons, List.map_nil, Sem.run_bind, Sem.run_pure, hr, Result.andThen_ok]
 exact hK _ _ h
theorem op_lookok_im {f : Int → Option Value} (hw : Region.wanted o (yielded ops a.tmps) = true) (hm : IMap P k w b n f) {t e : TypeId} {x y : Operand} (ho : o.op = .lookup t x y true) (hx : a.eval x = .map (some b)) {j : Int} (hy : a.eval y = .int .i64 j)
 (hk : P.underlying k = some (.int .i64)) (ht : P.underlying t = some (.map k e)) {z : Value} (hz : ∀ W, (zeroValue e).run P W = .ok z W) (hj : (Lit.int .i64 j).wf = true)
 (h : K (a.put o.dst (.tuple #[(f j).getD z, .bool (f j).isSome])) w) : if Region.wanted o (yielded ops a.tmps) = true then Oper.wp P o a w K Q else K (a.put o.dst undef) w := by
 rw [if_pos hw]
 have hr := hm.look_ok (P := P) hk ht (hz w) hj
 unfold Oper.wp execOp
 simp only [ho, hx, hy, Sem.run_bind, hr, Result.andThen_ok, Sem.run_pure]
 exact h
end
end Go.Ofp
end
section
namespace Go.Proofs.YtneolmnpebiifaaGreatDoor
open Go.RowKit Go.Ofp
set_option maxHeartbeats 4000000
theorem fl_kind (H : List Value) (f : List Vl) (k : Nat) (v : Vl) (hv : f[k]? = some v) : (H ++ flRow f)[H.length + k * 3]? = some (.int .i64 v.kind) := by
 have h := fl_at [] f k v hv
 simp only [List.nil_append, List.length_nil, Nat.zero_add] at h
 have := congrArg (fun l => l[0]?) h
 rw [List.getElem?_append_right (by omega), show H.length + k * 3 - H.length = k * 3 by omega]
 simpa [List.getElem?_take, List.getElem?_drop, vlRow] using this
theorem rcp_main (p : Pt) (hg : p.f.length = 8) (hm : p.mask ≠ 0 ∧ p.mask ≤ 511) (hlab : p.lab < 65536) (hl2 : p.lab = 0 ∨ p.mask.testBit 8 = true) (w : World) :
 Calls Tryz.prog 129 #[.agg (ptRow p).toArray] w fun e w' => e = .returned (.int .i64 (if badF p.mask p.f 8 then 1 else 0)) ∧ Below w.heap.size w w' := by
 have hS := St.start w
 have cC := fun W : World => rmcheck_any p.mask W
 rw [decide_eq_true hm.2] at cC
 have cL := fun W : World => rlabels_any p.mask (by omega) W
 have cV := Lib.hid (fun (v : Vl) (W : World) => rvcheck_any v W)
 have cH := Lib.hid (fun (i : Nat) (hi : i < 8) (W : World) => rhasb_any p.mask i W (by omega) (by omega))
 obtain ⟨m, lab, f⟩ := p
 obtain ⟨hm1, hm2⟩ := hm
 simp only [ptRow] at hg hm1 hm2 hlab hl2 cC cL cH ⊢
 have z1 : ((m : Int) == 0) = false := by rw [beq_eq_false_iff_ne]; omega
 have z2 : decide ((65536 : Int) ≤ (lab : Int)) = false := decide_eq_false (by omega)
 replace cC := Lib.hid cC
 have hl3 : ((lab : Int) != 0) = false ∨ ((lab : Int) != 0) = true ∧ m.testBit 8 = true := by
  by_cases h : lab = 0
  · subst h
    exact .inl rfl
  · exact .inr ⟨by rw [bne_iff_ne]; omega, hl2.resolve_left h⟩
 clear hl2
 obtain ⟨er, her⟩ : ∃ er : Int, (if badF m f 8 then 1 else 0) = er := ⟨_, rfl⟩
 rw [her]
 replace her := Lib.hid her
 rcases hl3 with y1 | ⟨y1, y2⟩
 · go_enter Tryz.func129, Tryz.ntmps129
   go_wp2_with (first | (go_at_call 157; (with_reducible refine (cC.out _).mono ?_); rintro _ _ ⟨rfl, rfl⟩) | (with_reducible refine wpList_box_st (L := []) hS rfl rfl rfl ?_; clear hS; intro gp w1 hS) | ((with_reducible refine wpList_gload_st 0 hS rfl (by with_unfolding_all rfl) rfl rfl ?_ rfl ?_); focus (simp [scalarB, go_sem]; done)))
   clear cL cC z1 z2 hm1 hlab y1
   go_loopg [3] 8 (fun gk vx wr => ∃ k : Nat, k + gk = 8 ∧ vx = .int .i64 k ∧ Hid (badF m f k = false) ∧ St w [] [Ch.blk gp 42 (Value.int .u32 m :: .int .u32 lab :: flRow f).toArray] wr)
   case atStart => exact ⟨0, Nat.zero_add _, rfl, Lib.hid rfl, hS⟩
   case round =>
    obtain ⟨k, hkn, rfl, hr, hS1⟩ := hrel
    clear hS
    have hS := hS1
    clear hS1
    by_cases hlt : k < 8
    · have hvf : f[k]? = some (f.getD k Vl.zero) := by rw [List.getD_eq_getElem?_getD, List.getElem?_eq_getElem (by omega)]; rfl
      have hnext := badF_next m f k
      have hof := fun h => badF_of (m := m) (f := f) (k := k) (n := 8) hlt h
      rw [hr.out] at hnext
      simp only [Bool.false_or, badAt] at hnext hof
      generalize f.getD k Vl.zero = v at *
      have hld : ((Value.int .u32 m :: .int .u32 lab :: flRow f).toArray.toList.drop (2 + k * 3)).take 3 = vlRow v := fl_at [.int .u32 m, .int .u32 lab] f k v hvf
      have hki : (Value.int .u32 m :: .int .u32 lab :: flRow f).toArray[2 + k * 3]? = some (.int .i64 v.kind) := by
       rw [List.getElem?_toArray]
       exact fl_kind [.int .u32 m, .int .u32 lab] f k v hvf
      clear hvf
      have cV2 := cV.out v
      have cH2 := cH.out k hlt
      cases hok : v.ok with
      | false =>
       rw [hok] at cV2 hof
       clear hok cH2
       obtain ⟨vk, vn, vs⟩ := v
       simp only [vlRow] at cV2 hld hki
       replace cV2 := Lib.hid cV2
       replace hof := Lib.hid (hof rfl)
       replace hld := Lib.hid hld
       replace hki := Lib.hid hki
       go_wp2_with (first | (go_at_call 144; (with_reducible refine (cV2.out _).mono ?_); rintro _ w9 ⟨rfl, hk9⟩; replace hS := hS.keepB hk9; clear hk9) | ((with_reducible refine wpList_loadrow_st (n := 3) 0 hS rfl rfl rfl rfl ?_ (by kernel_rfl) hld.out rfl ?_); focus (simp [rowB, go_sem]; done)))
       go_ret
       exact ⟨by rw [← her.out, hof.out]; rfl, hS.below⟩
      | true =>
       rw [hok] at cV2 hof hnext
       by_cases hk0 : v.kind = 0
       · have hnx : badF m f (k + 1) = false := by rw [hnext]; simp [hk0]
         have hkb : (v.kind != 0) = false := by rw [hk0]; rfl
         clear hok hk0 hof hnext cH2
         obtain ⟨vk, vn, vs⟩ := v
         simp only [vlRow] at cV2 hld hki hkb
         replace cV2 := Lib.hid cV2
         replace hnx := Lib.hid hnx
         replace hld := Lib.hid hld
         replace hki := Lib.hid hki
         go_wp2_with (first | (go_at_call 144; (with_reducible refine (cV2.out _).mono ?_); rintro _ w9 ⟨rfl, hk9⟩; replace hS := hS.keepB hk9; clear hk9) | ((with_reducible refine wpList_loadrow_st (n := 3) 0 hS rfl rfl rfl rfl ?_ (by kernel_rfl) hld.out rfl ?_); focus (simp [rowB, go_sem]; done)) | ((with_reducible refine wpList_gload_st 0 hS rfl (by with_unfolding_all rfl) rfl rfl ?_ hki.out ?_); focus (simp [scalarB, go_sem]; done)))
         go_roundg (8 - (k + 1))
         case measure => omega
         case rel => exact ⟨k + 1, by omega, by go_num, hnx, hS⟩
       · have hkb : (v.kind != 0) = true := by rw [bne_iff_ne]; exact hk0
         cases hb : m.testBit k with
         | true =>
          have hnx : badF m f (k + 1) = false := by rw [hnext]; simp [hb]
          rw [hb] at cH2
          clear hok hk0 hof hnext hb
          obtain ⟨vk, vn, vs⟩ := v
          simp only [vlRow] at cV2 hld hki hkb
          replace cV2 := Lib.hid cV2
          replace cH2 := Lib.hid cH2
          replace hnx := Lib.hid hnx
          replace hld := Lib.hid hld
          replace hki := Lib.hid hki
          go_wp2_with (first | (go_at_call 144; (with_reducible refine (cV2.out _).mono ?_); rintro _ w9 ⟨rfl, hk9⟩; replace hS := hS.keepB hk9; clear hk9) | (go_at_call 94; (with_reducible refine (cH2.out _).mono ?_); rintro _ _ ⟨rfl, rfl⟩) | ((with_reducible refine wpList_loadrow_st (n := 3) 0 hS rfl rfl rfl rfl ?_ (by kernel_rfl) hld.out rfl ?_); focus (simp [rowB, go_sem]; done)) | ((with_reducible refine wpList_gload_st 0 hS rfl (by with_unfolding_all rfl) rfl rfl ?_ hki.out ?_); focus (simp [scalarB, go_sem]; done)) | ((with_reducible refine wpList_gload_st 0 hS rfl (by with_unfolding_all rfl) rfl rfl ?_ rfl ?_); focus (simp [scalarB, go_sem]; done)))
          go_roundg (8 - (k + 1))
          case measure => omega
          case rel => exact ⟨k + 1, by omega, by go_num, hnx, hS⟩
         | false =>
          have hof2 : badF m f 8 = true := hof (by simp [hb, hk0])
          rw [hb] at cH2
          clear hok hk0 hof hnext hb
          obtain ⟨vk, vn, vs⟩ := v
          simp only [vlRow] at cV2 hld hki hkb
          replace cV2 := Lib.hid cV2
          replace cH2 := Lib.hid cH2
          replace hof2 := Lib.hid hof2
          replace hld := Lib.hid hld
          replace hki := Lib.hid hki
          go_wp2_with (first | (go_at_call 144; (with_reducible refine (cV2.out _).mono ?_); rintro _ w9 ⟨rfl, hk9⟩; replace hS := hS.keepB hk9; clear hk9) | (go_at_call 94; (with_reducible refine (cH2.out _).mono ?_); rintro _ _ ⟨rfl, rfl⟩) | ((with_reducible refine wpList_loadrow_st (n := 3) 0 hS rfl rfl rfl rfl ?_ (by kernel_rfl) hld.out rfl ?_); focus (simp [rowB, go_sem]; done)) | ((with_reducible refine wpList_gload_st 0 hS rfl (by with_unfolding_all rfl) rfl rfl ?_ hki.out ?_); focus (simp [scalarB, go_sem]; done)) | ((with_reducible refine wpList_gload_st 0 hS rfl (by with_unfolding_all rfl) rfl rfl ?_ rfl ?_); focus (simp [scalarB, go_sem]; done)))
          go_ret
          exact ⟨by rw [← her.out, hof2.out]; rfl, hS.below⟩
    · obtain rfl : k = 8 := by omega
      go_wp2_with fail
      go_ret
      exact ⟨by rw [← her.out, hr.out]; rfl, hS.below⟩
 · rw [y2] at cL
   replace cL := Lib.hid cL
   go_enter Tryz.func129, Tryz.ntmps129
   go_wp2_with (first | (go_at_call 157; (with_reducible refine (cC.out _).mono ?_); rintro _ _ ⟨rfl, rfl⟩) | (go_at_call 158; (with_reducible refine (cL.out _).mono ?_); rintro _ _ ⟨rfl, rfl⟩) | (with_reducible refine wpList_box_st (L := []) hS rfl rfl rfl ?_; clear hS; intro gp w1 hS) | ((with_reducible refine wpList_gload_st 0 hS rfl (by with_unfolding_all rfl) rfl rfl ?_ rfl ?_); focus (simp [scalarB, go_sem]; done)))
   clear y2
   clear cL cC z1 z2 hm1 hlab y1
   go_loopg [3] 8 (fun gk vx wr => ∃ k : Nat, k + gk = 8 ∧ vx = .int .i64 k ∧ Hid (badF m f k = false) ∧ St w [] [Ch.blk gp 42 (Value.int .u32 m :: .int .u32 lab :: flRow f).toArray] wr)
   case atStart => exact ⟨0, Nat.zero_add _, rfl, Lib.hid rfl, hS⟩
   case round =>
    obtain ⟨k, hkn, rfl, hr, hS1⟩ := hrel
    clear hS
    have hS := hS1
    clear hS1
    by_cases hlt : k < 8
    · have hvf : f[k]? = some (f.getD k Vl.zero) := by rw [List.getD_eq_getElem?_getD, List.getElem?_eq_getElem (by omega)]; rfl
      have hnext := badF_next m f k
      have hof := fun h => badF_of (m := m) (f := f) (k := k) (n := 8) hlt h
      rw [hr.out] at hnext
      simp only [Bool.false_or, badAt] at hnext hof
      generalize f.getD k Vl.zero = v at *
      have hld : ((Value.int .u32 m :: .int .u32 lab :: flRow f).toArray.toList.drop (2 + k * 3)).take 3 = vlRow v := fl_at [.int .u32 m, .int .u32 lab] f k v hvf
      have hki : (Value.int .u32 m :: .int .u32 lab :: flRow f).toArray[2 + k * 3]? = some (.int .i64 v.kind) := by
       rw [List.getElem?_toArray]
       exact fl_kind [.int .u32 m, .int .u32 lab] f k v hvf
      clear hvf
      have cV2 := cV.out v
      have cH2 := cH.out k hlt
      cases hok : v.ok with
      | false =>
       rw [hok] at cV2 hof
       clear hok cH2
       obtain ⟨vk, vn, vs⟩ := v
       simp only [vlRow] at cV2 hld hki
       replace cV2 := Lib.hid cV2
       replace hof := Lib.hid (hof rfl)
       replace hld := Lib.hid hld
       replace hki := Lib.hid hki
       go_wp2_with (first | (go_at_call 144; (with_reducible refine (cV2.out _).mono ?_); rintro _ w9 ⟨rfl, hk9⟩; replace hS := hS.keepB hk9; clear hk9) | ((with_reducible refine wpList_loadrow_st (n := 3) 0 hS rfl rfl rfl rfl ?_ (by kernel_rfl) hld.out rfl ?_); focus (simp [rowB, go_sem]; done)))
       go_ret
       exact ⟨by rw [← her.out, hof.out]; rfl, hS.below⟩
      | true =>
       rw [hok] at cV2 hof hnext
       by_cases hk0 : v.kind = 0
       · have hnx : badF m f (k + 1) = false := by rw [hnext]; simp [hk0]
         have hkb : (v.kind != 0) = false := by rw [hk0]; rfl
         clear hok hk0 hof hnext cH2
         obtain ⟨vk, vn, vs⟩ := v
         simp only [vlRow] at cV2 hld hki hkb
         replace cV2 := Lib.hid cV2
         replace hnx := Lib.hid hnx
         replace hld := Lib.hid hld
         replace hki := Lib.hid hki
         go_wp2_with (first | (go_at_call 144; (with_reducible refine (cV2.out _).mono ?_); rintro _ w9 ⟨rfl, hk9⟩; replace hS := hS.keepB hk9; clear hk9) | ((with_reducible refine wpList_loadrow_st (n := 3) 0 hS rfl rfl rfl rfl ?_ (by kernel_rfl) hld.out rfl ?_); focus (simp [rowB, go_sem]; done)) | ((with_reducible refine wpList_gload_st 0 hS rfl (by with_unfolding_all rfl) rfl rfl ?_ hki.out ?_); focus (simp [scalarB, go_sem]; done)))
         go_roundg (8 - (k + 1))
         case measure => omega
         case rel => exact ⟨k + 1, by omega, by go_num, hnx, hS⟩
       · have hkb : (v.kind != 0) = true := by rw [bne_iff_ne]; exact hk0
         cases hb : m.testBit k with
         | true =>
          have hnx : badF m f (k + 1) = false := by rw [hnext]; simp [hb]
          rw [hb] at cH2
          clear hok hk0 hof hnext hb
          obtain ⟨vk, vn, vs⟩ := v
          simp only [vlRow] at cV2 hld hki hkb
          replace cV2 := Lib.hid cV2
          replace cH2 := Lib.hid cH2
          replace hnx := Lib.hid hnx
          replace hld := Lib.hid hld
          replace hki := Lib.hid hki
          go_wp2_with (first | (go_at_call 144; (with_reducible refine (cV2.out _).mono ?_); rintro _ w9 ⟨rfl, hk9⟩; replace hS := hS.keepB hk9; clear hk9) | (go_at_call 94; (with_reducible refine (cH2.out _).mono ?_); rintro _ _ ⟨rfl, rfl⟩) | ((with_reducible refine wpList_loadrow_st (n := 3) 0 hS rfl rfl rfl rfl ?_ (by kernel_rfl) hld.out rfl ?_); focus (simp [rowB, go_sem]; done)) | ((with_reducible refine wpList_gload_st 0 hS rfl (by with_unfolding_all rfl) rfl rfl ?_ hki.out ?_); focus (simp [scalarB, go_sem]; done)) | ((with_reducible refine wpList_gload_st 0 hS rfl (by with_unfolding_all rfl) rfl rfl ?_ rfl ?_); focus (simp [scalarB, go_sem]; done)))
          go_roundg (8 - (k + 1))
          case measure => omega
          case rel => exact ⟨k + 1, by omega, by go_num, hnx, hS⟩
         | false =>
          have hof2 : badF m f 8 = true := hof (by simp [hb, hk0])
          rw [hb] at cH2
          clear hok hk0 hof hnext hb
          obtain ⟨vk, vn, vs⟩ := v
          simp only [vlRow] at cV2 hld hki hkb
          replace cV2 := Lib.hid cV2
          replace cH2 := Lib.hid cH2
          replace hof2 := Lib.hid hof2
          replace hld := Lib.hid hld
          replace hki := Lib.hid hki
          go_wp2_with (first | (go_at_call 144; (with_reducible refine (cV2.out _).mono ?_); rintro _ w9 ⟨rfl, hk9⟩; replace hS := hS.keepB hk9; clear hk9) | (go_at_call 94; (with_reducible refine (cH2.out _).mono ?_); rintro _ _ ⟨rfl, rfl⟩) | ((with_reducible refine wpList_loadrow_st (n := 3) 0 hS rfl rfl rfl rfl ?_ (by kernel_rfl) hld.out rfl ?_); focus (simp [rowB, go_sem]; done)) | ((with_reducible refine wpList_gload_st 0 hS rfl (by with_unfolding_all rfl) rfl rfl ?_ hki.out ?_); focus (simp [scalarB, go_sem]; done)) | ((with_reducible refine wpList_gload_st 0 hS rfl (by with_unfolding_all rfl) rfl rfl ?_ rfl ?_); focus (simp [scalarB, go_sem]; done)))
          go_ret
          exact ⟨by rw [← her.out, hof2.out]; rfl, hS.below⟩
    · obtain rfl : k = 8 := by omega
      go_wp2_with fail
      go_ret
      exact ⟨by rw [← her.out, hr.out]; rfl, hS.below⟩
theorem rcp_any (p : Pt) (hg : p.f.length = 8) (hmm : p.mask < 4294967296) (hll : p.lab < 4294967296) (w : World) :
 Calls Tryz.prog 129 #[.agg (ptRow p).toArray] w fun e w' => e = .returned (.int .i64 p.check) ∧ Below w.heap.size w w' := by
 have hS := St.start w
 have cC := fun W : World => rmcheck_any p.mask W
 have cL := fun W : World => rlabels_any p.mask hmm W
 unfold Pt.check
 by_cases h1 : p.mask = 0 ∨ 511 < p.mask
 · rw [if_pos h1]
   obtain ⟨m, lab, f⟩ := p
   simp only [ptRow] at *
   rcases h1 with h1 | h1
   · have z1 : ((m : Int) == 0) = true := by rw [h1]; rfl
     rw [decide_eq_true (by omega)] at cC
     replace cC := Lib.hid cC
     clear cL h1
     go_enter Tryz.func129, Tryz.ntmps129
     go_wp2_with (first | (go_at_call 157; (with_reducible refine (cC.out _).mono ?_); rintro _ _ ⟨rfl, rfl⟩) | (with_reducible refine wpList_box_st (L := []) hS rfl rfl rfl ?_; clear hS; intro gp w1 hS) | ((with_reducible refine wpList_gload_st 0 hS rfl (by with_unfolding_all rfl) rfl rfl ?_ rfl ?_); focus (simp [scalarB, go_sem]; done)))
     go_ret
     exact ⟨rfl, hS.below⟩
   · have z1 : ((m : Int) == 0) = false := by rw [beq_eq_false_iff_ne]; omega
     rw [decide_eq_false (by omega)] at cC
     replace cC := Lib.hid cC
     clear cL h1
     go_enter Tryz.func129, Tryz.ntmps129
     go_wp2_with (first | (go_at_call 157; (with_reducible refine (cC.out _).mono ?_); rintro _ _ ⟨rfl, rfl⟩) | (with_reducible refine wpList_box_st (L := []) hS rfl rfl rfl ?_; clear hS; intro gp w1 hS) | ((with_reducible refine wpList_gload_st 0 hS rfl (by with_unfolding_all rfl) rfl rfl ?_ rfl ?_); focus (simp [scalarB, go_sem]; done)))
     go_ret
     exact ⟨rfl, hS.below⟩
 rw [if_neg h1]
 by_cases h2 : 65536 ≤ p.lab ∨ p.lab ≠ 0 ∧ p.mask.testBit 8 = false
 · rw [if_pos h2]
   rw [decide_eq_true (show p.mask ≤ 511 by omega)] at cC
   obtain ⟨m, lab, f⟩ := p
   simp only [ptRow] at *
   have z1 : ((m : Int) == 0) = false := by rw [beq_eq_false_iff_ne]; omega
   replace cC := Lib.hid cC
   by_cases h3 : 65536 ≤ lab
   · have z2 : decide ((65536 : Int) ≤ (lab : Int)) = true := decide_eq_true (by omega)
     clear cL h1 h2 h3
     go_enter Tryz.func129, Tryz.ntmps129
     go_wp2_with (first | (go_at_call 157; (with_reducible refine (cC.out _).mono ?_); rintro _ _ ⟨rfl, rfl⟩) | (with_reducible refine wpList_box_st (L := []) hS rfl rfl rfl ?_; clear hS; intro gp w1 hS) | ((with_reducible refine wpList_gload_st 0 hS rfl (by with_unfolding_all rfl) rfl rfl ?_ rfl ?_); focus (simp [scalarB, go_sem]; done)))
     go_ret
     exact ⟨rfl, hS.below⟩
   · have z2 : decide ((65536 : Int) ≤ (lab : Int)) = false := decide_eq_false (by omega)
     obtain ⟨h4, h5⟩ := h2.resolve_left h3
     have z3 : ((lab : Int) != 0) = true := by rw [bne_iff_ne]; omega
     rw [h5] at cL
     replace cL := Lib.hid cL
     clear h1 h2 h3 h4 h5
     go_enter Tryz.func129, Tryz.ntmps129
     go_wp2_with (first | (go_at_call 157; (with_reducible refine (cC.out _).mono ?_); rintro _ _ ⟨rfl, rfl⟩) | (go_at_call 158; (with_reducible refine (cL.out _).mono ?_); rintro _ _ ⟨rfl, rfl⟩) | (with_reducible refine wpList_box_st (L := []) hS rfl rfl rfl ?_; clear hS; intro gp w1 hS) | ((with_reducible refine wpList_gload_st 0 hS rfl (by with_unfolding_all rfl) rfl rfl ?_ rfl ?_); focus (simp [scalarB, go_sem]; done)))
     go_ret
     exact ⟨rfl, hS.below⟩
 · rw [if_neg h2]
   exact rcp_main p hg ⟨by omega, by omega⟩ (by omega) (by
    by_cases h : p.lab = 0
    · exact .inl h
    · right
      cases hb : p.mask.testBit 8 with
      | true => rfl
      | false => exact absurd (.inr ⟨h, hb⟩) h2) w
end Go.Proofs.YtneolmnpebiifaaGreatDoor
end
