import Derived.Test.YtneolmnpebiifaaGreatDoorM13
set_option linter.unusedVariables false
set_option linter.unusedSimpArgs false
set_option maxRecDepth 100000
section
namespace Go.Ofp
structure Dd where
 id : Int
 ver : Int
 seq : Int
deriving DecidableEq
def ddRow (d : Dd) : List Value := [.int .i64 d.id, .int .i64 d.ver, .int .i64 d.seq]
theorem ddRow_len (d : Dd) : (ddRow d).length = 3 := rfl
structure ShS where
 next : Int
 m : List Cd
 dead : List Dd
deriving DecidableEq
def ShS.new : ShS := ⟨1, [], []⟩
def ShS.get (s : ShS) (id : Int) : Cd × Int :=
 match lookC s.m id with
 | some c => (c, 0)
 | none => (Cd.none 0, if s.dead.any (fun d => decide (d.id = id)) then 9 else 6)
def putC (m : List Cd) (c : Cd) : List Cd := m.map fun d => if d.id = c.id then c else d
def dropC (m : List Cd) (id : Int) : List Cd := m.filter fun d => decide (d.id ≠ id)
def lastD (l : List Dd) : List Dd := if 40 < l.length then l.drop 1 else l
def ShS.add (s : ShS) (p : Pt) : ShS × Cd × Int :=
 if p.check ≠ 0 then (s, Cd.none 0, p.check) else if 48 ≤ s.m.length ∨ 1073741824 ≤ s.next then (s, Cd.none 0, 8) else (⟨s.next + 1, s.m ++ [p.fresh s.next], s.dead⟩, p.fresh s.next, 0)
def ShS.write (s : ShS) (id : Int) (p : Pt) : ShS × Cd × Int :=
 if p.check ≠ 0 then (s, Cd.none 0, p.check) else if (s.get id).2 ≠ 0 then (s, Cd.none 0, (s.get id).2) else if 1099511627776 ≤ (s.get id).1.ver then (s, Cd.none 0, 8)
 else (⟨s.next, putC s.m ((s.get id).1.merge p), s.dead⟩, (s.get id).1.merge p, 0)
def ShS.seqBad (s : ShS) (q : Int) : Bool := decide (q < 0) || decide (1099511627776 < q) || (decide (0 < s.dead.length) && decide (q < (s.dead.getLast?.map Dd.seq).getD 0))
def ShS.drop (s : ShS) (id q : Int) : ShS × Int :=
 if (s.get id).2 ≠ 0 then (s, (s.get id).2) else if s.seqBad q = true then (s, 1) else (⟨s.next, dropC s.m id, lastD (s.dead ++ [⟨id, (s.get id).1.ver, q⟩])⟩, 0)
def ShS.trim (s : ShS) (q : Int) : ShS := ⟨s.next, s.m, s.dead.filter fun d => decide (q < d.seq)⟩
theorem merge_id (c : Cd) (p : Pt) : (c.merge p).id = c.id := rfl
theorem fresh_id (p : Pt) (i : Int) : (p.fresh i).id = i := rfl
theorem fresh_ver (p : Pt) (i : Int) : (p.fresh i).ver = 1 := rfl
theorem merge_f (c : Cd) (p : Pt) : (c.merge p).f.length = c.f.length := putF_length _ _ _
theorem fresh_f (p : Pt) (i : Int) : (p.fresh i).f.length = 8 := (merge_f _ _).trans rfl
theorem lookC_cons (d : Cd) (r : List Cd) (i : Int) : lookC (d :: r) i = if d.id = i then some d else lookC r i := by
 unfold lookC
 rw [List.find?_cons]
 by_cases h : d.id = i <;> simp [h]
theorem lookC_putC (c : Cd) (i : Int) : ∀ m : List Cd, lookC (putC m c) i = if i = c.id then (lookC m i).map fun _ => c else lookC m i
 | [] => by simp [lookC, putC]
 | d :: r => by
  have ih := lookC_putC c i r
  unfold putC at ih ⊢
  rw [List.map_cons, lookC_cons, lookC_cons, ih]
  by_cases h1 : d.id = c.id <;> by_cases h2 : i = c.id
  · subst h2; simp [h1]
  · have : ¬ c.id = i := fun h => h2 h.symm
    have h3 : ¬ d.id = i := fun h => h2 (h.symm.trans h1)
    simp [h1, h2, this]
  · subst h2; simp [h1]
  · simp [h1, h2]
theorem lookC_dropC (k i : Int) : ∀ m : List Cd, lookC (dropC m k) i = if i = k then none else lookC m i
 | [] => by simp [lookC, dropC]
 | d :: r => by
  have ih := lookC_dropC k i r
  unfold dropC at ih ⊢
  rw [List.filter_cons, lookC_cons]
  by_cases h1 : d.id = k
  · rw [if_neg (by simp [h1]), ih]
    by_cases h2 : i = k
    · simp [h2]
    · have : ¬ d.id = i := fun h => h2 (h.symm.trans h1)
      simp [h2, this]
  · rw [if_pos (by simp [h1]), lookC_cons, ih]
    by_cases h2 : i = k
    · subst h2; simp [h1]
    · simp [h2]
theorem lookC_snoc {m : List Cd} {c : Cd} (h : ∀ d ∈ m, d.id ≠ c.id) (i : Int) : lookC (m ++ [c]) i = if i = c.id then some c else lookC m i := by
 induction m with
 | nil =>
  rw [List.nil_append, lookC_cons]
  by_cases e : i = c.id
  · subst e; simp
  · have : ¬ c.id = i := fun h => e h.symm
    simp [e, this]
 | cons d r ih =>
  rw [List.cons_append, lookC_cons, lookC_cons, ih fun x hx => h x (by simp [hx])]
  have h1 := h d (by simp)
  by_cases e : i = c.id
  · subst e; simp [h1]
  · simp [e]
theorem cdM_putC (row : Cd → List Value) {m : List Cd} {c : Cd} (h : (lookC m c.id).isSome = true) : cdM row (putC m c) = putM (cdM row m) c.id (.agg (row c).toArray) := by
 funext i
 unfold cdM putM
 rw [lookC_putC]
 by_cases e : i = c.id
 · subst e
   rw [if_pos rfl, if_pos rfl]
   cases hl : lookC m c.id with
   | none => rw [hl] at h; cases h
   | some d => rfl
 · rw [if_neg e, if_neg e]
theorem cdM_dropC (row : Cd → List Value) (m : List Cd) (k : Int) : cdM row (dropC m k) = delM (cdM row m) k := by
 funext i
 unfold cdM delM
 rw [lookC_dropC]
 by_cases e : i = k <;> simp [e]
theorem putC_length (m : List Cd) (c : Cd) : (putC m c).length = m.length := List.length_map _
theorem dropC_length (m : List Cd) (k : Int) : (dropC m k).length ≤ m.length := List.length_filter_le _ _
theorem putC_ris {m : List Cd} (h : RisC m) (c : Cd) : RisC (putC m c) := by
 unfold RisC putC at *
 rw [List.pairwise_map]
 refine h.imp fun {a b} hab => ?_
 by_cases h1 : a.id = c.id <;> by_cases h2 : b.id = c.id
 · omega
 · rw [if_pos h1, if_neg h2]; omega
 · rw [if_neg h1, if_pos h2]; omega
 · rw [if_neg h1, if_neg h2]; exact hab
theorem dropC_ris {m : List Cd} (h : RisC m) (k : Int) : RisC (dropC m k) := List.Pairwise.filter _ h
theorem snoc_ris {m : List Cd} (h : RisC m) {c : Cd} (hc : ∀ d ∈ m, d.id < c.id) : RisC (m ++ [c]) := by
 unfold RisC at *
 rw [List.pairwise_append]
 exact ⟨h, by simp, fun a ha b hb => by simp at hb; subst hb; exact hc a ha⟩
def placeC : List Cd → Int → Nat
 | [], _ => 0
 | c :: r, id => if c.id = id then 0 else placeC r id + 1
theorem placeC_lookC : ∀ (m : List Cd) (id : Int), m[placeC m id]? = lookC m id
 | [], _ => rfl
 | c :: r, id => by
  rw [lookC_cons]
  unfold placeC
  by_cases h : c.id = id
  · simp [h]
  · rw [if_neg h, if_neg h]; exact placeC_lookC r id
theorem placeC_lt {m : List Cd} {id : Int} : placeC m id < m.length ↔ (lookC m id).isSome = true := by
 rw [← placeC_lookC]
 by_cases h : placeC m id < m.length
 · simp [h]
 · simp [h, List.getElem?_eq_none (Nat.le_of_not_lt h)]
theorem set_putC : ∀ {m : List Cd} {c : Cd}, RisC m → m.set (placeC m c.id) c = putC m c
 | [], c, _ => rfl
 | d :: r, c, h => by
  obtain ⟨h1, h2⟩ := List.pairwise_cons.1 h
  unfold placeC putC
  by_cases e : d.id = c.id
  · rw [if_pos e, List.set_cons_zero, List.map_cons, if_pos e]
    congr 1
    symm
    refine (List.map_congr_left fun x hx => ?_).trans (List.map_id _)
    have := h1 x hx
    rw [if_neg (by omega)]
    rfl
  · rw [if_neg e, List.set_cons_succ, List.map_cons, if_neg e]
    congr 1
    exact set_putC h2
theorem cut_dropC : ∀ {m : List Cd} {id : Int}, RisC m → m.take (placeC m id) ++ m.drop (placeC m id + 1) = dropC m id
 | [], id, _ => rfl
 | d :: r, id, h => by
  obtain ⟨h1, h2⟩ := List.pairwise_cons.1 h
  unfold placeC dropC
  by_cases e : d.id = id
  · rw [if_pos e, List.filter_cons, if_neg (by simp [e])]
    simp only [List.take_zero, List.nil_append, Nat.zero_add, List.drop_succ_cons, List.drop_zero]
    symm
    refine List.filter_eq_self.2 fun x hx => ?_
    have := h1 x hx
    simp only [decide_eq_true_eq]
    omega
  · rw [if_neg e, List.filter_cons, if_pos (by simp [e]), List.take_succ_cons, List.drop_succ_cons, List.cons_append]
    congr 1
    exact cut_dropC h2
structure ShOk (s : ShS) : Prop where
 ris : RisC s.m
 len : s.m.length ≤ 48
 fl : ∀ c ∈ s.m, c.f.length = 8
 id : ∀ c ∈ s.m, 1 ≤ c.id ∧ c.id < s.next
 ver : ∀ c ∈ s.m, 0 ≤ c.ver ∧ c.ver ≤ 1099511627776
 lab : ∀ c ∈ s.m, c.lab < 4294967296
 next : 1 ≤ s.next ∧ s.next ≤ 1073741824
 dlen : s.dead.length ≤ 40
 dd : ∀ d ∈ s.dead, 0 ≤ d.seq ∧ d.seq ≤ 1099511627776 ∧ 0 ≤ d.ver ∧ d.ver ≤ 1099511627776 ∧ 1 ≤ d.id ∧ d.id < 1073741824
theorem ShOk.new : ShOk ShS.new := ⟨List.Pairwise.nil, by decide, by simp [ShS.new], by simp [ShS.new], by simp [ShS.new], by simp [ShS.new], by simp [ShS.new], by decide, by simp [ShS.new]⟩
theorem look_mem {m : List Cd} {id : Int} {c : Cd} (h : lookC m id = some c) : c ∈ m ∧ c.id = id := by
 unfold lookC at h
 exact ⟨List.mem_of_find?_eq_some h, by simpa using List.find?_some h⟩
theorem get_ok {s : ShS} {id : Int} (h : (s.get id).2 = 0) : lookC s.m id = some (s.get id).1 := by
 unfold ShS.get at *
 cases hl : lookC s.m id with
 | none => rw [hl] at h; dsimp only at h; split at h <;> omega
 | some c => rfl
theorem get_some {s : ShS} {id : Int} {c : Cd} (h : lookC s.m id = some c) : s.get id = (c, 0) := by
 unfold ShS.get
 rw [h]
theorem get_none {s : ShS} {id : Int} (h : lookC s.m id = none) : s.get id = (Cd.none 0, if s.dead.any (fun d => decide (d.id = id)) then 9 else 6) := by
 unfold ShS.get
 rw [h]
theorem get_f {s : ShS} (h : ShOk s) (id : Int) : (s.get id).1.f.length = 8 := by
 cases hl : lookC s.m id with
 | none => rw [get_none hl]; rfl
 | some c => rw [get_some hl]; exact h.fl c (look_mem hl).1
theorem ShOk.add {s : ShS} (h : ShOk s) (p : Pt) (hp : p.lab < 4294967296) : ShOk (s.add p).1 := by
 unfold ShS.add
 split
 · exact h
 · split
   · exact h
   · rename_i h2
     have hn : ∀ c ∈ s.m, c.id < (p.fresh s.next).id := fun c hc => (h.id c hc).2
     have h1 := h.next
     refine ⟨snoc_ris h.ris hn, ?_, ?_, ?_, ?_, ?_, ?_, h.dlen, h.dd⟩
     · show (s.m ++ [p.fresh s.next]).length ≤ 48
       simp
       omega
     · intro c hc
       rcases List.mem_append.1 hc with hc | hc
       · exact h.fl c hc
       · simp at hc; subst hc; exact fresh_f _ _
     · intro c hc
       show 1 ≤ c.id ∧ c.id < s.next + 1
       rcases List.mem_append.1 hc with hc | hc
       · have := h.id c hc; omega
       · simp at hc; subst hc; rw [fresh_id]; omega
     · intro c hc
       rcases List.mem_append.1 hc with hc | hc
       · exact h.ver c hc
       · simp at hc; subst hc; rw [fresh_ver]; omega
     · intro c hc
       rcases List.mem_append.1 hc with hc | hc
       · exact h.lab c hc
       · simp at hc
         subst hc
         unfold Pt.fresh Cd.merge
         dsimp only
         split
         · exact hp
         · exact (by decide : (0 : Nat) < 4294967296)
     · show 1 ≤ s.next + 1 ∧ s.next + 1 ≤ 1073741824
       omega
theorem ShOk.write {s : ShS} (h : ShOk s) (id : Int) (p : Pt) (hp : p.lab < 4294967296) : ShOk (s.write id p).1 := by
 unfold ShS.write
 split
 · exact h
 · split
   · exact h
   · split
     · exact h
     · rename_i h1 h2 h3
       have hl := get_ok (Decidable.not_not.1 h2)
       generalize (s.get id).1 = c at *
       obtain ⟨hc, hid⟩ := look_mem hl
       have hm : ∀ (Q : Cd → Prop), (∀ c ∈ s.m, Q c) → Q (c.merge p) → ∀ x ∈ putC s.m (c.merge p), Q x := fun Q k1 k2 x hx => by
        unfold putC at hx
        obtain ⟨d, hd, rfl⟩ := List.mem_map.1 hx
        split
        · exact k2
        · exact k1 d hd
       refine ⟨putC_ris h.ris _, by show (putC _ _).length ≤ 48; rw [putC_length]; exact h.len, hm _ h.fl (by rw [merge_f]; exact h.fl c hc), hm _ h.id (h.id c hc), hm _ h.ver ?_, hm _ h.lab ?_, h.next, h.dlen, h.dd⟩
       · have := h.ver c hc
         unfold Cd.merge
         dsimp only
         split <;> omega
       · unfold Cd.merge
         dsimp only
         split
         · exact hp
         · exact h.lab c hc
theorem ShOk.drop {s : ShS} (h : ShOk s) (id q : Int) : ShOk (s.drop id q).1 := by
 unfold ShS.drop
 split
 · exact h
 · split
   · exact h
   · rename_i h2 h3
     have hl := get_ok (Decidable.not_not.1 h2)
     generalize (s.get id).1 = c at *
     obtain ⟨hc, hid⟩ := look_mem hl
     have hs : ∀ x ∈ dropC s.m id, x ∈ s.m := fun x hx => (List.mem_filter.1 hx).1
     have hq : 0 ≤ q ∧ q ≤ 1099511627776 := by
      unfold ShS.seqBad at h3
      simp only [Bool.or_eq_true, decide_eq_true_eq, not_or] at h3
      omega
     have h4 := h.ver c hc
     have h5 := h.id c hc
     have h6 := h.next
     refine ⟨dropC_ris h.ris _, Nat.le_trans (dropC_length _ _) h.len, fun x hx => h.fl x (hs x hx), fun x hx => h.id x (hs x hx), fun x hx => h.ver x (hs x hx), fun x hx => h.lab x (hs x hx), h.next, ?_, ?_⟩
     · show (lastD _).length ≤ 40
       have := h.dlen
       unfold lastD
       split
       · simp; omega
       · omega
     · have k : ∀ d ∈ s.dead ++ [⟨id, c.ver, q⟩], 0 ≤ d.seq ∧ d.seq ≤ 1099511627776 ∧ 0 ≤ d.ver ∧ d.ver ≤ 1099511627776 ∧ 1 ≤ d.id ∧ d.id < 1073741824 := fun d hd => by
        rcases List.mem_append.1 hd with hd | hd
        · exact h.dd d hd
        · simp at hd
          subst hd
          dsimp only
          omega
       intro d hd
       refine k d ?_
       have hd' : d ∈ lastD (s.dead ++ [⟨id, c.ver, q⟩]) := hd
       unfold lastD at hd'
       split at hd'
       · exact List.mem_of_mem_drop hd'
       · exact hd'
theorem ShOk.trim {s : ShS} (h : ShOk s) (q : Int) : ShOk (s.trim q) :=
 ⟨h.ris, h.len, h.fl, h.id, h.ver, h.lab, h.next, Nat.le_trans (List.length_filter_le _ _) h.dlen, fun d hd => h.dd d (List.mem_filter.1 hd).1⟩
theorem add_yes {s : ShS} {p : Pt} (h : (s.add p).2.2 = 0) : s.add p = (⟨s.next + 1, s.m ++ [p.fresh s.next], s.dead⟩, p.fresh s.next, 0) := by
 unfold ShS.add at *
 split at h
 · exact absurd h (by assumption)
 · split at h
   · cases h
   · rename_i h1 h2
     rw [if_neg h1, if_neg h2]
theorem write_yes {s : ShS} {id : Int} {p : Pt} (h : (s.write id p).2.2 = 0) : (s.get id).2 = 0 ∧ (s.get id).1.id = id ∧ (s.write id p).2.1 = (s.get id).1.merge p ∧ (s.get id).1.ver < 1099511627776 ∧ ((s.get id).1.merge p).ver = (s.get id).1.ver + 1 := by
 unfold ShS.write at *
 split at h
 · exact absurd h (by assumption)
 · split at h
   · exact absurd h (by assumption)
   · split at h
     · cases h
     · rename_i h1 h2 h3
       have h2' := Decidable.not_not.1 h2
       have hl := get_ok h2'
       have h3' : (s.get id).1.ver < 1099511627776 := by omega
       refine ⟨h2', (look_mem hl).2, by rw [if_neg h1, if_neg h2, if_neg h3], h3', ?_⟩
       unfold Cd.merge
       dsimp only
       rw [if_pos h3']
end Go.Ofp
end
section
namespace Go.Ofp
theorem place_get (l : List Int) (g : Int) (h : Ids.Up l) (j : Nat) (hj : j < l.length) (e : l[j] = g) : Ids.place l g = j ∧ Ids.has l g = true := by
 refine ⟨?_, (Ids.has_iff _ _).2 (e ▸ List.getElem_mem hj)⟩
 have h1 := Ids.lt_place l g h j hj
 have h2 : ¬ j < Ids.place l g := by rw [← h1]; omega
 rcases Nat.eq_zero_or_pos j with rfl | hp
 · omega
 · have h3 := (List.pairwise_iff_getElem.1 h) (j - 1) j (by omega) hj (by omega)
   have h4 := (Ids.lt_place l g h (j - 1) (by omega)).1 (by omega)
   omega
def lastNo (ks : List Key) : Int := (knos ks).getLastD (-1)
theorem chkKF_snoc (ks : List Key) (no : Int) (mem : List Int) : ∀ last : Int, chkKF last (ks ++ [(no, mem)]) = (chkKF last ks && (decide ((knos ks).getLastD last < no) && (decide (no < 16) && Ids.chk mem))) := by
 induction ks with
 | nil => intro last; simp [chkKF, knos]
 | cons y l ih =>
  intro last
  simp only [List.cons_append, chkKF, ih, knos, List.map_cons, List.getLastD_cons, Bool.and_assoc]
  rfl
theorem chkK_snoc (ks : List Key) (no : Int) (mem : List Int) : chkK (ks ++ [(no, mem)]) = (chkK ks && (decide (lastNo ks < no) && (decide (no < 16) && Ids.chk mem))) := chkKF_snoc ks no mem (-1)
theorem chkK_take (ks : List Key) (k : Nat) (h : chkK ks = true) : chkK (ks.take k) = true := by
 rw [chkK_iff] at h ⊢
 refine ⟨?_, fun x hx => h.2.1 x (List.mem_of_mem_take hx), fun x hx => h.2.2 x (List.mem_of_mem_take hx)⟩
 unfold knos
 rw [List.map_take]
 exact h.1.sublist (List.take_sublist _ _)
theorem lastNo_take (ks : List Key) (i : Nat) (h : i < ks.length) : lastNo (ks.take (i + 1)) = (ks[i]).1 := by
 unfold lastNo knos
 rw [List.take_succ_eq_append_getElem h, List.map_append, List.getLastD_eq_getLast?, List.map_cons, List.map_nil, List.getLast?_concat]
 rfl
theorem lastNo_ge (ks : List Key) (h : chkK ks = true) : -1 ≤ lastNo ks := by
 rw [chkK_iff] at h
 unfold lastNo
 by_cases hl : knos ks = []
 · rw [hl]; simp
 · rw [List.getLastD_eq_getLast?, List.getLast?_eq_some_getLast hl]
   have hm := List.getLast_mem hl
   obtain ⟨k, hk, e⟩ := List.mem_map.1 hm
   have := (h.2.1 k hk).1
   simp only [Option.getD_some, ← e]
   omega
end Go.Ofp
namespace Go.Proofs.YtneolmnpebiifaaGreatDoor
open Go.RowKit Go.Ofp
set_option maxHeartbeats 4000000
def plR : Bool → Nat → Int
 | true, p => p
 | false, _ => -1
theorem rgplace_any (a : Option Addr) (gs : List Gr) (n cap : Nat) (g : Int) (w : World) (hD : Deep w a n cap gs) (hm : n ≤ 100000) (hu : Ids.Up (nos gs)) :
 Calls Tryz.prog 159 #[.slice a n cap, .int .i64 g] w fun e w' => e = .returned (.int .i64 (plR (Ids.has (nos gs) g) (Ids.place (nos gs) g))) ∧ w = w' := by
 have hlen := Lib.hid hD.len
 have hget := Lib.hid hD.get
 have hpg := Lib.hid (fun j (hj : j < gs.length) (e : gs[j].no = g) => place_get (nos gs) g hu j (by simpa [nos] using hj) (by simpa [nos] using e))
 have hno := Lib.hid (fun (h : ∀ j (hj : j < gs.length), gs[j].no ≠ g) => show Ids.has (nos gs) g = false by
  cases e : Ids.has (nos gs) g with
  | false => rfl
  | true =>
   rw [Ids.has_iff] at e
   obtain ⟨x, hx, e2⟩ := List.mem_map.1 e
   obtain ⟨j, hj, rfl⟩ := List.getElem_of_mem hx
   exact absurd e2 (h j hj))
 clear hD hu
 go_enter Tryz.func159, Tryz.ntmps159
 go_wp2_with fail
 go_loopg [5] n (fun gk vx wr => ∃ j : Nat, j + gk = n ∧ vx = .int .i64 j ∧ Hid (∀ i (hi : i < gs.length), i < j → gs[i].no ≠ g) ∧ w = wr)
 case atStart => exact ⟨0, Nat.zero_add _, rfl, Lib.hid (by intro i hi h; omega), rfl⟩
 case round =>
  obtain ⟨j, hj, rfl, hr, rfl⟩ := hrel
  by_cases hlt : j < n
  · have hjg : j < gs.length := by rw [hlen.out]; exact hlt
    obtain ⟨b, off, rfl, c0, -⟩ := hget.out j hjg
    have hp := hpg.out j hjg
    have hstep : gs[j].no ≠ g → ∀ i (hi : i < gs.length), i < j + 1 → gs[i].no ≠ g := by
     intro h i hi hij
     by_cases e : i = j
     · subst e; exact h
     · exact hr.out i hi (by omega)
    generalize gs[j].no = x at c0 hp hstep
    by_cases hx : x = g
    · obtain ⟨h1, h2⟩ := hp hx
      have e : (plR (Ids.has (nos gs) g) (Ids.place (nos gs) g)) = (j : Int) := by rw [h2, h1]; rfl
      replace e := Lib.hid e
      clear hp hstep h1 h2
      subst hx
      go_wp2_with fail
      go_ret
      exact ⟨by rw [e.out]; rfl, rfl⟩
    · have hxb : (x == g) = false := by rw [beq_eq_false_iff_ne]; exact hx
      replace hstep := Lib.hid (hstep hx)
      clear hp
      replace hx := Lib.hid hx
      go_wp2_with fail
      go_roundg (n - (j + 1))
      case measure => omega
      case rel => exact ⟨j + 1, by omega, by go_num, hstep, rfl⟩
  · obtain rfl : j = n := by omega
    have h2 := hno.out (fun i hi => hr.out i hi (by rw [← hlen.out]; exact hi))
    have e := Lib.hid (show (plR (Ids.has (nos gs) g) (Ids.place (nos gs) g)) = -1 by rw [h2]; rfl)
    clear h2
    go_wp2_with fail
    go_ret
    exact ⟨by rw [e.out]; rfl, rfl⟩
def findR (has : Bool) (p : Nat) (g id : Int) : Int × Int := if g < 0 ∨ 16 ≤ g ∨ id < 1 ∨ 1073741824 ≤ id then (0, 1) else if has then ((p : Int), 0) else (0, 6)
theorem rfind_any (a : Option Addr) (gs : List Gr) (n cap : Nat) (g id : Int) (w : World) (hD : Deep w a n cap gs) (hm : n ≤ 100000) (hu : Ids.Up (nos gs)) :
 Calls Tryz.prog 160 #[.slice a n cap, .int .i64 g, .int .i64 id] w fun e w' => e = .returned (.tuple #[.int .i64 (findR (Ids.has (nos gs) g) (Ids.place (nos gs) g) g id).1, .int .i64 (findR (Ids.has (nos gs) g) (Ids.place (nos gs) g) g id).2]) ∧ w = w' := by
 have cP := rgplace_any a gs n cap g w hD hm hu
 have hpl := place_le (nos gs) g
 generalize Ids.has (nos gs) g = hb at cP ⊢
 generalize Ids.place (nos gs) g = p at cP hpl ⊢
 unfold findR
 clear hD hu hpl
 by_cases hbad : g < 0 ∨ 16 ≤ g ∨ id < 1 ∨ 1073741824 ≤ id
 · rw [if_pos hbad]
   have key : g < 0 ∨ (decide (g < 0) = false ∧ 16 ≤ g) ∨ (decide (g < 0) = false ∧ decide (16 ≤ g) = false ∧ id < 1) ∨ (decide (g < 0) = false ∧ decide (16 ≤ g) = false ∧ decide (id < 1) = false ∧ 1073741824 ≤ id) := by
    by_cases k1 : g < 0
    · exact .inl k1
    · by_cases k2 : 16 ≤ g
      · exact .inr (.inl ⟨decide_eq_false k1, k2⟩)
      · by_cases k3 : id < 1
        · exact .inr (.inr (.inl ⟨decide_eq_false k1, decide_eq_false k2, k3⟩))
        · exact .inr (.inr (.inr ⟨decide_eq_false k1, decide_eq_false k2, decide_eq_false k3, by omega⟩))
   clear hbad cP
   rcases key with k1 | ⟨k1, k2⟩ | ⟨k1, k2, k3⟩ | ⟨k1, k2, k3, k4⟩
   all_goals
    go_enter Tryz.func160, Tryz.ntmps160
    go_wp2_with fail
    go_ret2
    exact ⟨rfl, rfl⟩
 · rw [if_neg hbad]
   have d1 : decide (g < 0) = false := decide_eq_false (by omega)
   have d2 : decide (16 ≤ g) = false := decide_eq_false (by omega)
   have d3 : decide (id < 1) = false := decide_eq_false (by omega)
   have d4 : decide (1073741824 ≤ id) = false := decide_eq_false (by omega)
   clear hbad
   cases hb with
   | true =>
    rw [show plR true p = (p : Int) from rfl] at cP
    replace cP := Lib.hid cP
    have h0 : (0 : Int) ≤ (p : Int) := by omega
    go_enter Tryz.func160, Tryz.ntmps160
    go_wp2_with (go_at_call 159; (with_reducible refine cP.out.mono ?_); rintro _ _ ⟨rfl, rfl⟩)
    go_ret2
    exact ⟨rfl, rfl⟩
   | false =>
    rw [show plR false p = -1 from rfl] at cP
    replace cP := Lib.hid cP
    go_enter Tryz.func160, Tryz.ntmps160
    go_wp2_with (go_at_call 159; (with_reducible refine cP.out.mono ?_); rintro _ _ ⟨rfl, rfl⟩)
    go_ret2
    exact ⟨rfl, rfl⟩
theorem rgof_any (a : Option Addr) (gs : List Gr) (n cap : Nat) (id : Int) (w : World) (hD : Deep w a n cap gs) (hm : n ≤ 100000) (hv : ∀ g ∈ gs, 0 ≤ g.no ∧ g.no < 16) :
 Calls Tryz.prog 19 #[.slice a n cap, .int .i64 id] w fun e w' => e = .returned (.int .u32 (ofK (keys gs) id : Nat)) ∧ w = w' := by
 have hlen := Lib.hid hD.len
 have hget := Lib.hid hD.get
 have hM := Lib.hid (fun j (hj : j < gs.length) => hD.mem gs[j] (List.getElem_mem hj))
 have hvv := Lib.hid (fun j (hj : j < gs.length) => hv gs[j] (List.getElem_mem hj))
 clear hD hv
 go_enter Tryz.func19, Tryz.ntmps19
 go_wp2_with fail
 go_loopg [5, 6] n (fun gk vl vx wr => ∃ j s : Nat, j + gk = n ∧ vx = .int .i64 j ∧ vl = .int .u32 s ∧ s < 4294967296 ∧ Hid (ofK (keys gs) id = ofFrom id s ((keys gs).drop j)) ∧ w = wr)
 case atStart => exact ⟨0, 0, Nat.zero_add _, rfl, rfl, by omega, Lib.hid rfl, rfl⟩
 case round =>
  obtain ⟨j, s, hj, rfl, rfl, hs32, hr, rfl⟩ := hrel
  by_cases hlt : j < n
  · have hjg : j < gs.length := by rw [hlen.out]; exact hlt
    obtain ⟨b, off, rfl, c0, c1⟩ := hget.out j hjg
    have hMj := hM.out j hjg
    have hvj := hvv.out j hjg
    have hr2 := hr.out
    rw [gkeys_drop_cons hjg, Gr.key, ofFrom_cons] at hr2
    generalize gs[j] = x at c0 c1 hMj hr2 hvj
    have cH := rhas_any x.a x.mem x.mem.length x.c id w hMj.sl rfl (Nat.le_trans hMj.le hMj.cm)
    obtain ⟨xn, xa, xc, xm⟩ := x
    simp only at *
    obtain ⟨q, rfl⟩ := Int.eq_ofNat_of_zero_le hvj.1
    have hq : q < 32 := by omega
    rw [Int.toNat_natCast] at hr2
    have cW := Lib.hid (fun W : World => rwith_any s q W hq hs32)
    have hor := or_lt s q hs32 hq
    generalize hml3 : xm.length = m3 at *
    clear hml3 hMj hvj
    generalize Ids.has xm id = cx at cH hr2
    generalize s ||| 2 ^ q = s2 at *
    replace cH := Lib.hid cH
    cases cx with
    | false =>
     replace hr2 := Lib.hid hr2
     go_wp2_with (go_at_call 52; (with_reducible refine cH.out.mono ?_); rintro _ _ ⟨rfl, rfl⟩)
     go_roundg (n - (j + 1))
     case measure => omega
     case rel => exact ⟨j + 1, s, by omega, by go_num, rfl, hs32, Lib.hid (by rw [hr2.out]; rfl), rfl⟩
    | true =>
     replace hr2 := Lib.hid hr2
     go_wp2_with (first | (go_at_call 52; (with_reducible refine cH.out.mono ?_); rintro _ _ ⟨rfl, rfl⟩) | (go_at_call 53; (with_reducible refine (cW.out _).mono ?_); rintro _ _ ⟨rfl, rfl⟩))
     go_roundg (n - (j + 1))
     case measure => omega
     case rel => exact ⟨j + 1, s2, by omega, by go_num, rfl, hor, Lib.hid (by rw [hr2.out]; rfl), rfl⟩
  · obtain rfl : j = n := by omega
    have hr2 := hr.out
    rw [List.drop_of_length_le (by simp [keys, hlen.out])] at hr2
    replace hr2 := Lib.hid hr2
    go_wp2_with fail
    go_ret
    exact ⟨by rw [hr2.out]; rfl, rfl⟩
def bigK (ks : List Key) : Bool := decide (40 < ks.length) || ks.any fun k => decide (100 < k.2.length)
theorem large_any (a : Option Addr) (gs : List Gr) (n cap : Nat) (w : World) (hD : Deep w a n cap gs) :
 Calls Tryz.prog 58 #[.slice a n cap] w fun e w' => e = .returned (.bool (bigK (keys gs))) ∧ w = w' := by
 have hlen := hD.len
 have hkl : (keys gs).length = n := by simp [keys, hlen]
 have hnm : n ≤ 9223372036854775807 := by have := hD.le; have := hD.cm; unfold maxLen at this; omega
 unfold bigK
 rw [hkl]
 by_cases hbig : 40 < n
 · rw [decide_eq_true hbig, Bool.true_or]
   clear hD hlen hkl
   go_enter Tryz.func58, Tryz.ntmps58
   go_wp2_with fail
   go_ret
   exact ⟨rfl, rfl⟩
 · rw [decide_eq_false hbig, Bool.false_or]
   have hb2 : n ≤ 40 := by omega
   have hget := Lib.hid hD.get
   have hM := Lib.hid (fun j (hj : j < gs.length) => hD.mem gs[j] (List.getElem_mem hj))
   replace hlen := Lib.hid hlen
   clear hD hbig hkl
   go_enter Tryz.func58, Tryz.ntmps58
   go_wp2_with fail
   go_loopg [3] n (fun gk vx wr => ∃ j : Nat, j + gk = n ∧ vx = .int .i64 j ∧ Hid ((keys gs).any (fun k => decide (100 < k.2.length)) = ((keys gs).drop j).any (fun k => decide (100 < k.2.length))) ∧ w = wr)
   case atStart => exact ⟨0, Nat.zero_add _, rfl, Lib.hid rfl, rfl⟩
   case round =>
    obtain ⟨j, hj, rfl, hr, rfl⟩ := hrel
    by_cases hlt : j < n
    · have hjg : j < gs.length := by rw [hlen.out]; exact hlt
      obtain ⟨b, off, rfl, c0, c1⟩ := hget.out j hjg
      have hMj := hM.out j hjg
      have hr2 := hr.out
      rw [gkeys_drop_cons hjg, List.any_cons] at hr2
      have hml : gs[j].mem.length ≤ 9223372036854775807 := by have := hMj.le; have := hMj.cm; unfold maxLen at this; omega
      have hkey : (gs[j].key).2.length = gs[j].mem.length := rfl
      rw [hkey] at hr2
      generalize gs[j] = x at c0 c1 hMj hr2 hml
      obtain ⟨xn, xa, xc, xm⟩ := x
      simp only at c0 c1 hr2 hml
      generalize xm.length = m3 at c1 hr2 hml
      clear hMj hkey
      by_cases h1 : 100 < m3
      · rw [decide_eq_true h1, Bool.true_or] at hr2
        replace hr2 := Lib.hid hr2
        go_wp2_with fail
        go_ret
        exact ⟨by rw [hr2.out]; rfl, rfl⟩
      · rw [decide_eq_false h1, Bool.false_or] at hr2
        replace hr2 := Lib.hid hr2
        have h2 : m3 ≤ 100 := by omega
        clear h1
        go_wp2_with fail
        go_roundg (n - (j + 1))
        case measure => omega
        case rel => exact ⟨j + 1, by omega, by go_num, hr2, rfl⟩
    · obtain rfl : j = n := by omega
      have hr2 := hr.out
      rw [List.drop_of_length_le (by simp [keys, hlen.out])] at hr2
      replace hr2 := Lib.hid hr2
      go_wp2_with fail
      go_ret
      exact ⟨by rw [hr2.out]; rfl, rfl⟩
theorem rgsame_any (a b : Option Addr) (gs hs : List Gr) (n k cap cap2 : Nat) (w : World) (hD : Deep w a n cap gs) (hE : Deep w b k cap2 hs) :
 Calls Tryz.prog 47 #[.slice a n cap, .slice b k cap2] w fun e w' => e = .returned (.bool (decide (keys gs = keys hs))) ∧ Below w.heap.size w w' := by
 have hS := St.start w
 have hm : n ≤ 9223372036854775807 := by have := hD.le; have := hD.cm; unfold maxLen at this; omega
 have hm2 : k ≤ 9223372036854775807 := by have := hE.le; have := hE.cm; unfold maxLen at this; omega
 by_cases hlen : n = k
 · subst hlen
   have hl1 := Lib.hid hD.len
   have hl2 := Lib.hid hE.len
   replace hD := Lib.hid hD
   replace hE := Lib.hid hE
   go_enter Tryz.func47, Tryz.ntmps47
   go_wp2_with fail
   go_loopg [5] n (fun gk vi wr => ∃ j : Nat, j + gk = n ∧ vi = .int .i64 j ∧ Hid ((keys gs).take j = (keys hs).take j) ∧ St w [] [] wr)
   case atStart => exact ⟨0, Nat.zero_add _, rfl, Lib.hid (by simp), hS⟩
   case round =>
    clear hS
    obtain ⟨j, hj, rfl, hr, hS⟩ := hrel
    by_cases hlt : j < n
    · have hj1 : j < gs.length := by rw [hl1.out]; exact hlt
      have hj2 : j < hs.length := by rw [hl2.out]; exact hlt
      obtain ⟨b1, o1, rfl, c0, c1⟩ := hD.out.get j hj1
      obtain ⟨b2, o2, rfl, d0, d1⟩ := hE.out.get j hj2
      have hMx := hD.out.mem gs[j] (List.getElem_mem hj1)
      have hMy := hE.out.mem hs[j] (List.getElem_mem hj2)
      have t1 : (keys gs).take (j + 1) = (keys gs).take j ++ [gs[j].key] := by rw [List.take_succ_eq_append_getElem (by simpa [keys] using hj1)]; simp [keys]
      have t2 : (keys hs).take (j + 1) = (keys hs).take j ++ [hs[j].key] := by rw [List.take_succ_eq_append_getElem (by simpa [keys] using hj2)]; simp [keys]
      have t3 : keys gs = keys hs → gs[j].key = hs[j].key := by
       intro e
       have := congrArg (fun l => l[j]?) e
       simpa [keys, hj1, hj2] using this
      generalize gs[j] = x at *
      generalize hs[j] = y at *
      have hsx := Lib.hid (fun W (h : St w [] [] W) => h.sl hMx.sl)
      have hsy := Lib.hid (fun W (h : St w [] [] W) => h.sl hMy.sl)
      have cI := fun W h1 h2 => ints_any x.a y.a x.mem y.mem _ _ x.c y.c W h1 h2 rfl rfl (Nat.le_trans hMx.le hMx.cm) (Nat.le_trans hMy.le hMy.cm)
      have k0 := hS.kold0 c0
      have k1 := hS.kold0 c1
      have k2 := hS.kold0 d0
      have k3 := hS.kold0 d1
      clear c0 c1 d0 d1 hMx hMy
      obtain ⟨xn, xa, xc, xm⟩ := x
      obtain ⟨yn, ya, yc, ym⟩ := y
      simp only [Gr.key] at *
      replace t1 := Lib.hid t1
      replace t2 := Lib.hid t2
      have t4 := Lib.hid (fun e => (Prod.mk.injEq _ _ _ _).mp (t3 e))
      clear t3
      generalize xm.length = l1 at *
      generalize ym.length = l2 at *
      by_cases h1 : xn = yn
      · subst h1
        by_cases h2 : xm = ym
        · subst h2
          rw [decide_eq_true rfl] at cI
          replace cI := Lib.hid cI
          have hbb : (xn != xn) = false := by simp
          go_wp2_with fail
          refine mixs_begin (by kernel_rfl) hS ?_
          clear hS
          intro w2 hS
          refine tk 0 ?_
          refine tk 1 ?_
          refine tk 2 ?_
          refine tk 3 ?_
          refine tk 4 ?_
          refine tk 5 ?_
          refine tk 6 ?_
          refine tk 7 ?_
          refine tk 8 ?_
          refine tk 9 ?_
          refine tk 10 ?_
          refine tk 11 ?_
          refine tk 12 ?_
          refine tk 13 ?_
          refine tk 14 ?_
          refine tk 15 ?_
          refine tk 16 ?_
          refine tk 17 ?_
          refine tk 18 ?_
          refine tk 19 ?_
          refine tk 20 ?_
          refine tk 21 ?_
          refine mixs_one 22 (by kernel_rfl) rfl (fun K hK => ?_)
          go_simp
          ( go_at_call 81; (with_reducible refine (cI.out _ (hsx.out _ hS.empty) (hsy.out _ hS.empty)).mono ?_); rintro _ w3 ⟨rfl, hb3⟩; have hS1 := hS.keepB hb3; clear hb3 hS; have hS := hS1; clear hS1 )
          try clear hC
          refine cl hK (fun hC => ?_)
          clear hK K
          refine tk 23 ?_
          refine tk 24 ?_
          refine wpAnyH_done (by kernel_rfl) ?_ _
          clear k0 k1 k2 k3
          go_wp2_with fail
          go_roundg (n - (j + 1))
          case measure => omega
          case rel => exact ⟨j + 1, by omega, by go_num, Lib.hid (by rw [t1.out, t2.out, hr.out]), hS⟩
        · rw [decide_eq_false h2] at cI
          replace cI := Lib.hid cI
          replace h2 := Lib.hid h2
          have hbb : (xn != xn) = false := by simp
          go_wp2_with fail
          refine mixs_begin (by kernel_rfl) hS ?_
          clear hS
          intro w2 hS
          refine tk 0 ?_
          refine tk 1 ?_
          refine tk 2 ?_
          refine tk 3 ?_
          refine tk 4 ?_
          refine tk 5 ?_
          refine tk 6 ?_
          refine tk 7 ?_
          refine tk 8 ?_
          refine tk 9 ?_
          refine tk 10 ?_
          refine tk 11 ?_
          refine tk 12 ?_
          refine tk 13 ?_
          refine tk 14 ?_
          refine tk 15 ?_
          refine tk 16 ?_
          refine tk 17 ?_
          refine tk 18 ?_
          refine tk 19 ?_
          refine tk 20 ?_
          refine tk 21 ?_
          refine mixs_one 22 (by kernel_rfl) rfl (fun K hK => ?_)
          go_simp
          ( go_at_call 81; (with_reducible refine (cI.out _ (hsx.out _ hS.empty) (hsy.out _ hS.empty)).mono ?_); rintro _ w3 ⟨rfl, hb3⟩; have hS1 := hS.keepB hb3; clear hb3 hS; have hS := hS1; clear hS1 )
          try clear hC
          refine cl hK (fun hC => ?_)
          clear hK K
          refine tk 23 ?_
          refine tk 24 ?_
          refine wpAnyH_done (by kernel_rfl) ?_ _
          clear k0 k1 k2 k3
          go_wp2_with fail
          go_ret
          have : decide (keys gs = keys hs) = false := by rw [decide_eq_false_iff_not]; intro e; exact h2.out (t4.out e).2
          exact ⟨by rw [this]; rfl, hS.below⟩
      · have hbb : (xn != yn) = true := by simpa using h1
        clear cI
        replace h1 := Lib.hid h1
        go_wp2_with fail
        refine mixs_begin (by kernel_rfl) hS ?_
        clear hS
        intro w2 hS
        refine tk 0 ?_
        refine tk 1 ?_
        refine tk 2 ?_
        refine tk 3 ?_
        refine tk 4 ?_
        refine tk 5 ?_
        refine tk 6 ?_
        refine tk 7 ?_
        refine tk 8 ?_
        refine tk 9 ?_
        refine tk 10 ?_
        refine tk 11 ?_
        refine sk 12 ?_
        refine sk 13 ?_
        refine sk 14 ?_
        refine sk 15 ?_
        refine sk 16 ?_
        refine sk 17 ?_
        refine sk 18 ?_
        refine sk 19 ?_
        refine sk 20 ?_
        refine sk 21 ?_
        refine sk 22 ?_
        refine sk 23 ?_
        refine tk 24 ?_
        refine wpAnyH_done (by kernel_rfl) ?_ _
        clear k0 k1 k2 k3
        go_wp2_with fail
        go_ret
        have : decide (keys gs = keys hs) = false := by rw [decide_eq_false_iff_not]; intro e; exact h1.out (t4.out e).1
        exact ⟨by rw [this]; rfl, hS.below⟩
    · obtain rfl : j = n := by omega
      go_wp2_with fail
      go_ret
      have e1 := hr.out
      rw [List.take_of_length_le (by simp [keys, hl1.out]), List.take_of_length_le (by simp [keys, hl2.out])] at e1
      exact ⟨by rw [decide_eq_true e1]; rfl, hS.below⟩
 · have e : decide (keys gs = keys hs) = false := by
    rw [decide_eq_false_iff_not]; intro e
    have := congrArg List.length e
    simp only [keys, List.length_map] at this
    rw [hD.len, hE.len] at this
    exact hlen this
   have hb : ((n : Int) != (k : Int)) = true := by simp; omega
   rw [e]
   clear hlen hD hE e
   go_enter Tryz.func47, Tryz.ntmps47
   go_wp2_with fail
   go_ret
   exact ⟨rfl, hS.below⟩
end Go.Proofs.YtneolmnpebiifaaGreatDoor
end
