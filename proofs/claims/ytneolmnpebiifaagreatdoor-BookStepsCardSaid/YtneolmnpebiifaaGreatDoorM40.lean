import Derived.Test.YtneolmnpebiifaaGreatDoorM39
set_option linter.unusedVariables false
set_option linter.unusedSimpArgs false
set_option maxRecDepth 100000
section
namespace Go.Ofp
def cardsGo (next : Int) : Int → List Cd → Bool
 | _, [] => true
 | last, c :: r => c.ok && (decide (last < c.id) && (decide (c.id < next) && cardsGo next c.id r))
def lastId (l : List Cd) : Int := (l.getLast?.map Cd.id).getD 0
def lastSq (l : List Dd) : Int := (l.getLast?.map Dd.seq).getD 0
theorem lastId_snoc (l : List Cd) (c : Cd) : lastId (l ++ [c]) = c.id := by simp [lastId]
theorem lastSq_snoc (l : List Dd) (c : Dd) : lastSq (l ++ [c]) = c.seq := by simp [lastSq]
theorem cardsGo_snoc (next : Int) (c : Cd) : ∀ (l : List Cd) (last : Int), cardsGo next last (l ++ [c]) = (cardsGo next last l && (c.ok && (decide ((l.getLast?.map Cd.id).getD last < c.id) && decide (c.id < next))))
 | [], last => by
  simp [cardsGo]
  rfl
 | d :: r, last => by
  simp only [List.cons_append, cardsGo, cardsGo_snoc next c r]
  have : ((d :: r).getLast?.map Cd.id).getD last = (r.getLast?.map Cd.id).getD d.id := by
   cases r with
   | nil => rfl
   | cons x y => simp [List.getLast?_cons]
  rw [this]
  simp only [Bool.and_assoc]
theorem cardsGo_take {next : Int} {l : List Cd} (h : cardsGo next 0 l = true) (k : Nat) : cardsGo next 0 (l.take k) = true := by
 have : ∀ (l : List Cd) (last : Int) (k : Nat), cardsGo next last l = true → cardsGo next last (l.take k) = true := by
  intro l
  induction l with
  | nil => intro last k _; simp [cardsGo]
  | cons c r ih =>
   intro last k h
   cases k with
   | zero => rfl
   | succ k =>
    simp only [cardsGo, Bool.and_eq_true, List.take_succ_cons] at h ⊢
    exact ⟨h.1, h.2.1, h.2.2.1, ih _ _ h.2.2.2⟩
 exact this l 0 k h
theorem cardsGo_iff (next : Int) : ∀ (l : List Cd) (last : Int), cardsGo next last l = true ↔ RisC l ∧ ∀ c ∈ l, c.ok = true ∧ last < c.id ∧ c.id < next
 | [], last => by simp [cardsGo, RisC]
 | c :: r, last => by
  simp only [cardsGo, Bool.and_eq_true, decide_eq_true_eq, cardsGo_iff next r, List.mem_cons, forall_eq_or_imp]
  unfold RisC
  rw [List.pairwise_cons]
  constructor
  · rintro ⟨h1, h2, h3, h4, h5⟩
    exact ⟨⟨fun d hd => (h5 d hd).2.1, h4⟩, ⟨h1, h2, h3⟩, fun d hd => ⟨(h5 d hd).1, by have := (h5 d hd).2.1; omega, (h5 d hd).2.2⟩⟩
  · rintro ⟨⟨h1, h2⟩, ⟨h3, h4, h5⟩, h6⟩
    exact ⟨h3, h4, h5, h2, fun d hd => ⟨(h6 d hd).1, h1 d hd, (h6 d hd).2.2⟩⟩
def deadAt (next : Int) (m : List Cd) (pre : List Dd) (d : Dd) : Bool :=
 decide (1 ≤ d.id) && (decide (d.id < next) && (decide (1 ≤ d.ver) && (decide (d.ver ≤ 1099511627776) && (decide (lastSq pre ≤ d.seq) && (decide (d.seq ≤ 1099511627776) && (!(lookC m d.id).isSome && !pre.any (fun x => decide (x.id = d.id))))))))
def deadGo (next : Int) (m : List Cd) : List Dd → List Dd → Bool
 | _, [] => true
 | pre, d :: r => deadAt next m pre d && deadGo next m (pre ++ [d]) r
theorem deadGo_snoc (next : Int) (m : List Cd) (d : Dd) : ∀ (l pre : List Dd), deadGo next m pre (l ++ [d]) = (deadGo next m pre l && deadAt next m (pre ++ l) d)
 | [], pre => by simp [deadGo]
 | x :: r, pre => by
  simp only [List.cons_append, deadGo, deadGo_snoc next m d r, Bool.and_assoc]
  rw [List.append_assoc]
  rfl
theorem deadGo_take {next : Int} {m : List Cd} : ∀ (l pre : List Dd) (k : Nat), deadGo next m pre l = true → deadGo next m pre (l.take k) = true
 | [], _, _, _ => by simp [deadGo]
 | d :: r, pre, 0, _ => rfl
 | d :: r, pre, k + 1, h => by
  simp only [deadGo, Bool.and_eq_true, List.take_succ_cons] at h ⊢
  exact ⟨h.1, deadGo_take r _ k h.2⟩
def ShS.right (s : ShS) : Bool := decide (1 ≤ s.next) && (decide (s.next ≤ 1073741824) && (decide (s.m.length ≤ 48) && (decide (s.dead.length ≤ 40) && (cardsGo s.next 0 s.m && deadGo s.next s.m [] s.dead))))
structure DeadOk (next : Int) (m : List Cd) (l : List Dd) : Prop where
 each : ∀ d ∈ l, 1 ≤ d.id ∧ d.id < next ∧ 1 ≤ d.ver ∧ d.ver ≤ 1099511627776 ∧ 0 ≤ d.seq ∧ d.seq ≤ 1099511627776 ∧ lookC m d.id = none
 ids : l.Pairwise fun a b => a.id ≠ b.id
 seqs : l.Pairwise fun a b => a.seq ≤ b.seq
theorem last_le {l : List Dd} (h : l.Pairwise fun a b => a.seq ≤ b.seq) (h0 : ∀ d ∈ l, 0 ≤ d.seq) (q : Int) : lastSq l ≤ q ↔ (0 ≤ q ∧ ∀ d ∈ l, d.seq ≤ q) ∨ (l = [] ∧ 0 ≤ q) := by
 rcases List.eq_nil_or_concat l with rfl | ⟨A, x, rfl⟩
 · simp [lastSq]
 · rw [List.concat_eq_append] at h h0 ⊢
   rw [lastSq_snoc]
   rw [List.pairwise_append] at h
   have h3 := h0 x (by simp)
   constructor
   · intro hq
     left
     refine ⟨by omega, fun d hd => ?_⟩
     rcases List.mem_append.1 hd with hd | hd
     · have := h.2.2 d hd x (by simp); omega
     · simp at hd; subst hd; exact hq
   · rintro (⟨-, hq⟩ | ⟨h1, -⟩)
     · exact hq x (by simp)
     · simp at h1
theorem deadAt_iff {next : Int} {m : List Cd} {pre : List Dd} {d : Dd} (h : DeadOk next m pre) : deadAt next m pre d = true ↔ 1 ≤ d.id ∧ d.id < next ∧ 1 ≤ d.ver ∧ d.ver ≤ 1099511627776 ∧ 0 ≤ d.seq ∧ d.seq ≤ 1099511627776 ∧ lookC m d.id = none ∧ (∀ x ∈ pre, x.id ≠ d.id) ∧ ∀ x ∈ pre, x.seq ≤ d.seq := by
 have hl := last_le h.seqs (fun d hd => (h.each d hd).2.2.2.2.1) d.seq
 unfold deadAt
 simp only [Bool.and_eq_true, decide_eq_true_eq, Bool.not_eq_true', Option.isSome_eq_false_iff, Option.isNone_iff_eq_none, List.any_eq_false, decide_eq_false_iff_not]
 rw [hl]
 constructor
 · rintro ⟨h1, h2, h3, h4, h5, h6, h7, h8⟩
   rcases h5 with ⟨h5, h9⟩ | ⟨rfl, h5⟩
   · exact ⟨h1, h2, h3, h4, h5, h6, h7, fun x hx => by simpa using h8 x hx, h9⟩
   · exact ⟨h1, h2, h3, h4, h5, h6, h7, by simp, by simp⟩
 · rintro ⟨h1, h2, h3, h4, h5, h6, h7, h8, h9⟩
   exact ⟨h1, h2, h3, h4, .inl ⟨h5, h9⟩, h6, h7, fun x hx => by simpa using h8 x hx⟩
theorem DeadOk.nil (next : Int) (m : List Cd) : DeadOk next m [] := ⟨by simp, List.Pairwise.nil, List.Pairwise.nil⟩
theorem DeadOk.snoc {next : Int} {m : List Cd} {pre : List Dd} {d : Dd} (h : DeadOk next m pre) (hd : deadAt next m pre d = true) : DeadOk next m (pre ++ [d]) := by
 obtain ⟨h1, h2, h3, h4, h5, h6, h7, h8, h9⟩ := (deadAt_iff h).1 hd
 refine ⟨fun x hx => ?_, ?_, ?_⟩
 · rcases List.mem_append.1 hx with hx | hx
   · exact h.each x hx
   · simp at hx; subst hx; exact ⟨h1, h2, h3, h4, h5, h6, h7⟩
 · rw [List.pairwise_append]
   exact ⟨h.ids, by simp, fun a ha b hb => by simp at hb; subst hb; exact h8 a ha⟩
 · rw [List.pairwise_append]
   exact ⟨h.seqs, by simp, fun a ha b hb => by simp at hb; subst hb; exact h9 a ha⟩
theorem deadGo_ok {next : Int} {m : List Cd} : ∀ (l pre : List Dd), DeadOk next m pre → deadGo next m pre l = true → DeadOk next m (pre ++ l)
 | [], pre, h, _ => by rw [List.append_nil]; exact h
 | d :: r, pre, h, hg => by
  simp only [deadGo, Bool.and_eq_true] at hg
  have := deadGo_ok r (pre ++ [d]) (h.snoc hg.1) hg.2
  rwa [List.append_assoc] at this
theorem deadGo_of {next : Int} {m : List Cd} : ∀ (l pre : List Dd), DeadOk next m (pre ++ l) → deadGo next m pre l = true
 | [], _, _ => rfl
 | d :: r, pre, h => by
  simp only [deadGo, Bool.and_eq_true]
  have hp : DeadOk next m pre := ⟨fun x hx => h.each x (by simp [hx]), (List.pairwise_append.1 h.ids).1, (List.pairwise_append.1 h.seqs).1⟩
  obtain ⟨k1, k2, k3, k4, k5, k6, k7⟩ := h.each d (by simp)
  refine ⟨(deadAt_iff hp).2 ⟨k1, k2, k3, k4, k5, k6, k7, fun x hx => (List.pairwise_append.1 h.ids).2.2 x hx d (by simp), fun x hx => (List.pairwise_append.1 h.seqs).2.2 x hx d (by simp)⟩, deadGo_of r (pre ++ [d]) ?_⟩
  rw [List.append_assoc]
  exact h
theorem right_iff (s : ShS) : s.right = true ↔ 1 ≤ s.next ∧ s.next ≤ 1073741824 ∧ s.m.length ≤ 48 ∧ s.dead.length ≤ 40 ∧ cardsGo s.next 0 s.m = true ∧ DeadOk s.next s.m s.dead := by
 unfold ShS.right
 simp only [Bool.and_eq_true, decide_eq_true_eq]
 constructor
 · rintro ⟨h1, h2, h3, h4, h5, h6⟩
   exact ⟨h1, h2, h3, h4, h5, by have := deadGo_ok _ _ (DeadOk.nil _ _) h6; simpa using this⟩
 · rintro ⟨h1, h2, h3, h4, h5, h6⟩
   exact ⟨h1, h2, h3, h4, h5, deadGo_of _ _ (by simpa using h6)⟩
theorem right_ok {s : ShS} (h : s.right = true) (hf : ∀ c ∈ s.m, c.f.length = 8) : ShOk s := by
 obtain ⟨h1, h2, h3, h4, h5, h6⟩ := (right_iff s).1 h
 obtain ⟨k1, k2⟩ := (cardsGo_iff _ _ _).1 h5
 have k3 : ∀ c ∈ s.m, 1 ≤ c.id ∧ c.id < 1073741824 ∧ 1 ≤ c.ver ∧ c.ver ≤ 1099511627776 ∧ c.lab < 65536 := fun c hc => by
  have := (k2 c hc).1
  unfold Cd.ok at this
  rw [Bool.and_eq_true] at this
  exact of_decide_eq_true this.1
 exact ⟨k1, h3, hf, fun c hc => ⟨(k3 c hc).1, (k2 c hc).2.2⟩, fun c hc => by have := k3 c hc; omega, fun c hc => by have := (k3 c hc).2.2.2.2; omega, ⟨h1, h2⟩, h4, fun d hd => by have := h6.each d hd; omega⟩
end Go.Ofp
end
section
namespace Go.Ofp
theorem pt_ok {p : Pt} (h : p.check = 0) : p.mask ≤ 511 ∧ p.lab < 65536 ∧ badF p.mask p.f 8 = false := by
 unfold Pt.check at h
 split at h
 · cases h
 · split at h
   · cases h
   · split at h
     · cases h
     · rename_i h1 h2 h3
       exact ⟨by omega, by omega, by simpa using h3⟩
theorem pt_field {p : Pt} (h : p.check = 0) (hf : p.f.length = 8) (i : Nat) : (p.f.getD i Vl.zero).ok = true := by
 by_cases hi : i < 8
 · have := (pt_ok h).2.2
   unfold badF at this
   have := List.any_eq_false.1 this i (List.mem_range.2 hi)
   unfold badAt at this
   simp only [Bool.or_eq_true, not_or, Bool.not_eq_true', Bool.not_eq_false] at this
   exact this.1
 · rw [List.getD_eq_getElem?_getD, List.getElem?_eq_none (by omega)]
   rfl
theorem putF_ok {f : List Vl} (hf : ∀ i, (f.getD i Vl.zero).ok = true) : ∀ (l : List Nat) (o : List Vl), (∀ v ∈ o, v.ok = true) → ∀ v ∈ putF f o l, v.ok = true
 | [], o, h => h
 | i :: l, o, h => by
  have e : putF f o (i :: l) = putF f (o.set i (f.getD i Vl.zero)) l := rfl
  rw [e]
  refine putF_ok hf l _ fun v hv => ?_
  rcases List.mem_or_eq_of_mem_set hv with hv | rfl
  · exact h v hv
  · exact hf i
theorem cd_parts {c : Cd} : c.ok = true ↔ (1 ≤ c.id ∧ c.id < 1073741824 ∧ 1 ≤ c.ver ∧ c.ver ≤ 1099511627776 ∧ c.lab < 65536) ∧ ∀ v ∈ c.f, v.ok = true := by
 unfold Cd.ok
 rw [Bool.and_eq_true, decide_eq_true_eq, List.all_eq_true]
theorem merge_ok {c : Cd} {p : Pt} (hc : ∀ v ∈ c.f, v.ok = true) (hid : 1 ≤ c.id ∧ c.id < 1073741824) (hv : 0 ≤ c.ver ∧ c.ver < 1099511627776) (hl : c.lab < 65536) (hp : p.check = 0) (hf : p.f.length = 8) : (c.merge p).ok = true := by
 rw [cd_parts]
 refine ⟨?_, putF_ok (pt_field hp hf) _ _ hc⟩
 unfold Cd.merge
 dsimp only
 rw [if_pos hv.2]
 refine ⟨hid.1, hid.2, by omega, by omega, ?_⟩
 split
 · exact (pt_ok hp).2.1
 · exact hl
theorem fresh_ok {id : Int} {p : Pt} (hid : 1 ≤ id ∧ id < 1073741824) (hp : p.check = 0) (hf : p.f.length = 8) : (p.fresh id).ok = true := by
 refine merge_ok (fun v hv => ?_) hid ⟨(by decide : (0 : Int) ≤ 0), (by decide : (0 : Int) < 1099511627776)⟩ (by decide : (0 : Nat) < 65536) hp hf
 have : v ∈ List.replicate 8 Vl.zero := hv
 rw [List.eq_of_mem_replicate this]
 rfl
structure BkFull (b : BkS) : Prop where
 cok : ∀ c ∈ b.sh.m, c.ok = true
 dead : DeadOk b.sh.next b.sh.m b.sh.dead
 dseq : ∀ d ∈ b.sh.dead, d.seq ≤ b.seq
 mem : ∀ k ∈ b.ks, ∀ x ∈ k.2, (lookC b.sh.m x).isSome = true
theorem BkFull.new : BkFull BkS.new := ⟨by simp [BkS.new, ShS.new], DeadOk.nil _ _, by simp [BkS.new, ShS.new], by simp [BkS.new]⟩
def BkS.right (b : BkS) : Bool := b.sh.right && (decide (0 ≤ b.seq) && (decide (b.seq ≤ 1099511627776) && (chkK b.ks && (decide (lastSq b.sh.dead ≤ b.seq) && b.ks.all fun k => k.2.all fun x => (lookC b.sh.m x).isSome))))
theorem BkFull.right {n : Nat} {b : BkS} (h : BkFull b) (ho : BkOk n b) (hs : b.seq ≤ 1099511627776) : b.right = true := by
 have h1 : b.sh.right = true := (right_iff _).2 ⟨ho.sh.next.1, ho.sh.next.2, ho.sh.len, ho.sh.dlen, (cardsGo_iff _ _ _).2 ⟨ho.sh.ris, fun c hc => ⟨h.cok c hc, by have := (ho.sh.id c hc).1; omega, (ho.sh.id c hc).2⟩⟩, h.dead⟩
 have h2 : lastSq b.sh.dead ≤ b.seq := (last_le h.dead.seqs (fun d hd => (h.dead.each d hd).2.2.2.2.1) _).2 (.inl ⟨ho.seq.1, h.dseq⟩)
 unfold BkS.right
 rw [h1, decide_eq_true ho.seq.1, decide_eq_true hs, ho.ks.chk, decide_eq_true h2]
 simp only [Bool.true_and]
 rw [List.all_eq_true]
 intro k hk
 rw [List.all_eq_true]
 exact fun x hx => h.mem k hk x hx
theorem DeadOk.turn {next next' : Int} {m m' : List Cd} {l : List Dd} (h : DeadOk next m l) (hn : next ≤ next') (hm : ∀ d ∈ l, lookC m d.id = none → lookC m' d.id = none) : DeadOk next' m' l :=
 ⟨fun d hd => by
  obtain ⟨k1, k2, k3, k4, k5, k6, k7⟩ := h.each d hd
  exact ⟨k1, by omega, k3, k4, k5, k6, hm d hd k7⟩, h.ids, h.seqs⟩
theorem DeadOk.tail {next : Int} {m : List Cd} {l : List Dd} (h : DeadOk next m l) : DeadOk next m (lastD l) := by
 unfold lastD
 split
 · exact ⟨fun d hd => h.each d (List.mem_of_mem_drop hd), h.ids.sublist (List.drop_sublist _ _), h.seqs.sublist (List.drop_sublist _ _)⟩
 · exact h
theorem mem_lastD {l : List Dd} {d : Dd} (h : d ∈ lastD l) : d ∈ l := by
 unfold lastD at h
 split at h
 · exact List.mem_of_mem_drop h
 · exact h
theorem add_full {n : Nat} {b : BkS} (h : BkFull b) (ho : BkOk n b) {p : Pt} (hf : p.f.length = 8) (he : (b.sh.add p).2.2 = 0) : BkFull ⟨b.seq + 1, (b.sh.add p).1, b.ks⟩ := by
 have e := add_yes he
 have hc : p.check = 0 ∧ ¬ (48 ≤ b.sh.m.length ∨ 1073741824 ≤ b.sh.next) := by
  unfold ShS.add at he
  split at he
  · exact absurd he (by assumption)
  · split at he
    · cases he
    · rename_i h1 h2
      exact ⟨Decidable.not_not.1 h1, h2⟩
 have hnx := ho.sh.next
 have hl : ∀ x, lookC (b.sh.m ++ [p.fresh b.sh.next]) x = if x = b.sh.next then some (p.fresh b.sh.next) else lookC b.sh.m x := fun x => by
  have := lookC_snoc (m := b.sh.m) (c := p.fresh b.sh.next) (fun d hd => by rw [fresh_id]; have := (ho.sh.id d hd).2; omega) x
  rwa [fresh_id] at this
 rw [e]
 refine ⟨fun c hc' => ?_, ?_, fun d hd => ?_, fun k hk x hx => ?_⟩
 · rcases List.mem_append.1 hc' with hc' | hc'
   · exact h.cok c hc'
   · simp at hc'
     subst hc'
     exact fresh_ok ⟨by omega, by omega⟩ hc.1 hf
 · refine h.dead.turn (show b.sh.next ≤ b.sh.next + 1 by omega) fun d hd hn => ?_
   show lookC (b.sh.m ++ [p.fresh b.sh.next]) d.id = none
   rw [hl, if_neg (by have := (h.dead.each d hd).2.1; omega)]
   exact hn
 · have := h.dseq d hd
   show d.seq ≤ b.seq + 1
   omega
 · show (lookC (b.sh.m ++ [p.fresh b.sh.next]) x).isSome = true
   rw [hl]
   split
   · rfl
   · exact h.mem k hk x hx
theorem write_full {n : Nat} {b : BkS} (h : BkFull b) (ho : BkOk n b) {id : Int} {p : Pt} (hf : p.f.length = 8) (he : (b.sh.write id p).2.2 = 0) : BkFull ⟨b.seq + 1, (b.sh.write id p).1, b.ks⟩ := by
 obtain ⟨h1, h2, h3, h4, h5⟩ := write_yes he
 have hl := get_ok h1
 have hck : p.check = 0 := by
  unfold ShS.write at he
  split at he
  · exact absurd he (by assumption)
  · rename_i h
    exact Decidable.not_not.1 h
 have e : (b.sh.write id p).1 = ⟨b.sh.next, putC b.sh.m ((b.sh.get id).1.merge p), b.sh.dead⟩ := by
  unfold ShS.write
  rw [if_neg (by simp [hck]), if_neg (by simp [h1]), if_neg (by omega)]
 rw [e]
 generalize (b.sh.get id).1 = c at *
 obtain ⟨hc, -⟩ := look_mem hl
 obtain ⟨k1, k2⟩ := cd_parts.1 (h.cok c hc)
 have hlk : ∀ x, (lookC (putC b.sh.m (c.merge p)) x).isSome = (lookC b.sh.m x).isSome := fun x => by
  rw [lookC_putC]
  split <;> simp
 refine ⟨fun d hd => ?_, h.dead.turn (Int.le_refl _) fun d hd hn => ?_, fun d hd => ?_, fun k hk x hx => ?_⟩
 · have hd' : d ∈ putC b.sh.m (c.merge p) := hd
   unfold putC at hd'
   obtain ⟨y, hy, rfl⟩ := List.mem_map.1 hd'
   split
   · exact merge_ok k2 ⟨k1.1, k1.2.1⟩ ⟨by omega, h4⟩ k1.2.2.2.2 hck hf
   · exact h.cok y hy
 · have := hlk d.id
   rw [hn] at this
   simpa using this
 · have := h.dseq d hd
   show d.seq ≤ b.seq + 1
   omega
 · show (lookC (putC b.sh.m (c.merge p)) x).isSome = true
   rw [hlk]
   exact h.mem k hk x hx
theorem drop_full {n : Nat} {b : BkS} (h : BkFull b) (ho : BkOk n b) {id : Int} (he : (b.sh.drop id (b.seq + 1)).2 = 0) : BkFull ⟨b.seq + 1, (b.sh.drop id (b.seq + 1)).1, leaveK b.ks id⟩ := by
 have h1 : (b.sh.get id).2 = 0 ∧ b.sh.seqBad (b.seq + 1) = false := by
  unfold ShS.drop at he
  split at he
  · exact absurd he (by assumption)
  · split at he
    · cases he
    · rename_i k1 k2
      exact ⟨Decidable.not_not.1 k1, by simpa using k2⟩
 have hl := get_ok h1.1
 have e : (b.sh.drop id (b.seq + 1)).1 = ⟨b.sh.next, dropC b.sh.m id, lastD (b.sh.dead ++ [⟨id, (b.sh.get id).1.ver, b.seq + 1⟩])⟩ := by
  unfold ShS.drop
  rw [if_neg (by simp [h1.1]), if_neg (by simp [h1.2])]
 have hsq : 0 ≤ b.seq + 1 ∧ b.seq + 1 ≤ 1099511627776 := by
  have h2 := h1.2
  unfold ShS.seqBad at h2
  simp only [Bool.or_eq_false_iff, decide_eq_false_iff_not] at h2
  omega
 rw [e]
 generalize (b.sh.get id).1 = c at *
 obtain ⟨hc, hid⟩ := look_mem hl
 obtain ⟨k1, k2⟩ := cd_parts.1 (h.cok c hc)
 have hin := (ho.sh.id c hc).2
 have hD : DeadOk b.sh.next (dropC b.sh.m id) (b.sh.dead ++ [⟨id, c.ver, b.seq + 1⟩]) := by
  have hT := h.dead.turn (m' := dropC b.sh.m id) (Int.le_refl _) fun d hd hn => by rw [lookC_dropC]; split <;> first | rfl | exact hn
  refine hT.snoc ((deadAt_iff hT).2 ⟨by dsimp only; omega, by dsimp only; omega, k1.2.2.1, k1.2.2.2.1, hsq.1, hsq.2, by dsimp only; rw [lookC_dropC, if_pos rfl], fun x hx hxi => ?_, fun x hx => ?_⟩)
  · have := (h.dead.each x hx).2.2.2.2.2.2
    dsimp only at hxi
    rw [hxi, hl] at this
    cases this
  · have := h.dseq x hx
    dsimp only
    omega
 refine ⟨fun d hd => h.cok d ((List.mem_filter.1 hd).1), hD.tail, fun d hd => ?_, fun k hk x hx => ?_⟩
 · have hd2 := mem_lastD hd
   show d.seq ≤ b.seq + 1
   rcases List.mem_append.1 hd2 with hd2 | hd2
   · have := h.dseq d hd2
     omega
   · simp at hd2
     subst hd2
     exact Int.le_refl _
 · obtain ⟨y, hy, rfl⟩ := List.mem_map.1 hk
   have hx2 := List.mem_filter.1 hx
   show (lookC (dropC b.sh.m id) x).isSome = true
   rw [lookC_dropC, if_neg (by simpa using hx2.2)]
   exact h.mem y hy x hx2.1
theorem act_full {n : Nat} {b : BkS} (h : BkFull b) (ho : BkOk n b) (e : Ed) (hf : e.p.f.length = 8) (he : (b.act e).1 = 0) : BkFull ⟨b.seq + ((b.act e).2.1.length : Int), (b.act e).2.2.1, (b.act e).2.2.2⟩ := by
 have hgr : ∀ (q : Int) (ks : List Key), b.seq ≤ q → (∀ k ∈ ks, ∀ x ∈ k.2, (lookC b.sh.m x).isSome = true) → BkFull ⟨q, b.sh, ks⟩ := fun q ks hq hk =>
  ⟨h.cok, h.dead, fun d hd => Int.le_trans (h.dseq d hd) hq, hk⟩
 unfold BkS.act at he ⊢
 split
 · rename_i h1
   rw [if_pos h1] at he
   exact add_full h ho hf he
 · rename_i h1
   rw [if_neg h1] at he
   split
   · rename_i h2
     rw [if_pos h2] at he
     exact write_full h ho hf he
   · rename_i h2
     rw [if_neg h2] at he
     split
     · rename_i h3
       rw [if_pos h3] at he
       exact drop_full h ho he
     · rename_i h3
       rw [if_neg h3] at he
       split
       · rename_i h4
         rw [if_pos h4] at he
         refine hgr _ _ (by dsimp only; omega) ?_
         rw [(ho.ks.open he).2.1]
         intro k hk x hx
         rcases List.mem_append.1 hk with hk | hk
         · exact h.mem k (List.mem_of_mem_take hk) x hx
         · rcases List.mem_cons.1 hk with rfl | hk
           · simp at hx
           · exact h.mem k (List.mem_of_mem_drop hk) x hx
       · rename_i h4
         rw [if_neg h4] at he
         split
         · rename_i h5
           rw [if_pos h5] at he
           refine hgr _ _ (by dsimp only; omega) ?_
           rw [(ho.ks.close he).2.1]
           intro k hk x hx
           rcases List.mem_append.1 hk with hk | hk
           · exact h.mem k (List.mem_of_mem_take hk) x hx
           · exact h.mem k (List.mem_of_mem_drop hk) x hx
         · rename_i h5
           rw [if_neg h5] at he
           have hu := (chkK_iff _).1 ho.ks.chk
           split
           · rename_i h6
             rw [if_pos h6] at he
             split
             · rename_i h7
               rw [if_pos h7] at he
               exact absurd he h7
             · rename_i h7
               rw [if_neg h7] at he
               obtain ⟨-, e1, hh, i1, i2⟩ := ho.ks.join he
               have hri : Ids.Rise (memAt b.ks e.group) := hu.2.2 (e.group, memAt b.ks e.group) (mem_at hu.1 hh)
               refine hgr _ _ (by dsimp only; omega) ?_
               rw [e1]
               intro k hk x hx
               rcases List.mem_or_eq_of_mem_set hk with hk | rfl
               · exact h.mem k hk x hx
               · rcases (Ids.mem_put _ _ x hri.1 i1 i2).1 hx with rfl | hx
                 · rw [get_ok (Decidable.not_not.1 h7)]
                   rfl
                 · exact h.mem (e.group, memAt b.ks e.group) (mem_at hu.1 hh) x hx
           · rename_i h6
             rw [if_neg h6] at he
             obtain ⟨-, e1, hh⟩ := ho.ks.quit he
             refine hgr _ _ (by dsimp only; omega) ?_
             rw [e1]
             intro k hk x hx
             rcases List.mem_or_eq_of_mem_set hk with hk | rfl
             · exact h.mem k hk x hx
             · exact h.mem (e.group, memAt b.ks e.group) (mem_at hu.1 hh) x (List.mem_filter.1 hx).1
theorem BkFull.does {n : Nat} {b : BkS} (h : BkFull b) (ho : BkOk n b) (e : Ed) (hf : e.p.f.length = 8) : BkFull (b.does e).1 := by
 unfold BkS.does
 split
 · exact h
 · split
   · exact h
   · split
     · exact h
     · rename_i h3
       exact act_full h ho e hf (Decidable.not_not.1 h3)
end Go.Ofp
end
section
namespace Go.Ofp
theorem does_err {b : BkS} {e : Ed} (h : (b.does e).2.2 ≠ 0) : (b.does e).1 = b ∧ (b.does e).2.1 = [] := by
 unfold BkS.does at *
 split
 · exact ⟨rfl, rfl⟩
 · rename_i h1
   rw [if_neg h1] at h
   split
   · exact ⟨rfl, rfl⟩
   · rename_i h2
     rw [if_neg h2] at h
     split
     · exact ⟨rfl, rfl⟩
     · rename_i h3
       rw [if_neg h3] at h
       exact absurd rfl h
theorem does_did {n : Nat} {b : BkS} (hb : BkOk n b) {e : Ed} (hp : e.p.lab < 4294967296) (h : (b.does e).2.2 = 0) : ∃ T : List Int, (b.does e).2.1 = stepsL b.seq T ∧ (b.does e).1.seq = b.seq + T.length ∧ 1 ≤ T.length ∧ T.length ≤ n + 1 ∧ ∀ x, x ∉ T → lookC (b.does e).1.sh.m x = lookC b.sh.m x ∧ ofK (b.does e).1.ks x = ofK b.ks x := by
 unfold BkS.does at *
 split at h
 · rename_i h1
   exact absurd h h1
 · rename_i h1
   split at h
   · cases h
   · rename_i h2
     split at h
     · rename_i h3
       exact absurd h h3
     · rename_i h3
       rw [if_neg h1, if_neg h2, if_neg h3]
       have h4 := Decidable.not_not.1 h3
       obtain ⟨-, -, k3, k4⟩ := act_ok hb e hp h4
       exact ⟨_, rfl, rfl, k4, k3, fun x hx => act_others hb e h4 hx⟩
theorem stepsL_get : ∀ (l : List Int) (q : Int) (k : Nat) (h : k < l.length), (stepsL q l)[k]'(by rw [stepsL_len]; exact h) = (q + k + 1, l[k])
 | [], _, k, h => absurd h (Nat.not_lt_zero k)
 | i :: r, q, 0, h => by simp [stepsL]
 | i :: r, q, k + 1, h => by
  have := stepsL_get r (q + 1) k (by simpa using h)
  simp only [stepsL, List.getElem_cons_succ]
  rw [this]
  congr 1
  omega
end Go.Ofp
end
section
namespace Go.Ofp
def memGo (m : List Cd) (ks : List Key) : Bool := ks.all fun k => k.2.all fun x => (lookC m x).isSome
theorem right_eq (b : BkS) : b.right = (b.sh.right && (decide (0 ≤ b.seq) && (decide (b.seq ≤ 1099511627776) && (chkK b.ks && (decide (lastSq b.sh.dead ≤ b.seq) && memGo b.sh.m b.ks))))) := rfl
theorem right_sh {b : BkS} (h : b.sh.right = false) : b.right = false := by rw [right_eq, h]; rfl
theorem right_neg {b : BkS} (h : b.seq < 0) : b.right = false := by rw [right_eq, decide_eq_false (by omega)]; simp
theorem right_big {b : BkS} (h : 1099511627776 < b.seq) : b.right = false := by
 rw [right_eq]
 have : decide (b.seq ≤ 1099511627776) = false := decide_eq_false (by omega)
 rw [this]
 simp
theorem right_chk {b : BkS} (h : chkK b.ks = false) : b.right = false := by rw [right_eq, h]; simp
theorem right_deadB {b : BkS} (h : b.seq < lastSq b.sh.dead) : b.right = false := by
 rw [right_eq]
 have : decide (lastSq b.sh.dead ≤ b.seq) = false := decide_eq_false (by omega)
 rw [this]
 simp
theorem right_mem {b : BkS} (h : memGo b.sh.m b.ks = false) : b.right = false := by rw [right_eq, h]; simp
theorem right_all {b : BkS} (h1 : b.sh.right = true) (h2 : ¬ b.seq < 0) (h3 : ¬ 1099511627776 < b.seq) (h4 : chkK b.ks = true) (h5 : ¬ b.seq < lastSq b.sh.dead) (h6 : memGo b.sh.m b.ks = true) : b.right = true := by
 rw [right_eq, h1, h4, h6, decide_eq_true (by omega), decide_eq_true (by omega), decide_eq_true (by omega)]
 rfl
theorem memGo_snoc (m : List Cd) (ks : List Key) (k : Key) : memGo m (ks ++ [k]) = (memGo m ks && k.2.all fun x => (lookC m x).isSome) := by simp [memGo]
theorem memGo_take {m : List Cd} {ks : List Key} (j : Nat) (h : memGo m (ks.take j) = false) : memGo m ks = false := by
 rw [← List.take_append_drop j ks]
 unfold memGo at *
 rw [List.all_append, h]
 rfl
theorem ids_up {m : List Cd} (h : RisC m) : Ids.Up (m.map (·.id)) := by
 unfold RisC at h
 unfold Ids.Up
 rw [List.pairwise_map]
 exact h
theorem has_ids (m : List Cd) (x : Int) : x ∈ m.map (·.id) ↔ (lookC m x).isSome = true := by
 unfold lookC
 rw [List.find?_isSome, List.mem_map]
 constructor
 · rintro ⟨c, hc, rfl⟩
   exact ⟨c, hc, by simp⟩
 · rintro ⟨c, hc, h⟩
   exact ⟨c, hc, by simpa using h⟩
theorem minus_none {mem : List Int} {m : List Cd} (hu : Ids.Up mem) (hm : RisC m) : (Ids.along true false false mem (m.map (·.id))).length = 0 ↔ (mem.all fun x => (lookC m x).isSome) = true := by
 obtain ⟨-, h2⟩ := Ids.along_spec true false false mem (m.map (·.id)) hu (ids_up hm)
 rw [List.length_eq_zero_iff, List.eq_nil_iff_forall_not_mem, List.all_eq_true]
 constructor
 · intro h x hx
   rw [← has_ids]
   refine Classical.byContradiction fun hn => h x ?_
   rw [h2]
   exact .inl ⟨hx, hn, rfl⟩
 · intro h x hx
   rw [h2] at hx
   rcases hx with ⟨h3, h4, -⟩ | ⟨-, -, h5⟩ | ⟨-, -, h5⟩
   · exact h4 ((has_ids m x).2 (h x h3))
   · cases h5
   · cases h5
structure BkIn (k : Nat) (b : BkS) : Prop where
 ok : BkOk k b
 full : BkFull b
 sq : b.seq ≤ 500 * k
theorem BkIn.new : BkIn 0 BkS.new := ⟨BkOk.new 0, BkFull.new, by simp [BkS.new]⟩
theorem BkIn.did {k : Nat} {b : BkS} (h : BkIn k b) (e : Ed) (hf : e.p.f.length = 8) (hp : e.p.lab < 4294967296) (hk : k ≤ 400) : BkIn (k + 1) (b.does e).1 := by
 refine ⟨h.ok.does e hp hk, h.full.does h.ok e hf, ?_⟩
 have h1 := h.sq
 by_cases he : (b.does e).2.2 = 0
 · obtain ⟨T, -, h2, -, h3, -⟩ := does_did h.ok hp he
   omega
 · rw [(does_err he).1]
   omega
theorem BkIn.right {k : Nat} {b : BkS} (h : BkIn k b) (hk : k ≤ 400) : b.right = true := h.full.right h.ok (by have := h.sq; omega)
theorem right_bk {b : BkS} (h : b.right = true) (hf : ∀ c ∈ b.sh.m, c.f.length = 8) (n : Nat) (hn : ∀ k ∈ b.ks, k.2.length ≤ n) : BkOk n b := by
 rw [right_eq] at h
 simp only [Bool.and_eq_true, decide_eq_true_eq] at h
 obtain ⟨h1, h2, h3, h4, -, -⟩ := h
 exact ⟨right_ok h1 hf, ⟨h4, hn⟩, h2, by omega⟩
theorem seq_last {b : BkS} (h : b.sh.right = true) : lastSq b.sh.dead ≤ b.seq ∧ 0 ≤ b.seq ↔ 0 ≤ b.seq ∧ ∀ d ∈ b.sh.dead, d.seq ≤ b.seq := by
 have h6 := ((right_iff b.sh).1 h).2.2.2.2.2
 rw [last_le h6.seqs (fun d hd => (h6.each d hd).2.2.2.2.1)]
 constructor
 · rintro ⟨⟨-, h1⟩ | ⟨h1, h2⟩, h3⟩
   · exact ⟨h3, h1⟩
   · exact ⟨h3, by simp [h1]⟩
 · rintro ⟨h1, h2⟩
   exact ⟨.inl ⟨h1, h2⟩, h1⟩
theorem does_count {n : Nat} {b : BkS} (hb : BkOk n b) {e : Ed} (hp : e.p.lab < 4294967296) : (b.does e).2.1.length ≤ n + 1 := by
 by_cases he : (b.does e).2.2 = 0
 · obtain ⟨T, h1, -, -, h3, -⟩ := does_did hb hp he
   rw [h1, stepsL_len]
   exact h3
 · rw [(does_err he).2]
   simp
theorem right_deadAt {b : BkS} {d : Dd} (hd : d ∈ b.sh.dead) (h : b.seq < d.seq) : b.right = false := by
 cases hb : b.right
 · rfl
 · rw [right_eq] at hb
   simp only [Bool.and_eq_true, decide_eq_true_eq] at hb
   have := ((seq_last hb.1).1 ⟨hb.2.2.2.2.1, hb.2.1⟩).2 d hd
   omega
end Go.Ofp
end
