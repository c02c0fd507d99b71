/- Texts laid together: VaultLaw VaultLook Vault7 VaultFall Vault8 Vault9. -/
import Derived.Test.YtlhpibniecfofaaM12
import Derived.Test.YtlhpibniecfofaaM13
import Derived.Test.YtlhpibniecfofaaM14
import Derived.Test.YtlhpibniecfofaaM3
section
/- Vaults: what lies on a disk: plain law. -/
set_option linter.unusedSimpArgs false
set_option linter.unusedVariables false
namespace Go.Ofp
open Pcs
namespace Dk
theorem load_see {d : Dk} (hd : d.dead = false) (h2 : 2 ≤ d.sec.length) : d.load = (two (d.see 0) (d.see 1)).load := by
  have hr : ∀ k : Nat, k < 2 → d.read k = if (d.see k).bad then ([], 16) else ((d.see k).b, 0) := by
    intro k hk
    rw [read, if_pos (by rw [ready, if_neg (by simp [hd]), if_neg (by omega)])]
  have h0 := hr 0 (by omega)
  have h1 := hr 1 (by omega)
  have hb : d.best 2 = (two (d.see 0) (d.see 1)).best 2 := by
    rw [two_best]
    show d.better (d.better Rt.none ((0 : Nat) : Int)) ((1 : Nat) : Int) = _
    rw [better_of d _ _ _ h0, better_of d _ _ _ h1]
    rfl
  have h3 : (two (d.see 0) (d.see 1)).dead = false := rfl
  unfold Dk.load
  rw [hb, hd, h3]
/-- The root that lies on a disk. -/
def Roots (d : Dk) (x : Rt) : Prop := Holds (d.see 0) (d.see 1) x
theorem Roots.load {d : Dk} {x : Rt} (h : d.Roots x) (hd : d.dead = false) (h2 : 2 ≤ d.sec.length) : d.load = (x, 0) := by
  rw [load_see hd h2]
  exact Holds.load h
theorem Roots.same {d d' : Dk} {x : Rt} (h : d.Roots x) (h0 : d'.see 0 = d.see 0) (h1 : d'.see 1 = d.see 1) : d'.Roots x := by
  unfold Roots
  rw [h0, h1]
  exact h
theorem write_live {d : Dk} {n : Nat} (h : d.Live n) {p : Int} {b : List UInt8} (h0 : 0 ≤ p) (h1 : p < n) (hb : b.length = 64) : d.write p b = ({ d with wait := d.wait ++ [⟨p, b⟩] }, 0) := by
  have hr : d.ready p = 0 := by rw [ready, if_neg (by simp [h.dead]), if_neg (by have := h.sec; omega)]
  have hst : (step { d with wait := d.wait ++ [⟨p, b⟩] }) = { d with wait := d.wait ++ [⟨p, b⟩] } := by
    have hf := h.fuse
    unfold step
    rw [if_neg (by simp only; omega), if_neg (by simp only; omega)]
  rw [write, if_pos hr, if_pos hb, hst]
  simp [h.dead]
theorem see_snoc (d : Dk) (p : Int) (b : List UInt8) (k : Int) : ({ d with wait := d.wait ++ [⟨p, b⟩] } : Dk).see k = if p = k then ⟨b, false⟩ else d.see k := by
  unfold see
  simp only [List.foldl_append, List.foldl_cons, List.foldl_nil]
/-- A root is stored where the power does not go. -/
theorem store_live {d : Dk} {n : Nat} (h : d.Live n) (hok : d.Ok) (h2 : 2 ≤ n) {x : Rt} (hx : x.ok = true) :
    (d.store x).2 = 0 ∧ (d.store x).1.Live n ∧ (d.store x).1.Ok ∧ (d.store x).1.wait = [] ∧ ∀ k : Nat, k < n → (d.store x).1.see k = if x.seq % 2 = (k : Int) then ⟨x.secB, false⟩ else d.see k := by
  have hp : x.putB = x.secB := if_pos hx
  have hm := Int.emod_nonneg x.seq (show (2 : Int) ≠ 0 by omega)
  have hm2 := Int.emod_lt_of_pos x.seq (show (0 : Int) < 2 by omega)
  have hw := write_live h hm (by omega) x.secB_length
  have hwl := h.with_wait (d.wait ++ [⟨x.seq % 2, x.secB⟩])
  have hwo := hok.write (x.seq % 2) x.secB
  rw [hw] at hwo
  obtain ⟨s1, s2, s3, s4⟩ := sync_live hwl hwo
  have hst : d.store x = ({ d with wait := d.wait ++ [⟨x.seq % 2, x.secB⟩] } : Dk).sync := by
    rw [store, if_neg (fun e => e.elim (fun e => by rw [hx] at e; cases e) (fun e => by have := h.sec; omega)), hp, hw, if_pos rfl]
  rw [hst]
  refine ⟨s1, s2, hwo.sync, s3, fun k hk => ?_⟩
  rw [s4 k hk, see_snoc]
theorem Roots.store {d : Dk} {n : Nat} {x y : Rt} (hd : d.Roots x) (h : d.Live n) (hok : d.Ok) (h2 : 2 ≤ n) (hy : y.ok = true) (hs : y.seq = x.seq + 1) : (d.store y).1.Roots y := by
  obtain ⟨-, -, -, -, hsee⟩ := store_live h hok h2 hy
  have e0 := hsee 0 (by omega)
  have e1 := hsee 1 (by omega)
  obtain ⟨hx, hd⟩ := hd
  refine ⟨hy, ?_⟩
  rcases hd with ⟨k0, ha, hb⟩ | ⟨k0, hb, ha⟩
  · right
    refine ⟨by omega, ?_, ?_⟩
    · have e := e1
      rw [if_pos (by omega)] at e
      exact e
    · have e := e0
      rw [if_neg (by omega)] at e
      have e' : (d.store y).1.see 0 = ⟨x.secB, false⟩ := e.trans ha
      rw [e']
      exact Less.sec hx (by omega)
  · left
    refine ⟨by omega, ?_, ?_⟩
    · have e := e0
      rw [if_pos (by omega)] at e
      exact e
    · have e := e1
      rw [if_neg (by omega)] at e
      have e' : (d.store y).1.see 1 = ⟨x.secB, false⟩ := e.trans hb
      rw [e']
      exact Less.sec hx (by omega)
end Dk
/-- What stands in a ring hangs on the ring's sectors alone. -/
theorem pcs_same {d d' : Dk} {n size : Nat} (hd : d.dead = false) (hd' : d'.dead = false) (hs : d.sec.length = size) (hs' : d'.sec.length = size) (hn : 0 < n) (hn2 : n + 2 ≤ size) (h : ∀ k : Nat, 2 ≤ k → k < size → d'.see k = d.see k) : d'.pcs 2 n = d.pcs 2 n := by
  funext i
  have := Nat.mod_lt i hn
  rw [Dk.pcs_see hd' (by omega), Dk.pcs_see hd (by omega), h _ (by omega) (by omega)]
theorem Stands.same {d d' : Dk} {r : Rg} {size : Nat} {l : List ByteArray} (h : Stands d r size l) (hsrc : r.src = 2) (hl : d'.Live size) (hok : d'.Ok) (hs : ∀ k : Nat, 2 ≤ k → k < size → d'.see k = d.see k) : Stands d' r size l := by
  have hfit := h.ring.fit
  have hpos := h.ring.pos
  have e : d'.pcs r.src r.n = d.pcs r.src r.n := by
    rw [hsrc]
    exact pcs_same h.live.dead hl.dead h.live.sec hl.sec hpos (by omega) hs
  refine ⟨hl, hok, h.ring, ?_, ?_, ?_⟩
  · rw [e]; exact h.chain
  · rw [e]; exact h.cap
  · rw [e]; exact h.far
theorem rec1_life2 {P : Nat → Option Pc} {top : Nat} {L L' least : Int} {i : Nat} (hL : L ≤ L') (h : ∀ j p, i ≤ j → j < top → P j = some p → p.life ≤ L) : rec1 P top L' least i = rec1 P top L least i := by
  have e : ∀ M, rec1 P top M least i = rec1 (fun j => if i ≤ j ∧ j < top then P j else none) top M least i := fun M => rec1_in fun j a b => by rw [if_pos ⟨a, b⟩]
  rw [e, e]
  refine rec1_life hL fun j p hp => ?_
  split at hp
  · rename_i hc
    exact h j p hc.1 hc.2 hp
  · cases hp
/-- What is found on a disk: its root, the ring's records, and the tail. -/
structure Founds (d : Dk) (size : Nat) (x : Rt) (l : List ByteArray) (t : Nat) : Prop where
  live : d.Live size
  ok : d.Ok
  big : 3 ≤ size
  wait : d.wait = []
  root : d.Roots x
  chain : ∃ y, Chain (d.pcs 2 (size - 2)) (x.head.toNat + (size - 2)) x.life 1 x.head.toNat l t y ∧ rec1 (d.pcs 2 (size - 2)) (x.head.toNat + (size - 2)) x.life y t = none
  cap : ∀ i p, x.head.toNat ≤ i → i < x.head.toNat + (size - 2) → d.pcs 2 (size - 2) i = some p → p.life ≤ x.life
/-- A vault's ring, and its disk. -/
structure Lies (d : Dk) (size : Nat) (x : Rt) (r : Rg) (l : List ByteArray) : Prop where
  stands : Stands d r size l
  big : 3 ≤ size
  wait : d.wait = []
  root : d.Roots x
  src : r.src = 2
  n : r.n = size - 2
  head : r.head = x.head.toNat
  life : (r.life : Int) = x.life
theorem Founds.rootOk {d : Dk} {size : Nat} {x : Rt} {l : List ByteArray} {t : Nat} (h : Founds d size x l t) : x.ok = true := h.root.1
theorem Founds.load {d : Dk} {size : Nat} {x : Rt} {l : List ByteArray} {t : Nat} (h : Founds d size x l t) : d.load = (x, 0) := h.root.load h.live.dead (by have := h.live.sec; have := h.big; omega)
theorem Lies.founds {d : Dk} {size : Nat} {x : Rt} {r : Rg} {l : List ByteArray} (h : Lies d size x r l) : Founds d size x l r.tail := by
  have hs := h.stands
  obtain ⟨y, hc, hst⟩ := hs.chain
  have e1 := h.src
  have e2 := h.n
  have e3 := h.head
  have e4 := h.life
  rw [e1, e2, e3, e4] at hc hst
  refine ⟨hs.live, hs.ok, h.big, h.wait, h.root, ⟨y, hc, hst⟩, fun i p a b hp => ?_⟩
  have := hs.cap i p (by omega) (by omega) (by rw [e1, e2]; exact hp)
  omega
theorem Founds.runs {d : Dk} {size : Nat} {x : Rt} {l : List ByteArray} {t : Nat} (h : Founds d size x l t) : d.Runs (d.vring x) 1 x.head.toNat l t := by
  obtain ⟨y, hc, hst⟩ := h.chain
  have hx := (Rt.ok_iff x).1 h.rootOk
  have e : d.vring x = ⟨2, size - 2, x.head.toNat, x.head.toNat, x.life.toNat⟩ := by rw [Dk.vring, h.live.sec]
  rw [e]
  refine Dk.Runs.chain (z := y) ?_ ?_
  · simp only
    rw [Int.toNat_of_nonneg (by omega)]
    exact hc
  · simp only
    rw [Int.toNat_of_nonneg (by omega)]
    exact hst
theorem Founds.tail {d : Dk} {size : Nat} {x : Rt} {l : List ByteArray} {t : Nat} (h : Founds d size x l t) : x.head.toNat ≤ t ∧ t ≤ x.head.toNat + (size - 2) ∧ t ≤ 1099511627776 := by
  obtain ⟨y, hc, -⟩ := h.chain
  have hx := (Rt.ok_iff x).1 h.rootOk
  have h1 := hc.le (by omega)
  exact ⟨h1.1, h1.2, h.runs.top (by omega)⟩
/-- A vault is opened: a new root, and a new life. -/
theorem Founds.open {d : Dk} {size : Nat} {x : Rt} {l : List ByteArray} {t : Nat} (h : Founds d size x l t) (hs : x.seq + 1 < 4294967296) (hl : x.life + 1 < 4294967296) :
    (d.store ⟨x.seq + 1, x.life + 1, x.head⟩).2 = 0 ∧ Lies (d.store ⟨x.seq + 1, x.life + 1, x.head⟩).1 size ⟨x.seq + 1, x.life + 1, x.head⟩ ⟨2, size - 2, x.head.toNat, t, x.life.toNat + 1⟩ l := by
  have hx := (Rt.ok_iff x).1 h.rootOk
  have hbig := h.big
  have hok2 : (⟨x.seq + 1, x.life + 1, x.head⟩ : Rt).ok = true := by rw [Rt.ok_iff]; simp only; omega
  obtain ⟨s1, s2, s3, s4, s5⟩ := Dk.store_live h.live h.ok (by omega) hok2
  have hr := h.root.store h.live h.ok (by omega) hok2 rfl
  refine ⟨s1, ?_⟩
  obtain ⟨y, hc, hst⟩ := h.chain
  have htl := h.tail
  have e : (d.store ⟨x.seq + 1, x.life + 1, x.head⟩).1.pcs 2 (size - 2) = d.pcs 2 (size - 2) := pcs_same h.live.dead s2.dead h.live.sec s2.sec (by omega) (by omega) fun k h1 h2 => by
    rw [s5 k h2, if_neg (by simp only; omega)]
  have hL : ((x.life.toNat + 1 : Nat) : Int) = x.life + 1 := by omega
  refine ⟨⟨s2, s3, ⟨by simp only; omega, by simp only; omega, ⟨htl.1, htl.2.1⟩, htl.2.2, by simp only; omega⟩, ⟨y, ?_, ?_⟩, ?_, ?_⟩, h.big, s4, hr, rfl, rfl, rfl, hL⟩
  · simp only
    rw [e, hL]
    exact hc.same (by omega) (fun _ _ _ => rfl) (by omega)
  · simp only
    rw [e, hL, rec1_life2 (L := x.life) (by omega) fun j p a b hp => h.cap j p (by omega) b hp]
    exact hst
  · intro i p a b hp
    simp only at a b hp ⊢
    rw [e] at hp
    have := h.cap i p a b hp
    omega
  · intro i p a b hp
    simp only at a b hp ⊢
    rw [e] at hp
    have := h.cap i p (by omega) b hp
    omega
theorem see_wait (d : Dk) (m : List Wt) (k : Int) (h : ∀ w ∈ m, w.place ≠ k) : ({ d with wait := d.wait ++ m } : Dk).see k = d.see k := by
  unfold Dk.see
  simp only [List.foldl_append]
  generalize d.wait.foldl _ _ = z
  induction m generalizing z with
  | nil => rfl
  | cons w m ih =>
    rw [List.foldl_cons, if_neg (h w (by simp))]
    exact ih (fun x hx => h x (by simp [hx])) z
theorem wts_far {r : Rg} {l : List Pc} {w : Wt} (h : w ∈ wts r l) (hn : 0 < r.n) : (r.src : Int) ≤ w.place := by
  obtain ⟨j, p, -, rfl⟩ := wts_mem h
  have := Int.emod_nonneg p.place (show (r.n : Int) ≠ 0 by omega)
  simp only
  omega
/-- What a record that was put changes on the disk. -/
theorem Rg.add_wait {r : Rg} {n : Nat} {d : Dk} {s : ByteArray} (hr : r.Ok n) (hd : d.Live n) (he : (r.add d s).2.2 = 0) : r.add d s = ({ r with tail := r.tail + manyB s.size }, { d with wait := d.wait ++ wts r (cutB r.life r.tail s) }, 0) ∧ cutOk r.life r.tail (manyB s.size) = true ∧ manyB s.size ≤ r.free := by
  unfold Rg.add at he ⊢
  split
  · rename_i hc
    rw [if_pos hc] at he
    cases he
  · rename_i hc
    have hn : cutB r.life r.tail s ≠ [] := fun e => hc (.inr e)
    have hk := (Rg.cut_len hn).2
    have hw := Dk.writes_wait _ hd (Rg.lay_ok hr hk)
    rw [hw, if_pos rfl]
    exact ⟨rfl, hk, by omega⟩
theorem pcSc_other {s : Sc} {i j : Nat} {p : Pc} (h : Dk.pcSc s i = some p) (hij : i ≠ j) : Dk.pcSc s j = none := by
  unfold Dk.pcSc at h ⊢
  split at h
  · cases h
  · rename_i hb
    split at h
    · rename_i hc
      rw [if_neg hb, if_neg]
      rintro ⟨-, k⟩
      rw [hc.2] at k
      omega
    · cases h
/-- Old records are left behind. -/
theorem Pcs.Chain.pieces {P : Nat → Option Pc} {top : Nat} {L least : Int} {i : Nat} {l : List ByteArray} {e : Nat} {z : Int} (h : Chain P top L least i l e z) : ∀ j, i ≤ j → j < e → ∃ p, P j = some p := by
  induction h with
  | nil => intro j a b; omega
  | @cons least i s t y l e z h1 _ ih =>
    intro j a b
    obtain ⟨m, h0, h3, h4, h5, -⟩ := rec1_some h1
    by_cases hj : j < t
    · have := (h5 (j - i) _ (List.getElem?_eq_getElem (by omega))).1
      rw [show i + (j - i) = j by omega] at this
      exact ⟨_, this⟩
    · exact ih j (by omega) b
theorem Stands.new_head {d : Dk} {r : Rg} {size : Nat} {l : List ByteArray} (h : Stands d r size l) {s : ByteArray} (he : (r.add d s).2.2 = 0) : Stands (r.add d s).2.1 ⟨r.src, r.n, r.tail, r.tail + manyB s.size, r.life⟩ size [s] := by
  obtain ⟨hadd, hc, hfree⟩ := Rg.add_wait h.ring h.live he
  have hst := (h.add s).elim (fun k => k.2.1) (fun k => absurd k.1 (by omega))
  have hl2 := hst.live
  have hok2 := hst.ok
  rw [hadd] at hl2 hok2 ⊢
  simp only at hl2 hok2 ⊢
  have htl := h.ring.tail
  have hpos := h.ring.pos
  have hlen := cutB_length hc
  have hmp := manyB_pos s.size
  have htop : r.tail + manyB s.size ≤ r.head + r.n := by unfold Rg.free at hfree; omega
  have hcc := (cutOk_iff _ _ _).1 hc
  have hrow := Row.cut hc
  have hp := fun j (hj : r.head ≤ j ∧ j < r.head + r.n) => Dk.pcs_row (l := cutB r.life r.tail s) h.live.dead h.live.sec h.ring hrow htl.1 (by omega) hj
  have hlife : ∀ (j : Nat) (p : Pc), (cutB r.life r.tail s)[j]? = some p → p.life = r.life := by
    intro j p hp
    rw [cutB_get hc] at hp
    split at hp
    · cases hp; rfl
    · cases hp
  -- beyond the old window there is nothing
  have hfar : ∀ j, r.head + r.n ≤ j → j < r.tail + r.n → ({ d with wait := d.wait ++ wts r (cutB r.life r.tail s) } : Dk).pcs r.src r.n j = none := by
    intro j h1 h2
    obtain ⟨y, hch, -⟩ := h.chain
    obtain ⟨p, hpj⟩ := hch.pieces (j - r.n) (by omega) (by omega)
    have e1 := hp (j - r.n) ⟨by omega, by omega⟩
    rw [if_neg (by omega), hpj] at e1
    have hs1 := h.ring.sect (j - r.n)
    have hs2 := h.ring.sect j
    have hsec := h.live.sec
    rw [Dk.pcs_see hl2.dead (by simp only; omega)] at e1
    rw [Dk.pcs_see hl2.dead (by simp only; omega)]
    have hm : j % r.n = (j - r.n) % r.n := by
      conv => lhs; rw [show j = (j - r.n) + r.n by omega]
      exact Nat.add_mod_right _ _
    rw [hm]
    exact pcSc_other e1 (by omega)
  have hall : ∀ j, r.tail ≤ j → j < r.tail + r.n → ({ d with wait := d.wait ++ wts r (cutB r.life r.tail s) } : Dk).pcs r.src r.n j = if r.tail ≤ j ∧ j < r.tail + manyB s.size then (cutB r.life r.tail s)[j - r.tail]? else if j < r.head + r.n then d.pcs r.src r.n j else none := by
    intro j h1 h2
    by_cases hj : j < r.head + r.n
    · rw [hp j ⟨by omega, hj⟩, hlen]
      split
      · rfl
      · first
          | rfl
          | rw [if_pos hj]
    · rw [hfar j (by omega) h2, if_neg (by omega), if_neg hj]
  refine ⟨hl2, hok2, ⟨hpos, h.ring.fit, by simp only; omega, by simp only; omega, h.ring.life⟩, ⟨r.life, ?_, ?_⟩, ?_, ?_⟩
  · refine .cons (t := r.tail + manyB s.size) ?_ .nil
    refine rec1_new hc (by have := h.ring.life; simp only; omega) (by simp only; omega) fun j hj => ?_
    simp only
    rw [hall _ (by omega) (by omega), if_pos ⟨by omega, by omega⟩]
    congr 1
    omega
  · refine rec1_stop fun hlt p hp' => ?_
    simp only at hlt hp'
    rw [hall _ (by omega) (by omega), if_neg (by omega)] at hp'
    split at hp'
    · exact h.far _ p (by omega) (by omega) hp'
    · cases hp'
  · intro i p a b hp'
    simp only at a b hp' ⊢
    rw [hall i a b] at hp'
    split at hp'
    · exact Int.le_of_eq (hlife _ p hp')
    · split at hp'
      · exact h.cap i p (by omega) (by omega) hp'
      · cases hp'
  · intro i p a b hp'
    simp only at a b hp' ⊢
    rw [hall i (by omega) b, if_neg (by omega)] at hp'
    split at hp'
    · exact h.far i p (by omega) (by omega) hp'
    · cases hp'
/-- A record is put behind all, and synced. -/
theorem Lies.add {d : Dk} {size : Nat} {x : Rt} {r : Rg} {l : List ByteArray} (h : Lies d size x r l) (s : ByteArray) :
    ((d.vadd r false s).2.2.2 = 0 ∧ (d.vadd r false s).2.2.1 = false ∧ Lies (d.vadd r false s).2.1 size x (d.vadd r false s).1 (l ++ [s])) ∨ d.vadd r false s = (r, d, false, 8) := by
  have hbig := h.big
  have hpos := h.stands.ring.pos
  have hfit := h.stands.ring.fit
  rcases h.stands.add s with ⟨h1, h2, h3, h4, h5, h6⟩ | ⟨h1, h2, h3⟩
  · left
    obtain ⟨k1, k2, k3⟩ := h2.sync
    have e : d.vadd r false s = ((r.add d s).1, (r.add d s).2.1.sync.1, false, 0) := by
      rw [Dk.vadd, if_neg (by omega), if_pos h1, k1]
      rfl
    rw [e]
    refine ⟨rfl, rfl, k2, hbig, k3, ?_, by simp only; rw [h4]; exact h.src, by simp only; rw [h5]; exact h.n, by simp only; rw [h3]; exact h.head, by simp only; rw [h6]; exact h.life⟩
    obtain ⟨-, -, -, q4⟩ := Dk.sync_live h2.live h2.ok
    have hm := congrArg (fun z => z.2.1) (Rg.add_wait h.stands.ring h.stands.live h1).1
    simp only at hm
    have hsrc := h.src
    have hk : ∀ k : Nat, k < 2 → (r.add d s).2.1.sync.1.see (k : Int) = d.see k := by
      intro k hk
      rw [q4 k (by omega), hm]
      exact see_wait d _ k fun w hw => by have := wts_far hw hpos; omega
    exact h.root.same (hk 0 (by omega)) (hk 1 (by omega))
  · right
    rw [Dk.vadd, if_pos h1, h2, h3]
theorem Lies.add_ok {d : Dk} {size : Nat} {x : Rt} {r : Rg} {l : List ByteArray} (h : Lies d size x r l) {s : ByteArray} (hf : manyB s.size ≤ r.free) (hc : cutOk r.life r.tail (manyB s.size) = true) :
    (d.vadd r false s).2.2.2 = 0 ∧ (d.vadd r false s).2.2.1 = false ∧ (d.vadd r false s).1 = { r with tail := r.tail + manyB s.size } ∧ Lies (d.vadd r false s).2.1 size x (d.vadd r false s).1 (l ++ [s]) := by
  obtain ⟨a1, a2, -⟩ := Rg.add_live h.stands.ring h.stands.live hf hc
  rcases h.add s with ⟨h1, h2, h3⟩ | h1
  · refine ⟨h1, h2, ?_, h3⟩
    rw [Dk.vadd, if_neg (by omega), if_pos a2]
    exact a1
  · exfalso
    have : (d.vadd r false s).2.2.2 = 8 := by rw [h1]
    rw [Dk.vadd, if_neg (by omega), if_pos a2] at this
    obtain ⟨k1, -⟩ := (h.stands.add s).elim (fun k => k.2.1.sync) (fun k => absurd k.1 (by omega))
    simp only at this
    omega
/-- A text in the place of all. -/
theorem Lies.renew {d : Dk} {size : Nat} {x : Rt} {r : Rg} {l : List ByteArray} (h : Lies d size x r l) {s : ByteArray} (he : (d.vadd r false s).2.2.2 = 0) (hs : x.seq + 1 < 4294967296) :
    ((d.vadd r false s).2.1.store ⟨x.seq + 1, x.life, r.tail⟩).2 = 0 ∧ (d.vadd r false s).1 = { r with tail := r.tail + manyB s.size } ∧ manyB s.size ≤ r.free ∧ r.tail < 1099511627776 ∧
      Lies ((d.vadd r false s).2.1.store ⟨x.seq + 1, x.life, r.tail⟩).1 size ⟨x.seq + 1, x.life, r.tail⟩ ⟨r.src, r.n, r.tail, r.tail + manyB s.size, r.life⟩ [s] := by
  have hbig := h.big
  have hx := (Rt.ok_iff x).1 h.root.1
  rcases h.add s with ⟨-, -, h3⟩ | h1
  · have h0 : (r.add d s).2.2 = 0 := by
      rcases h.stands.add s with k | k
      · exact k.1
      · have : d.vadd r false s = (r, d, false, 8) := by rw [Dk.vadd, if_pos k.1, k.2.1, k.2.2]
        rw [this] at he
        cases he
    obtain ⟨hadd, hc, hfree⟩ := Rg.add_wait h.stands.ring h.stands.live h0
    have hcc := (cutOk_iff _ _ _).1 hc
    have hmp := manyB_pos s.size
    have hv : d.vadd r false s = ((r.add d s).1, (r.add d s).2.1.sync.1, (r.add d s).2.1.sync.2 != 0, (r.add d s).2.1.sync.2) := by rw [Dk.vadd, if_neg (by omega), if_pos h0]
    have hN := (h.stands.new_head h0).sync.2.1
    have hok2 : (⟨x.seq + 1, x.life, r.tail⟩ : Rt).ok = true := by rw [Rt.ok_iff]; simp only; omega
    obtain ⟨s1, s2, s3, s4, s5⟩ := Dk.store_live h3.stands.live h3.stands.ok (by omega) hok2
    have hr := h3.root.store h3.stands.live h3.stands.ok (by omega) hok2 rfl
    have e1 : (d.vadd r false s).2.1 = (r.add d s).2.1.sync.1 := by rw [hv]
    have e2 : (d.vadd r false s).1 = { r with tail := r.tail + manyB s.size } := by rw [hv]; simp only; rw [hadd]
    refine ⟨s1, e2, hfree, by omega, ?_, hbig, s4, hr, h.src, h.n, by simp, h.life⟩
    rw [← e1] at hN
    refine hN.same h.src s2 s3 fun k k1 k2 => ?_
    rw [s5 k k2, if_neg]
    simp only
    omega
  · rw [h1] at he
    cases he
theorem Less.none {s : Sc} {x : Rt} (h : (Dk.rootOf s).2 = false) : Dk.Less s x := fun k => by rw [h] at k; cases k
/-- A text laid on a new disk. -/
theorem format_founds {size : Nat} (h3 : 3 ≤ size) (text : ByteArray) (hm : manyB (text.size + 1) ≤ size - 2) (hs : size ≤ 1000) :
    ((Dk.new size).vformat text).2 = 0 ∧ Founds ((Dk.new size).vformat text).1 size ⟨1, 1, 0⟩ [wholeB text] (manyB (text.size + 1)) := by
  have hvr : (Dk.new size).vring ⟨1, 1, 0⟩ = ⟨2, size - 2, 0, 0, 1⟩ := by unfold Dk.vring; simp [Dk.new]
  have hlen : (Dk.new size).sec.length = size := by simp [Dk.new]
  have hrO : (⟨2, size - 2, 0, 0, 1⟩ : Rg).Ok size := ⟨by simp only; omega, by simp only; omega, by simp only; omega, by simp only; omega, by simp⟩
  have hS := Stands.new hrO rfl
  have hws := whole_size text
  have hc : cutOk (1 : Nat) (0 : Nat) (manyB (wholeB text).size) = true := by rw [cutOk_iff, hws]; omega
  have hf : manyB (wholeB text).size ≤ (⟨2, size - 2, 0, 0, 1⟩ : Rg).free := by rw [hws]; simp only [Rg.free]; omega
  obtain ⟨a1, a2, -⟩ := Rg.add_live hrO (Dk.Live.new size) hf hc
  obtain ⟨h2, -⟩ := (hS.add (wholeB text)).elim (fun k => k.2) (fun k => absurd k.1 (by omega))
  obtain ⟨k1, k2, k3⟩ := h2.sync
  have hok2 : (⟨1, 1, 0⟩ : Rt).ok = true := by decide
  obtain ⟨s1, s2, s3, s4, s5⟩ := Dk.store_live k2.live k2.ok (by omega) hok2
  have hv : (Dk.new size).vput ⟨2, size - 2, 0, 0, 1⟩ (wholeB text) = ((Rg.add ⟨2, size - 2, 0, 0, 1⟩ (Dk.new size) (wholeB text)).1, (Rg.add ⟨2, size - 2, 0, 0, 1⟩ (Dk.new size) (wholeB text)).2.1.sync.1, 0) := by rw [Dk.vput, if_pos a2, k1]
  have e : (Dk.new size).vformat text = (Rg.add ⟨2, size - 2, 0, 0, 1⟩ (Dk.new size) (wholeB text)).2.1.sync.1.store ⟨1, 1, 0⟩ := by
    rw [Dk.vformat, if_neg (by omega), hvr, hv, if_pos rfl]
  rw [e]
  refine ⟨s1, ?_⟩
  have hN := k2.same (by rw [a1]) s2 s3 fun k p1 p2 => by
    rw [s5 k p2, if_neg]
    simp only
    omega
  obtain ⟨-, -, -, q4⟩ := Dk.sync_live h2.live h2.ok
  have hm2 := congrArg (fun z => z.2.1) (Rg.add_wait hrO (Dk.Live.new size) a2).1
  simp only at hm2
  have hz : (Rg.add ⟨2, size - 2, 0, 0, 1⟩ (Dk.new size) (wholeB text)).2.1.sync.1.see ((0 : Nat) : Int) = ⟨List.replicate 64 0, false⟩ := by
    rw [q4 0 (by omega), hm2, see_wait _ _ _ fun w hw => by have := wts_far hw (show 0 < size - 2 by omega); simp only at this; omega]
    rw [Dk.see_none rfl]
    simp [Dk.new, List.getD_eq_getElem?_getD, List.getElem?_replicate, show 0 < size by omega]
  have hroot : ((Rg.add ⟨2, size - 2, 0, 0, 1⟩ (Dk.new size) (wholeB text)).2.1.sync.1.store ⟨1, 1, 0⟩).1.Roots ⟨1, 1, 0⟩ := by
    have e0 := s5 0 (by omega)
    have e1 := s5 1 (by omega)
    rw [if_neg (by decide), hz] at e0
    rw [if_pos (by decide)] at e1
    refine ⟨hok2, .inr ⟨by decide, e1, ?_⟩⟩
    have e0' : ((Rg.add ⟨2, size - 2, 0, 0, 1⟩ (Dk.new size) (wholeB text)).2.1.sync.1.store ⟨1, 1, 0⟩).1.see 0 = ⟨List.replicate 64 0, false⟩ := e0
    rw [e0']
    exact Less.none (by rw [Dk.rootOf_zero])
  have hL : Lies ((Rg.add ⟨2, size - 2, 0, 0, 1⟩ (Dk.new size) (wholeB text)).2.1.sync.1.store ⟨1, 1, 0⟩).1 size ⟨1, 1, 0⟩ (Rg.add ⟨2, size - 2, 0, 0, 1⟩ (Dk.new size) (wholeB text)).1 ([] ++ [wholeB text]) :=
    ⟨hN, h3, s4, hroot, by rw [a1], by rw [a1], by rw [a1]; rfl, by rw [a1]; rfl⟩
  have hF := hL.founds
  rw [a1, hws] at hF
  simpa using hF
end Go.Ofp
end

section
/- Vaults: what a look finds: plain law. -/
set_option linter.unusedSimpArgs false
set_option linter.unusedVariables false
namespace Go.Ofp
theorem Rt.get_ok {l : List UInt8} (h : (Rt.getB l).2 = true) : (Rt.getB l).1.ok = true := by
  unfold Rt.getB at h ⊢
  split
  · rename_i hb
    simp only [Rt.isB, decide_eq_true_eq] at hb
    exact hb.2.2.2.1
  · rename_i hb
    rw [if_neg hb] at h
    cases h
namespace Dk
theorem better_ok {d : Dk} {b : Rt} {i : Int} (h : b.seq = 0 ∨ b.ok = true) : (d.better b i).seq = 0 ∨ (d.better b i).ok = true := by
  unfold Dk.better
  split
  · rename_i hc
    exact .inr (Rt.get_ok hc.2.1)
  · exact h
theorem load_ok {d : Dk} {x : Rt} (h : d.load = (x, 0)) : x.ok = true ∧ d.dead = false := by
  unfold Dk.load at h
  split at h
  · cases h
  · rename_i hd
    split at h
    · cases h
    · rename_i hs
      cases h
      refine ⟨?_, by simpa using hd⟩
      have h2 : (d.best 2).seq = 0 ∨ (d.best 2).ok = true := better_ok (better_ok (.inl rfl))
      exact h2.resolve_left hs
/-- What a look finds: the text, the records, the error, and the root and the tail. -/
inductive Looks (d : Dk) : ByteArray → List ByteArray → Int → Option (Rt × Nat) → Prop
  | small (h : d.sec.length < 3) : Looks d ⟨#[]⟩ [] 1 none
  | noroot (h : 3 ≤ d.sec.length) (e : d.load.2 ≠ 0) : Looks d ⟨#[]⟩ [] d.load.2 none
  | bad {x : Rt} {recs : List ByteArray} {t : Nat} (h : 3 ≤ d.sec.length) (e : d.load = (x, 0)) (hr : d.Runs (d.vring x) 1 x.head.toNat recs t) (hs : splitB recs = none) : Looks d ⟨#[]⟩ [] 16 none
  | ok {x : Rt} {recs m : List ByteArray} {t : Nat} {text : ByteArray} (h : 3 ≤ d.sec.length) (e : d.load = (x, 0)) (hr : d.Runs (d.vring x) 1 x.head.toNat recs t) (hs : splitB recs = some (text, m)) : Looks d text m 0 (some (x, t))
theorem Looks.det {d : Dk} {s s' : ByteArray} {m m' : List ByteArray} {e e' : Int} {o o' : Option (Rt × Nat)} (h : Looks d s m e o) (h' : Looks d s' m' e' o') : s = s' ∧ m = m' ∧ e = e' ∧ o = o' := by
  cases h with
  | small h1 =>
    cases h' with
    | small => exact ⟨rfl, rfl, rfl, rfl⟩
    | noroot h2 => omega
    | bad h2 => omega
    | ok h2 => omega
  | noroot h1 e1 =>
    cases h' with
    | small h2 => omega
    | noroot => exact ⟨rfl, rfl, rfl, rfl⟩
    | bad h2 e2 => rw [e2] at e1; exact absurd rfl e1
    | ok h2 e2 => rw [e2] at e1; exact absurd rfl e1
  | bad h1 e1 r1 s1 =>
    cases h' with
    | small h2 => omega
    | noroot h2 e2 => rw [e1] at e2; exact absurd rfl e2
    | bad => exact ⟨rfl, rfl, rfl, rfl⟩
    | ok h2 e2 r2 s2 =>
      rw [e1] at e2
      cases e2
      obtain ⟨rfl, -⟩ := r1.det r2
      rw [s1] at s2
      cases s2
  | ok h1 e1 r1 s1 =>
    cases h' with
    | small h2 => omega
    | noroot h2 e2 => rw [e1] at e2; exact absurd rfl e2
    | bad h2 e2 r2 s2 =>
      rw [e1] at e2
      cases e2
      obtain ⟨rfl, -⟩ := r1.det r2
      rw [s1] at s2
      cases s2
    | ok h2 e2 r2 s2 =>
      rw [e1] at e2
      cases e2
      obtain ⟨rfl, rfl⟩ := r1.det r2
      rw [s1] at s2
      cases s2
      exact ⟨rfl, rfl, rfl, rfl⟩
end Dk
theorem Founds.looks {d : Dk} {size : Nat} {x : Rt} {l m : List ByteArray} {t : Nat} {s : ByteArray} (h : Founds d size x l t) (hs : splitB l = some (s, m)) : d.Looks s m 0 (some (x, t)) :=
  .ok (by rw [h.live.sec]; exact h.big) h.load h.runs hs
end Go.Ofp
end

section
/- Vaults: found, in one word; Look. -/
set_option linter.unusedSimpArgs false
set_option linter.unusedVariables false
namespace Go.Proofs.Ytlhpibniecfofaa
open Go.RowKit Go.Ofp
set_option linter.unusedVariables false
set_option maxRecDepth 100000
set_option maxHeartbeats 4000000

/-- What found tells: the memory behind it. -/
def FoundM (F : List Nat) (bd : Nat) (sv wv : Value) (d : Dk) (o : Option (Rt × Nat)) (m : List ByteArray) (rt : Rt) (pv v : Value) (w w' : World) : Prop :=
  (o = none ∧ rt = Rt.none ∧ pv = .pointer none ∧ St w F (Ch.row 9 1 v m.length (m.map vs) :: dks bd sv wv d) w') ∨
  (∃ x t g, o = some (x, t) ∧ rt = x ∧ pv = .pointer (some ⟨g, 0, none⟩) ∧ x.ok = true ∧ t ≤ 1099511627776 ∧ x.head.toNat ≤ t ∧ t ≤ x.head.toNat + (d.sec.length - 2) ∧ St w F (Ch.row 9 1 v m.length (m.map vs) :: rng g bd ⟨2, d.sec.length - 2, x.head.toNat, t, x.life.toNat⟩ :: dks bd sv wv d) w')
theorem vlfound_any (bd : Nat) (sv wv : Value) (d : Dk) (size k : Nat) (w : World) (h : St w (feet (dks bd sv wv d)) (dks bd sv wv d) w) (hfit : d.Fit size k) (hs : size ≤ 100000) (hk : k ≤ 90000) :
    Calls Try.prog 94 #[.pointer (some ⟨bd, 0, none⟩)] w fun e w' => ∃ text m er o rt pv v, d.Looks text m er o ∧ e = .returned (.tuple #[.agg #[.int .i64 rt.seq, .int .i64 rt.life, .int .i64 rt.head], pv, .string text, v, .int .i64 er]) ∧ FoundM (feet (dks bd sv wv d)) bd sv wv d o m rt pv v w w' := by
  have hsz := hfit.sec
  by_cases h3 : d.sec.length < 3
  · refine (vlfound_small bd sv wv d w h (by omega) h3).mono ?_
    rintro e w' ⟨rfl, hk1⟩
    exact ⟨_, [], _, none, Rt.none, _, _, .small h3, rfl, .inl ⟨rfl, rfl, rfl, hk1.nilrow _ _⟩⟩
  · by_cases he : d.load.2 = 0
    · obtain ⟨x, hx⟩ : ∃ x, d.load = (x, 0) := ⟨d.load.1, by rw [← he]⟩
      obtain ⟨hok, hdead⟩ := Dk.load_ok hx
      refine (vlfound_some bd sv wv d x size k w h hfit hs hk (by omega) hx hok hdead).mono ?_
      rintro e w' ⟨recs, t, hr, ⟨h1, rfl, h2⟩ | ⟨text, m, g, v, h1, rfl, h2⟩⟩
      · exact ⟨_, [], _, none, Rt.none, _, _, .bad (by omega) hx hr h1, rfl, .inl ⟨rfl, rfl, rfl, h2.nilrow _ _⟩⟩
      · have hxi := (Rt.ok_iff x).1 hok
        have hle := hr.le (by simp [Dk.vring])
        have htp := hr.top (by omega)
        refine ⟨text, m, _, some (x, t), x, _, v, .ok (by omega) hx hr h1, rfl, .inr ⟨x, t, g, rfl, rfl, rfl, hok, htp, by omega, ?_, h2⟩⟩
        have := hle.2
        simp only [Dk.vring] at this
        exact this
    · refine (vlfound_noroot bd sv wv d size k w h hfit hs hk (by omega) he).mono ?_
      rintro e w' ⟨rfl, hk1⟩
      exact ⟨_, [], _, none, Rt.none, _, _, .noroot (by omega) he, rfl, .inl ⟨rfl, rfl, rfl, hk1.nilrow _ _⟩⟩
/-- The same, of all pieces whichever: what lies there. -/
theorem FoundM.row {F : List Nat} {bd : Nat} {sv wv : Value} {d : Dk} {o : Option (Rt × Nat)} {m : List ByteArray} {rt : Rt} {pv v : Value} {w w' : World} (h : FoundM F bd sv wv d o m rt pv v w w') : St w F (Ch.row 9 1 v m.length (m.map vs) :: (dks bd sv wv d ++ [])) w' := by
  rw [List.append_nil]
  rcases h with ⟨-, -, -, h⟩ | ⟨x, t, g, -, -, -, -, -, -, -, h⟩
  · exact h
  · exact h.drop1
theorem vllook_any (bd : Nat) (sv wv : Value) (d : Dk) (size k : Nat) (w : World) (h : St w (feet (dks bd sv wv d)) (dks bd sv wv d) w) (hfit : d.Fit size k) (hs : size ≤ 100000) (hk : k ≤ 90000) :
    Calls Try.prog 63 #[.pointer (some ⟨bd, 0, none⟩)] w fun e w' => ∃ text m er o v, d.Looks text m er o ∧ e = .returned (.tuple #[.string text, v, .int .i64 er]) ∧ St w (feet (dks bd sv wv d)) (Ch.row 9 1 v m.length (m.map vs) :: dks bd sv wv d) w' := by
  have cF := Lib.hid (vlfound_any bd sv wv d size k w h hfit hs hk)
  have ez := elem_root
  clear h hfit
  go_enter Try.func63, Try.ntmps63
  go_wp2_with (first
    | (go_at_call 94; (with_reducible refine cF.out.mono ?_); rintro _ w5 ⟨text, m, er, o, rt, pv, v, hL, rfl, hM⟩; have hS := hM.row; clear hM; obtain ⟨av, cv, rfl, -⟩ := hS.row 0 rfl)
    | ((with_reducible refine wpList_alloc_st hS rfl rfl ez ?_); intro gN w1 hS1; clear hS; have hS := hS1; clear hS1)
    | (with_reducible refine wpList_box_st hS rfl rfl rfl ?_; intro g1 w1 hS1; clear hS; replace hS := hS1; clear hS1) | (with_reducible refine wpList_box1_st hS rfl rfl rfl ?_; intro g1 w1 hS1; clear hS; replace hS := hS1; clear hS1) | (with_reducible refine wpList_alloc_st hS rfl rfl (by assumption) ?_; intro g1 w1 hS1; clear hS; replace hS := hS1; clear hS1) | (with_reducible refine wpList_alloc1_st hS rfl rfl (by assumption) rfl ?_; intro g1 w1 hS1; clear hS; replace hS := hS1; clear hS1) | ((with_reducible refine wpList_load_st 0 hS rfl rfl rfl rfl ?_ rfl ?_); focus (simp [scalarB, go_sem]; done)) | ((with_reducible refine wpList_loadall_st 0 hS rfl rfl rfl rfl ?_ (by kernel_rfl) ?_); focus (simp [rowB, go_sem]; done)) | ((with_reducible refine wpList_store_st 0 hS rfl rfl rfl rfl (by kernel_rfl) rfl rfl ?_); intro w1 hS1; clear hS; replace hS := hS1; clear hS1; try simp only [List.set_cons_zero, List.set_cons_succ, List.setIfInBounds_toArray, List.take_succ_cons, List.take_zero, List.drop_succ_cons, List.drop_zero, List.nil_append, List.cons_append, List.append_nil, List.drop_nil, List.take_nil, List.length_cons, List.length_nil, Nat.zero_add, Nat.add_zero, Nat.reduceAdd] at hS) | ((with_reducible refine wpList_storerow_st 0 hS rfl rfl rfl rfl (by kernel_rfl) rfl rfl rfl rfl ?_); intro w1 hS1; clear hS; replace hS := hS1; clear hS1; try simp only [List.set_cons_zero, List.set_cons_succ, List.setIfInBounds_toArray, List.take_succ_cons, List.take_zero, List.drop_succ_cons, List.drop_zero, List.nil_append, List.cons_append, List.append_nil, List.drop_nil, List.take_nil, List.length_cons, List.length_nil, Nat.zero_add, Nat.add_zero, Nat.reduceAdd] at hS))
  go_ret3
  exact ⟨text, m, er, o, _, hL, rfl, by simpa using hS.drop⟩
theorem looks_ok {d : Dk} {text : ByteArray} {m : List ByteArray} {er : Int} {p : Rt × Nat} (h : d.Looks text m er (some p)) : er = 0 := by
  cases h
  rfl
theorem build_vault (gr bd : Nat) (a b c : Int) (w : World) : (Instr.build 161 #[(0, .pointer (some ⟨gr, 0, none⟩)), (1, .pointer (some ⟨bd, 0, none⟩)), (2, .agg #[.int .i64 a, .int .i64 b, .int .i64 c])]).run Try.prog w = .ok (.agg #[.pointer (some ⟨gr, 0, none⟩), .pointer (some ⟨bd, 0, none⟩), .int .i64 a, .int .i64 b, .int .i64 c, .bool false]) w := by kernel_rfl
theorem results_tmp4v {fn : Func} {t u v x : Tmp} (h : fn.results = #[.tmp t, .tmp u, .tmp v, .tmp x]) (tmps : Array Value) (P : Program) (w : World) :
    (results fn tmps).run P w = .ok (.tuple #[tmps.getD t undef, tmps.getD u undef, tmps.getD v undef, tmps.getD x undef]) w := by
  simp [results, h]
theorem vlfound_at (bd : Nat) (sv wv : Value) (d : Dk) (size k : Nat) (text : ByteArray) (m : List ByteArray) (er : Int) (x : Rt) (t : Nat) (hL : d.Looks text m er (some (x, t))) (w : World) (h : St w (feet (dks bd sv wv d)) (dks bd sv wv d) w) (hfit : d.Fit size k) (hs : size ≤ 100000) (hk : k ≤ 90000) :
    Calls Try.prog 94 #[.pointer (some ⟨bd, 0, none⟩)] w fun e w' => ∃ gr av cv, e = .returned (.tuple #[.agg #[.int .i64 x.seq, .int .i64 x.life, .int .i64 x.head], .pointer (some ⟨gr, 0, none⟩), .string text, .slice av m.length cv, .int .i64 0]) ∧ St w (feet (dks bd sv wv d)) (Ch.row 9 1 (.slice av m.length cv) m.length (m.map vs) :: rng gr bd ⟨2, d.sec.length - 2, x.head.toNat, t, x.life.toNat⟩ :: (dks bd sv wv d ++ [])) w' := by
  refine (vlfound_any bd sv wv d size k w h hfit hs hk).mono ?_
  rintro e w' ⟨text', m', er', o, rt, pv, v, hL', rfl, hM⟩
  obtain ⟨rfl, rfl, rfl, rfl⟩ := hL.det hL'
  have he := looks_ok hL
  subst he
  rcases hM with ⟨h1, -⟩ | ⟨x', t', g, h1, rfl, rfl, -, -, -, -, h2⟩
  · cases h1
  · cases h1
    obtain ⟨av, cv, rfl, -⟩ := h2.row 0 rfl
    exact ⟨g, av, cv, rfl, by rw [List.append_nil]; exact h2⟩
/-- What is known of the root that a look finds. -/
theorem looks_root {d : Dk} {text : ByteArray} {m : List ByteArray} {er : Int} {x : Rt} {t : Nat} (h : d.Looks text m er (some (x, t))) : x.ok = true ∧ 3 ≤ d.sec.length ∧ t ≤ 1099511627776 ∧ x.head.toNat ≤ t ∧ t ≤ x.head.toNat + (d.sec.length - 2) := by
  cases h with
  | ok h3 he hr hs =>
    obtain ⟨hok, -⟩ := Dk.load_ok he
    have hxi := (Rt.ok_iff x).1 hok
    have hle := hr.le (by simp [Dk.vring])
    have htp := hr.top (by omega)
    have := hle.2
    simp only [Dk.vring] at this
    exact ⟨hok, h3, htp, by omega, this⟩
theorem vlopen_main (bd : Nat) (sv wv : Value) (d : Dk) (size k : Nat) (text : ByteArray) (m : List ByteArray) (er : Int) (x : Rt) (t : Nat) (hL : d.Looks text m er (some (x, t))) (hx : ¬ (x.seq = 4294967295 ∨ x.life = 4294967295)) (w : World) (h : St w (feet (dks bd sv wv d)) (dks bd sv wv d) w) (hfit : d.Fit size k) (hs : size ≤ 100000) (hk : k ≤ 90000) :
    Calls Try.prog 59 #[.pointer (some ⟨bd, 0, none⟩)] w fun e w' =>
      ((d.store ⟨x.seq + 1, x.life + 1, x.head⟩).2 ≠ 0 ∧ e = .returned (.tuple #[.pointer none, .string ⟨#[]⟩, .slice none 0 0, .int .i64 (d.store ⟨x.seq + 1, x.life + 1, x.head⟩).2]) ∧ ∃ wv', St w (feet (dks bd sv wv d)) (dks bd sv wv' (d.store ⟨x.seq + 1, x.life + 1, x.head⟩).1) w') ∨
      ((d.store ⟨x.seq + 1, x.life + 1, x.head⟩).2 = 0 ∧ ∃ wv' g gr v, e = .returned (.tuple #[.pointer (some ⟨g, 0, none⟩), .string text, v, .int .i64 0]) ∧
        St w (feet (dks bd sv wv d)) (Ch.row 9 1 v m.length (m.map vs) :: vts g gr bd sv wv' (d.store ⟨x.seq + 1, x.life + 1, x.head⟩).1 ⟨2, size - 2, x.head.toNat, t, x.life.toNat + 1⟩ ⟨x.seq + 1, x.life + 1, x.head⟩ false) w') := by
  have cF := vlfound_at bd sv wv d size k text m er x t hL w h hfit hs hk
  rw [hfit.sec] at cF
  replace cF := Lib.hid cF
  obtain ⟨hok, -, -, -, -⟩ := looks_root hL
  have hxi := (Rt.ok_iff x).1 hok
  have ez := elem_root
  obtain ⟨xs, xl, xh⟩ := x
  simp only at hx hxi
  have hb1 : (xs == 4294967295) = false := by rw [beq_eq_false_iff_ne]; exact fun e => hx (.inl e)
  have hb2 : (xl == 4294967295) = false := by rw [beq_eq_false_iff_ne]; exact fun e => hx (.inr e)
  have w1' : IntKind.i64.wrap (xs + 1) = xs + 1 := IntWalk.i64_in _ (by omega)
  have w2' : IntKind.i64.wrap (xl + 1) = xl + 1 := IntWalk.i64_in _ (by omega)
  have cS : ∀ W, St W (feet (dks bd sv wv d)) (dks bd sv wv d) W → Calls Try.prog 35 #[.pointer (some ⟨bd, 0, none⟩), .agg #[.int .i64 (xs + 1), .int .i64 (xl + 1), .int .i64 xh]] W fun e w' => e = .returned (.int .i64 (d.store ⟨xs + 1, xl + 1, xh⟩).2) ∧ ∃ wv', St W (feet (dks bd sv wv d)) (dks bd sv wv' (d.store ⟨xs + 1, xl + 1, xh⟩).1) w' :=
    fun W hh => tstore_any bd sv wv d size k ⟨xs + 1, xl + 1, xh⟩ W hh hfit hs (by omega)
  have cR : ∀ (gr : Nat) W, St W (feet [rng gr bd ⟨2, size - 2, xh.toNat, t, xl.toNat⟩]) [rng gr bd ⟨2, size - 2, xh.toNat, t, xl.toNat⟩] W → Calls Try.prog 56 #[.pointer (some ⟨gr, 0, none⟩), .int .i64 (xl + 1)] W fun e w' => e = .returned (.bool true) ∧ St W (feet [rng gr bd ⟨2, size - 2, xh.toNat, t, xl.toNat⟩]) [rng gr bd ⟨2, size - 2, xh.toNat, t, xl.toNat + 1⟩] w' := by
    intro gr W hh
    have hr : Rg.raise ⟨2, size - 2, xh.toNat, t, xl.toNat⟩ (xl + 1) = (⟨2, size - 2, xh.toNat, t, xl.toNat + 1⟩, true) := by
      rw [Rg.raise, if_neg (by simp only; omega)]
      simp only [Prod.mk.injEq, Rg.mk.injEq, true_and, and_true]
      omega
    have := rgraise_any gr bd ⟨2, size - 2, xh.toNat, t, xl.toNat⟩ (xl + 1) W hh (by simp only; omega)
    rw [hr] at this
    exact this
  obtain ⟨⟨d2, e2⟩, hst⟩ : ∃ z, d.store ⟨xs + 1, xl + 1, xh⟩ = z := ⟨_, rfl⟩
  rw [hst] at cS ⊢
  simp only at cS ⊢
  replace cS := Lib.hid cS
  replace cR := Lib.hid cR
  replace hxi := Lib.hid hxi
  have hbv := build_vault
  generalize hFe : feet (dks bd sv wv d) = F at cF ⊢
  clear h hL hfit hx hst hok
  by_cases he2 : e2 = 0
  · subst he2
    go_enter Try.func59, Try.ntmps59
    go_wp2_with (first
      | (go_at_call 94; (with_reducible refine cF.out.mono ?_); rintro _ w5 ⟨gr, av, cv, rfl, hS⟩) | ((with_reducible refine wpList_alloc_st hS rfl rfl ez ?_); intro gN w1 hS1; clear hS; have hS := hS1; clear hS1) | ((with_reducible refine wpList_gload_st 0 hS rfl (by with_unfolding_all rfl) rfl rfl ?_ rfl ?_); focus (simp [scalarB, go_sem]; done)) | (go_at_call 35; (with_reducible refine (cS.out _ (hS.preM (A := [_, _, _]) (B := dks bd sv _ d) (R := []))).mono ?_); rintro _ w8 ⟨rfl, wv8, hk8⟩; have hS1 := hS.callM (A := [_, _, _]) (B := dks bd sv _ d) (R := []) hk8; clear hS hk8; have hS := hS1; clear hS1; simp only [List.cons_append, List.nil_append] at hS)
      | (go_at_call 56; (with_reducible refine (cR.out _ _ (hS.preM (A := [_, _]) (B := [_]) (R := _))).mono ?_); rintro _ w9 ⟨rfl, hk9⟩; have hS1 := hS.callM (A := [_, _]) (B := [_]) (R := _) hk9; clear hS hk9; have hS := hS1; clear hS1; simp only [List.cons_append, List.nil_append] at hS)
      | (with_reducible refine wpList_box_st hS rfl rfl rfl ?_; intro g1 w1 hS1; clear hS; replace hS := hS1; clear hS1) | (with_reducible refine wpList_box1_st hS rfl rfl rfl ?_; intro g1 w1 hS1; clear hS; replace hS := hS1; clear hS1) | (with_reducible refine wpList_alloc_st hS rfl rfl (by assumption) ?_; intro g1 w1 hS1; clear hS; replace hS := hS1; clear hS1) | (with_reducible refine wpList_alloc1_st hS rfl rfl (by assumption) rfl ?_; intro g1 w1 hS1; clear hS; replace hS := hS1; clear hS1) | ((with_reducible refine wpList_load_st 0 hS rfl rfl rfl rfl ?_ rfl ?_); focus (simp [scalarB, go_sem]; done)) | ((with_reducible refine wpList_loadall_st 0 hS rfl rfl rfl rfl ?_ (by kernel_rfl) ?_); focus (simp [rowB, go_sem]; done)) | ((with_reducible refine wpList_store_st 0 hS rfl rfl rfl rfl (by kernel_rfl) rfl rfl ?_); intro w1 hS1; clear hS; replace hS := hS1; clear hS1; try simp only [List.set_cons_zero, List.set_cons_succ, List.setIfInBounds_toArray, List.take_succ_cons, List.take_zero, List.drop_succ_cons, List.drop_zero, List.nil_append, List.cons_append, List.append_nil, List.drop_nil, List.take_nil, List.length_cons, List.length_nil, Nat.zero_add, Nat.add_zero, Nat.reduceAdd] at hS) | ((with_reducible refine wpList_storerow_st 0 hS rfl rfl rfl rfl (by kernel_rfl) rfl rfl rfl rfl ?_); intro w1 hS1; clear hS; replace hS := hS1; clear hS1; try simp only [List.set_cons_zero, List.set_cons_succ, List.setIfInBounds_toArray, List.take_succ_cons, List.take_zero, List.drop_succ_cons, List.drop_zero, List.nil_append, List.cons_append, List.append_nil, List.drop_nil, List.take_nil, List.length_cons, List.length_nil, Nat.zero_add, Nat.add_zero, Nat.reduceAdd] at hS))
    refine bodyPost_ret (results_tmp4v rfl _ _ _) rfl ?_
    refine .inr ⟨by trivial, wv8, g1, gr, _, rfl, ?_⟩
    have hW := hS.drop1.swap
    simpa [vts, dks] using hW
  · have he2b : (e2 != 0) = true := by rw [bne_iff_ne]; exact he2
    have he2h := Lib.hid he2
    clear he2
    go_enter Try.func59, Try.ntmps59
    go_wp2_with (first
      | (go_at_call 94; (with_reducible refine cF.out.mono ?_); rintro _ w5 ⟨gr, av, cv, rfl, hS⟩) | ((with_reducible refine wpList_alloc_st hS rfl rfl ez ?_); intro gN w1 hS1; clear hS; have hS := hS1; clear hS1) | ((with_reducible refine wpList_gload_st 0 hS rfl (by with_unfolding_all rfl) rfl rfl ?_ rfl ?_); focus (simp [scalarB, go_sem]; done)) | (go_at_call 35; (with_reducible refine (cS.out _ (hS.preM (A := [_, _, _]) (B := dks bd sv _ d) (R := []))).mono ?_); rintro _ w8 ⟨rfl, wv8, hk8⟩; have hS1 := hS.callM (A := [_, _, _]) (B := dks bd sv _ d) (R := []) hk8; clear hS hk8; have hS := hS1; clear hS1; simp only [List.cons_append, List.nil_append] at hS)
      | (with_reducible refine wpList_box_st hS rfl rfl rfl ?_; intro g1 w1 hS1; clear hS; replace hS := hS1; clear hS1) | (with_reducible refine wpList_box1_st hS rfl rfl rfl ?_; intro g1 w1 hS1; clear hS; replace hS := hS1; clear hS1) | (with_reducible refine wpList_alloc_st hS rfl rfl (by assumption) ?_; intro g1 w1 hS1; clear hS; replace hS := hS1; clear hS1) | (with_reducible refine wpList_alloc1_st hS rfl rfl (by assumption) rfl ?_; intro g1 w1 hS1; clear hS; replace hS := hS1; clear hS1) | ((with_reducible refine wpList_load_st 0 hS rfl rfl rfl rfl ?_ rfl ?_); focus (simp [scalarB, go_sem]; done)) | ((with_reducible refine wpList_loadall_st 0 hS rfl rfl rfl rfl ?_ (by kernel_rfl) ?_); focus (simp [rowB, go_sem]; done)) | ((with_reducible refine wpList_store_st 0 hS rfl rfl rfl rfl (by kernel_rfl) rfl rfl ?_); intro w1 hS1; clear hS; replace hS := hS1; clear hS1; try simp only [List.set_cons_zero, List.set_cons_succ, List.setIfInBounds_toArray, List.take_succ_cons, List.take_zero, List.drop_succ_cons, List.drop_zero, List.nil_append, List.cons_append, List.append_nil, List.drop_nil, List.take_nil, List.length_cons, List.length_nil, Nat.zero_add, Nat.add_zero, Nat.reduceAdd] at hS) | ((with_reducible refine wpList_storerow_st 0 hS rfl rfl rfl rfl (by kernel_rfl) rfl rfl rfl rfl ?_); intro w1 hS1; clear hS; replace hS := hS1; clear hS1; try simp only [List.set_cons_zero, List.set_cons_succ, List.setIfInBounds_toArray, List.take_succ_cons, List.take_zero, List.drop_succ_cons, List.drop_zero, List.nil_append, List.cons_append, List.append_nil, List.drop_nil, List.take_nil, List.length_cons, List.length_nil, Nat.zero_add, Nat.add_zero, Nat.reduceAdd] at hS))
    refine bodyPost_ret (results_tmp4v rfl _ _ _) rfl ?_
    exact .inl ⟨he2h.out, rfl, wv8, by simpa using hS.drop.drop.drop⟩
end Go.Proofs.Ytlhpibniecfofaa
end

section
/- Vaults: what lies on a disk when the power goes: plain law. -/
set_option linter.unusedSimpArgs false
set_option linter.unusedVariables false
namespace Go.Ofp
open Pcs
namespace Dk
/-- A disk with a fuse. -/
def fz (d : Dk) (f : Int) : Dk := ⟨d.sec, d.wait, f, d.dead⟩
theorem crash_still {d : Dk} (hw : d.wait = []) (keep : List Int) : d.crash keep = ⟨d.sec, [], -1, false⟩ := by rw [crash, hw]; rfl
theorem sync_eq {d : Dk} {n : Nat} (h : d.Live n) (hn : 0 < n) : d.sync = ({ d with sec := done d.sec d.wait, wait := [] }, 0) := by
  have hr : d.ready 0 = 0 := by rw [ready, if_neg (by simp [h.dead]), if_neg (by have := h.sec; omega)]
  have hst : d.step = d := by
    have hf := h.fuse
    unfold step
    rw [if_neg (by omega), if_neg (by omega)]
  rw [sync, if_pos hr, hst, if_neg (by simp [h.dead])]
/-- A sync with a fuse. -/
theorem sync_fz {d : Dk} {n : Nat} (h : d.Live n) (hn : 0 < n) (f : Int) : (∃ g, (d.fz f).sync = (d.sync.1.fz g, 0)) ∨ (d.fz f).sync = (⟨d.sec, d.wait, 0, true⟩, 15) := by
  rw [sync_eq h hn]
  have hr : (d.fz f).ready 0 = 0 := by rw [ready, if_neg (by simp [fz, h.dead]), if_neg (by have := h.sec; simp only [fz]; omega)]
  by_cases h0 : f = 0
  · right
    subst h0
    have hst : (d.fz 0).step = ⟨d.sec, d.wait, 0, true⟩ := by
      unfold step
      rw [if_pos (by rfl)]
      rfl
    rw [sync, if_pos hr, hst, if_pos rfl]
  · left
    by_cases h1 : 0 < f
    · have hst : (d.fz f).step = d.fz (f - 1) := by
        unfold step
        rw [if_neg (by simpa [fz] using h0), if_pos (by simpa [fz] using h1)]
        rfl
      refine ⟨f - 1, ?_⟩
      rw [sync, if_pos hr, hst, if_neg (by simp [fz, h.dead])]
      rfl
    · have hst : (d.fz f).step = d.fz f := by
        unfold step
        rw [if_neg (by simpa [fz] using h0), if_neg (by simpa [fz] using h1)]
      refine ⟨f, ?_⟩
      rw [sync, if_pos hr, hst, if_neg (by simp [fz, h.dead])]
      rfl
end Dk
theorem Founds.still {d : Dk} {size : Nat} {x : Rt} {l : List ByteArray} {t : Nat} (h : Founds d size x l t) (keep : List Int) : Founds (d.crash keep) size x l t := by
  rw [Dk.crash_still h.wait]
  have hsee : ∀ k : Int, (⟨d.sec, [], -1, false⟩ : Dk).see k = d.see k := fun k => by rw [Dk.see_none h.wait, Dk.see_none rfl]
  have hl : (⟨d.sec, [], -1, false⟩ : Dk).Live size := ⟨rfl, by simp, h.live.sec⟩
  have hbig := h.big
  have e : (⟨d.sec, [], -1, false⟩ : Dk).pcs 2 (size - 2) = d.pcs 2 (size - 2) := pcs_same h.live.dead rfl h.live.sec h.live.sec (by omega) (by omega) fun k _ _ => hsee k
  refine ⟨hl, ⟨h.ok.pos, h.ok.sec, by simp⟩, hbig, rfl, h.root.same (hsee 0) (hsee 1), ?_, ?_⟩
  · rw [e]; exact h.chain
  · rw [e]; exact h.cap
theorem Pcs.Chain.lower {P : Nat → Option Pc} {top : Nat} {L L' least : Int} {i : Nat} {l : List ByteArray} {e : Nat} {z : Int} (h : Chain P top L' least i l e z) (hL : L ≤ L') {i0 : Nat} (hi : i0 ≤ i) (hc : ∀ j p, i0 ≤ j → j < top → P j = some p → p.life ≤ L) : Chain P top L least i l e z := by
  induction h with
  | nil => exact .nil
  | cons h1 _ ih =>
    obtain ⟨m, h0, h3, h4, -⟩ := rec1_some h1
    rw [rec1_life2 hL fun j p a b => hc j p (by omega) b] at h1
    exact .cons h1 (ih (by omega))
/-- What is there behind a fall in the midst of writes. -/
theorem Gone.founds {d d2 : Dk} {size : Nat} {x : Rt} {r : Rg} {l rest : List ByteArray} (h : Lies d size x r l) (hG : Gone d r d2 rest) (hok : d2.Ok) (keep : List Int) (hlife : x.life + 1 < 4294967296) :
    ∃ k t, k ≤ rest.length ∧ Founds (d2.crash keep) size x (l ++ rest.take k) t := by
  have hS := h.stands
  have e1 := h.src
  have e2 := h.n
  have e3 := h.head
  have e4 := h.life
  obtain ⟨k, t, hk, -, hst, hw⟩ := hG.crash hS h.wait hok keep (by omega)
  refine ⟨k, t, hk, ?_⟩
  have hbig := h.big
  obtain ⟨hsec, L, e, hwl, hrow, he, hetop, hlf, hlay⟩ := hG
  have hlive := hst.live
  have hmay : Dk.May d.sec d2.wait (d2.crash keep).sec := by
    have h0 : Dk.May d.sec d2.wait d2.sec := fun k s hs => .inl (by rw [← hsec]; exact hs)
    exact Dk.may_fall (fun x hx => (hok.wait x hx).1) keep d2.wait 0 d2.sec (fun x hx => hx) h0
  have hl1 := hlive.sec
  have hl2 := hS.live.sec
  -- the root's sectors are as they were
  have hroot : ∀ j : Nat, j < 2 → (d2.crash keep).see (j : Int) = d.see j := by
    intro j hj
    rw [Dk.see_none (by rfl), Dk.see_none h.wait]
    simp only [Int.toNat_natCast]
    have hlt : j < (d2.crash keep).sec.length := by omega
    rcases hmay j _ (List.getElem?_eq_getElem hlt) with k1 | ⟨w, hw, hp, -⟩
    · rw [List.getD_eq_getElem?_getD, List.getElem?_eq_getElem hlt, Option.getD_some, List.getD_eq_getElem?_getD, k1, Option.getD_some]
    · exfalso
      rw [hwl] at hw
      have := wts_far hw hS.ring.pos
      omega
  -- no piece has a greater life
  have hcap : ∀ j p, r.head ≤ j → j < r.head + r.n → (d2.crash keep).pcs r.src r.n j = some p → p.life ≤ r.life := by
    intro j p h1 h2 hp
    have hs := hS.ring.sect j
    rw [Dk.pcs_see hlive.dead (by omega), Dk.see_none (by rfl)] at hp
    simp only [Int.toNat_natCast] at hp
    have hlt : r.src + j % r.n < (d2.crash keep).sec.length := by omega
    rw [List.getD_eq_getElem?_getD, List.getElem?_eq_getElem hlt, Option.getD_some] at hp
    rcases hmay _ _ (List.getElem?_eq_getElem hlt) with k1 | ⟨w, hw, hwp, k1⟩
    · refine hS.cap j p h1 h2 ?_
      rw [Dk.pcs_see hS.live.dead (by omega), Dk.see_none h.wait]
      simp only [Int.toNat_natCast]
      rw [List.getD_eq_getElem?_getD, k1, Option.getD_some]
      exact hp
    · rw [hwl] at hw
      obtain ⟨q, pq, hq, rfl⟩ := wts_mem hw
      obtain ⟨hpo, hpp⟩ := hrow q pq hq
      rcases k1 with k1 | k1
      · unfold Dk.pcSc at hp
        rw [if_pos k1] at hp
        cases hp
      · rw [k1] at hp
        simp only at hp
        by_cases hj : pq.place = (j : Int)
        · rw [Dk.pcSc_put hpo hj] at hp
          cases hp
          exact Int.le_of_eq (hlf p (List.mem_of_getElem? hq))
        · rw [pcSc_other (j := j) (Dk.pcSc_put (i := r.tail + q) hpo (by rw [hpp])) (by omega)] at hp
          cases hp
  obtain ⟨y, hc, hstop⟩ := hst.chain
  simp only at hc hstop
  have hc2 := hc.lower (L := r.life) (by first | omega | (simp only; omega)) (Nat.le_refl _) hcap
  have htl := hst.ring.tail
  simp only at htl
  rw [rec1_life2 (L := r.life) (by first | omega | (simp only; omega)) fun j p a b => hcap j p (by omega) b] at hstop
  rw [e1, e2, e3, e4] at hc2 hstop
  exact ⟨hlive, hst.ok, hbig, hw, h.root.same (hroot 0 (by omega)) (hroot 1 (by omega)), ⟨y, hc2, hstop⟩, fun i p a b hp => by rw [← e4]; exact hcap i p (by omega) (by omega) (by rw [e1, e2]; exact hp)⟩
/-- A record is put with a fuse. -/
theorem Lies.add_fuse {d : Dk} {size : Nat} {x : Rt} {r : Rg} {l : List ByteArray} (h : Lies d size x r l) (s : ByteArray) (f : Int) :
    (r.add (d.fz f) s = (r, d.fz f, 8) ∧ r.add d s = (r, d, 8)) ∨ (∃ g, (r.add d s).2.2 = 0 ∧ r.add (d.fz f) s = ((r.add d s).1, (r.add d s).2.1.fz g, 0)) ∨ ((r.add (d.fz f) s).2.2 = 15 ∧ Gone d r (r.add (d.fz f) s).2.1 [s]) := by
  have hS := h.stands
  rcases hS.add s with ⟨h1, -⟩ | ⟨h1, h2, h3⟩
  · obtain ⟨hadd, hc, hfree⟩ := Rg.add_wait hS.ring hS.live h1
    have hn : cutB r.life r.tail s ≠ [] := by
      intro e
      have h1 := cutB_length hc
      rw [e] at h1
      have := manyB_pos s.size
      simp at h1
      omega
    have hnot : ¬ (r.free < manyB s.size ∨ cutB r.life r.tail s = []) := fun e => e.elim (fun e => absurd e (by omega)) hn
    by_cases hf : f < 0
    · right; left
      have hl : (d.fz f).Live size := ⟨hS.live.dead, hf, hS.live.sec⟩
      have hw := Dk.writes_wait _ hl (Rg.lay_ok hS.ring hc)
      refine ⟨f, h1, ?_⟩
      rw [hadd, Rg.add, if_neg hnot, hw, if_pos rfl]
      rfl
    · obtain ⟨g, hg⟩ := Int.eq_ofNat_of_zero_le (show 0 ≤ f by omega)
      subst hg
      obtain ⟨hw1, hw2⟩ := Dk.writes_fuse (n := size) (r.lay (cutB r.life r.tail s)) (d := d.fz g) g hS.live.dead rfl hS.live.sec (Rg.lay_ok hS.ring hc)
      by_cases hlen : (r.lay (cutB r.life r.tail s)).length ≤ g
      · right; left
        refine ⟨((g - (r.lay (cutB r.life r.tail s)).length : Nat) : Int), h1, ?_⟩
        rw [hadd, Rg.add, if_neg hnot, hw1 hlen, if_pos rfl]
        rfl
      · right; right
        have he : (r.add (d.fz g) s).2.2 = 15 := by rw [Rg.add, if_neg hnot, hw2 (by omega), if_neg (by simp)]
        refine ⟨he, ?_⟩
        have hW : Waits d r size (d.fz g) r [] := Waits.start hS h.wait (f := (g : Int)) (by omega)
        rcases hW.add hS.live.sec s with k | k | k
        · omega
        · omega
        · simpa using k.2
  · left
    have hb : r.free < manyB s.size ∨ cutB r.life r.tail s = [] := by
      unfold Rg.add at h1
      split at h1
      · assumption
      · rename_i hc
        exfalso
        have hn : cutB r.life r.tail s ≠ [] := fun e => hc (.inr e)
        have hw := Dk.writes_wait _ hS.live (Rg.lay_ok hS.ring (Rg.cut_len hn).2)
        rw [hw, if_pos rfl] at h1
        cases h1
    exact ⟨by rw [Rg.add, if_pos hb], by rw [Rg.add, if_pos hb]⟩
theorem Lies.fitz {d : Dk} {size : Nat} {x : Rt} {r : Rg} {l : List ByteArray} (h : Lies d size x r l) {f : Int} (hf : -9223372036854775808 ≤ f ∧ f ≤ 9223372036854775807) : (d.fz f).Fit size 0 :=
  ⟨⟨h.stands.ok.pos, h.stands.ok.sec, h.stands.ok.wait⟩, h.stands.live.sec, by show d.wait.length ≤ 0; rw [h.wait]; exact Nat.le_refl _, hf⟩
/-- A vault's record with a fuse. -/
theorem Lies.vadd_fuse {d : Dk} {size : Nat} {x : Rt} {r : Rg} {l : List ByteArray} (h : Lies d size x r l) (s : ByteArray) {f : Int} (hf : -9223372036854775808 ≤ f ∧ f ≤ 9223372036854775807) (keep : List Int) (hlife : x.life + 1 < 4294967296) :
    ((d.fz f).vadd r false s = (r, d.fz f, false, 8)) ∨ (∃ g, (d.vadd r false s).2.2.2 = 0 ∧ (d.fz f).vadd r false s = ((d.vadd r false s).1, (d.vadd r false s).2.1.fz g, false, 0)) ∨
      (((d.fz f).vadd r false s).2.2.2 = 15 ∧ ∃ k t, k ≤ 1 ∧ Founds (((d.fz f).vadd r false s).2.1.crash keep) size x (l ++ [s].take k) t) := by
  have hbig := h.big
  have hFit := (h.fitz hf).vadd r false s
  rcases h.add_fuse s f with ⟨k1, k2⟩ | ⟨g, k1, k2⟩ | ⟨k1, k2⟩
  · left
    rw [Dk.vadd, k1, if_pos rfl]
  · have hst := (h.stands.add s).elim (fun k => k.2.1) (fun k => absurd k.1 (by omega))
    rcases Dk.sync_fz hst.live (by omega) g with ⟨g2, hs⟩ | hs
    · right; left
      have hsy := hst.sync.1
      have e : d.vadd r false s = ((r.add d s).1, (r.add d s).2.1.sync.1, false, 0) := by
        rw [Dk.vadd, if_neg (by omega), if_pos k1, hsy]
        rfl
      refine ⟨g2, by rw [e], ?_⟩
      rw [e, Dk.vadd, k2]
      simp only
      rw [if_neg (by decide), if_pos (by trivial), hs]
      rfl
    · right; right
      have e : (d.fz f).vadd r false s = ((r.add d s).1, ⟨(r.add d s).2.1.sec, (r.add d s).2.1.wait, 0, true⟩, true, 15) := by
        rw [Dk.vadd, k2]
        simp only
        rw [if_neg (by decide), if_pos (by trivial), hs]
        rfl
      rw [e] at hFit ⊢
      refine ⟨rfl, ?_⟩
      have hG : Gone d r ⟨(r.add d s).2.1.sec, (r.add d s).2.1.wait, 0, true⟩ [s] := by
        obtain ⟨hadd, hc, hfree⟩ := Rg.add_wait h.stands.ring h.stands.live k1
        have hlen := cutB_length hc
        have htl := h.stands.ring.tail
        rw [hadd]
        simp only [h.wait, List.nil_append]
        unfold Rg.free at hfree
        refine ⟨rfl, cutB r.life r.tail s, r.tail + manyB s.size, rfl, Row.cut hc, by omega, by omega, ?_, ?_⟩
        · intro p hp
          obtain ⟨j, hj, rfl⟩ := List.getElem_of_mem hp
          have hp2 : (cutB r.life r.tail s)[j]? = some (cutB r.life r.tail s)[j] := List.getElem?_eq_getElem hj
          rw [cutB_get hc] at hp2
          split at hp2
          · rw [← Option.some.inj hp2]; rfl
          · cases hp2
        · exact .cons hc (by omega) (fun j hj => by unfold rowAt; rw [if_pos (by omega)]; congr 1; omega) .nil
      obtain ⟨k, t, hk, hF⟩ := hG.founds h hFit.ok keep hlife
      exact ⟨k, t, by simpa using hk, hF⟩
  · right; right
    have e : (d.fz f).vadd r false s = ((r.add (d.fz f) s).1, (r.add (d.fz f) s).2.1, true, 15) := by rw [Dk.vadd, if_neg (by omega), if_neg (by omega), k1]
    rw [e] at hFit ⊢
    refine ⟨rfl, ?_⟩
    obtain ⟨k, t, hk, hF⟩ := k2.founds h hFit.ok keep hlife
    exact ⟨k, t, by simpa using hk, hF⟩
/-- A root is stored with a fuse. -/
theorem store_fuse {d : Dk} {n : Nat} {x y : Rt} (hr : d.Roots x) (h : d.Live n) (hok : d.Ok) (hw : d.wait = []) (h2 : 2 ≤ n) (hy : y.ok = true) (hs : y.seq = x.seq + 1) (f : Int) (keep : List Int) :
    (∃ g, (d.fz f).store y = ((d.store y).1.fz g, 0)) ∨ (((d.fz f).store y).2 = 15 ∧ (((d.fz f).store y).1.crash keep).Live n ∧ (((d.fz f).store y).1.crash keep).Ok ∧ (((d.fz f).store y).1.crash keep).wait = [] ∧
      (∀ k : Nat, 2 ≤ k → k < n → (((d.fz f).store y).1.crash keep).see k = d.see k) ∧ ((((d.fz f).store y).1.crash keep).Roots x ∨ (((d.fz f).store y).1.crash keep).Roots y)) := by
  have hp : y.putB = y.secB := if_pos hy
  have hm := Int.emod_nonneg y.seq (show (2 : Int) ≠ 0 by omega)
  have hm2 := Int.emod_lt_of_pos y.seq (show (0 : Int) < 2 by omega)
  have hw0 := Dk.write_live h hm (by omega) y.secB_length
  have hwl := h.with_wait (d.wait ++ [⟨y.seq % 2, y.secB⟩])
  have hst : d.store y = ({ d with wait := d.wait ++ [⟨y.seq % 2, y.secB⟩] } : Dk).sync := by
    rw [Dk.store, if_neg (fun e => e.elim (fun e => by rw [hy] at e; cases e) (fun e => by have := h.sec; omega)), hp, hw0, if_pos rfl]
  have hrd : (d.fz f).ready (y.seq % 2) = 0 := by rw [Dk.ready, if_neg (by simp [Dk.fz, h.dead]), if_neg (by have := h.sec; simp only [Dk.fz]; omega)]
  -- the fall
  have hfall : ∀ e : Dk, e = ⟨d.sec, [⟨y.seq % 2, y.secB⟩], 0, true⟩ → (e.crash keep).Live n ∧ (e.crash keep).Ok ∧ (e.crash keep).wait = [] ∧ (∀ k : Nat, 2 ≤ k → k < n → (e.crash keep).see k = d.see k) ∧ ((e.crash keep).Roots x ∨ (e.crash keep).Roots y) := by
    rintro e rfl
    have hsec := h.sec
    have hoke : (⟨d.sec, [⟨y.seq % 2, y.secB⟩], 0, true⟩ : Dk).Ok := ⟨hok.pos, hok.sec, fun w hw' => by
      simp at hw'
      subst hw'
      exact ⟨hm, by simp only; omega, y.secB_length⟩⟩
    have ec : (⟨d.sec, [⟨y.seq % 2, y.secB⟩], 0, true⟩ : Dk).crash keep = ⟨Dk.fall1 keep d.sec 0 ⟨y.seq % 2, y.secB⟩, [], -1, false⟩ := rfl
    have hokc := hoke.crash keep
    rw [ec] at hokc ⊢
    have hlen : (Dk.fall1 keep d.sec 0 ⟨y.seq % 2, y.secB⟩).length = n := by
      unfold Dk.fall1
      split
      · rw [List.length_set]; exact hsec
      · split
        · rw [List.length_modify]; exact hsec
        · exact hsec
    have hsee : ∀ k : Nat, k < n → ((k : Int) ≠ y.seq % 2 → (⟨Dk.fall1 keep d.sec 0 ⟨y.seq % 2, y.secB⟩, [], -1, false⟩ : Dk).see k = d.see k) ∧ ((k : Int) = y.seq % 2 → (⟨Dk.fall1 keep d.sec 0 ⟨y.seq % 2, y.secB⟩, [], -1, false⟩ : Dk).see k = d.see k ∨ (⟨Dk.fall1 keep d.sec 0 ⟨y.seq % 2, y.secB⟩, [], -1, false⟩ : Dk).see k = ⟨y.secB, false⟩ ∨ (⟨Dk.fall1 keep d.sec 0 ⟨y.seq % 2, y.secB⟩, [], -1, false⟩ : Dk).see k = { d.see k with bad := true }) := by
      intro k hk
      rw [Dk.see_none rfl, Dk.see_none hw]
      simp only [Int.toNat_natCast, List.getD_eq_getElem?_getD]
      unfold Dk.fall1
      constructor
      · intro hne
        split
        · rw [List.getElem?_set_ne (by simp only; omega)]
        · split
          · rw [List.getElem?_modify_ne _ _ (by simp only; omega)]
          · rfl
      · intro heq
        split
        · right; left
          rw [List.getElem?_set, if_pos (by simp only; omega), if_pos (by simp only; omega)]
          rfl
        · split
          · right; right
            rw [List.getElem?_modify, List.getElem?_eq_getElem (by omega)]
            simp [show (y.seq % 2).toNat = k by omega]
          · left; rfl
    refine ⟨⟨rfl, by simp, hlen⟩, hokc, rfl, fun k k1 k2 => (hsee k k2).1 (by omega), ?_⟩
    obtain ⟨hx, hd⟩ := hr
    have h0 := hsee 0 (by omega)
    have h1 := hsee 1 (by omega)
    rcases hd with ⟨q, ha, hb⟩ | ⟨q, hb, ha⟩
    · have e0 := h0.1 (by omega)
      rcases h1.2 (by omega) with k | k | k
      · exact .inl (Dk.Roots.same ⟨hx, .inl ⟨q, ha, hb⟩⟩ e0 k)
      · right
        refine ⟨hy, .inr ⟨by omega, k, ?_⟩⟩
        have e0' : (⟨Dk.fall1 keep d.sec 0 ⟨y.seq % 2, y.secB⟩, [], -1, false⟩ : Dk).see 0 = ⟨x.secB, false⟩ := e0.trans ha
        rw [e0']
        exact Dk.Less.sec hx (by omega)
      · left
        refine ⟨hx, .inl ⟨q, e0.trans ha, ?_⟩⟩
        have k' : (⟨Dk.fall1 keep d.sec 0 ⟨y.seq % 2, y.secB⟩, [], -1, false⟩ : Dk).see 1 = { d.see 1 with bad := true } := k
        rw [k']
        exact Dk.Less.bad
    · have e1 := h1.1 (by omega)
      rcases h0.2 (by omega) with k | k | k
      · exact .inl (Dk.Roots.same ⟨hx, .inr ⟨q, hb, ha⟩⟩ k e1)
      · right
        refine ⟨hy, .inl ⟨by omega, k, ?_⟩⟩
        have e1' : (⟨Dk.fall1 keep d.sec 0 ⟨y.seq % 2, y.secB⟩, [], -1, false⟩ : Dk).see 1 = ⟨x.secB, false⟩ := e1.trans hb
        rw [e1']
        exact Dk.Less.sec hx (by omega)
      · left
        refine ⟨hx, .inr ⟨q, e1.trans hb, ?_⟩⟩
        have k' : (⟨Dk.fall1 keep d.sec 0 ⟨y.seq % 2, y.secB⟩, [], -1, false⟩ : Dk).see 0 = { d.see 0 with bad := true } := k
        rw [k']
        exact Dk.Less.bad
  by_cases h0 : f = 0
  · right
    subst h0
    have hws : (d.fz 0).write (y.seq % 2) y.secB = (⟨d.sec, d.wait ++ [⟨y.seq % 2, y.secB⟩], 0, true⟩, 15) := by
      have e : (Dk.step { d.fz 0 with wait := (d.fz 0).wait ++ [⟨y.seq % 2, y.secB⟩] }) = ⟨d.sec, d.wait ++ [⟨y.seq % 2, y.secB⟩], 0, true⟩ := by
        unfold Dk.step
        rw [if_pos (by rfl)]
        rfl
      rw [Dk.write, if_pos hrd, if_pos y.secB_length, e]
      rfl
    have hz : (d.fz 0).store y = (⟨d.sec, d.wait ++ [⟨y.seq % 2, y.secB⟩], 0, true⟩, 15) := by
      rw [Dk.store, if_neg (fun e => e.elim (fun e => by rw [hy] at e; cases e) (fun e => by have := h.sec; simp only [Dk.fz] at e; omega)), hp, hws, if_neg (by simp)]
    rw [hz]
    exact ⟨rfl, hfall _ (by rw [hw]; rfl)⟩
  · obtain ⟨g, hg⟩ : ∃ g, (d.fz f).write (y.seq % 2) y.secB = (({ d with wait := d.wait ++ [⟨y.seq % 2, y.secB⟩] } : Dk).fz g, 0) := by
      have hdead := h.dead
      by_cases h1 : 0 < f
      · refine ⟨f - 1, ?_⟩
        have e : (Dk.step { d.fz f with wait := (d.fz f).wait ++ [⟨y.seq % 2, y.secB⟩] }) = ({ d with wait := d.wait ++ [⟨y.seq % 2, y.secB⟩] } : Dk).fz (f - 1) := by
          unfold Dk.step
          rw [if_neg (by simpa [Dk.fz] using h0), if_pos (by simpa [Dk.fz] using h1)]
          rfl
        rw [Dk.write, if_pos hrd, if_pos y.secB_length, e, if_neg (by simp [Dk.fz, hdead])]
      · refine ⟨f, ?_⟩
        have e : (Dk.step { d.fz f with wait := (d.fz f).wait ++ [⟨y.seq % 2, y.secB⟩] }) = ({ d with wait := d.wait ++ [⟨y.seq % 2, y.secB⟩] } : Dk).fz f := by
          unfold Dk.step
          rw [if_neg (by simpa [Dk.fz] using h0), if_neg (by simpa [Dk.fz] using h1)]
          rfl
        rw [Dk.write, if_pos hrd, if_pos y.secB_length, e, if_neg (by simp [Dk.fz, hdead])]
    have hz : (d.fz f).store y = (({ d with wait := d.wait ++ [⟨y.seq % 2, y.secB⟩] } : Dk).fz g).sync := by
      rw [Dk.store, if_neg (fun e => e.elim (fun e => by rw [hy] at e; cases e) (fun e => by have := h.sec; simp only [Dk.fz] at e; omega)), hp, hg, if_pos rfl]
    rcases Dk.sync_fz hwl (by omega) g with ⟨g2, hs2⟩ | hs2
    · left
      refine ⟨g2, ?_⟩
      rw [hz, hs2, hst]
    · right
      rw [hz, hs2]
      refine ⟨rfl, hfall _ (by simp only [hw]; rfl)⟩
theorem Founds.of_same {d d' : Dk} {size : Nat} {x y : Rt} {l : List ByteArray} {t : Nat} (h : Founds d size x l t) (hl : d'.Live size) (hok : d'.Ok) (hw : d'.wait = []) (hs : ∀ k : Nat, 2 ≤ k → k < size → d'.see k = d.see k) (hr : d'.Roots y) (hh : y.head = x.head) (hlf : x.life ≤ y.life) : Founds d' size y l t := by
  have hbig := h.big
  have hx := (Rt.ok_iff x).1 h.rootOk
  have e : d'.pcs 2 (size - 2) = d.pcs 2 (size - 2) := pcs_same h.live.dead hl.dead h.live.sec hl.sec (by omega) (by omega) hs
  obtain ⟨z, hc, hst⟩ := h.chain
  have htl := hc.le (by omega)
  refine ⟨hl, hok, hbig, hw, hr, ⟨z, ?_, ?_⟩, ?_⟩
  · rw [e, hh]
    exact hc.same (by omega) (fun _ _ _ => rfl) hlf
  · rw [e, hh, rec1_life2 (L := x.life) hlf fun j p a b => h.cap j p (by omega) b]
    exact hst
  · intro i p a b hp
    rw [hh] at a b
    rw [e] at hp
    have := h.cap i p a b hp
    omega
/-- AN ADD, AND A FALL. -/
theorem Lies.fall_add {d : Dk} {size : Nat} {x : Rt} {r : Rg} {l : List ByteArray} (h : Lies d size x r l) (s : ByteArray) {f : Int} (hf : -9223372036854775808 ≤ f ∧ f ≤ 9223372036854775807) (keep : List Int) (hlife : x.life + 1 < 4294967296) :
    ∃ l' t, Founds (((d.fz f).vadd r false s).2.1.crash keep) size x l' t ∧ ((((d.fz f).vadd r false s).2.2.2 = 0 ∧ l' = l ++ [s]) ∨ (((d.fz f).vadd r false s).2.2.2 = 15 ∧ (l' = l ∨ l' = l ++ [s])) ∨ (((d.fz f).vadd r false s).2.2.2 = 8 ∧ l' = l)) := by
  rcases h.vadd_fuse s hf keep hlife with k | ⟨g, k1, k2⟩ | ⟨k1, k, t, k2, k3⟩
  · rw [k]
    exact ⟨l, _, h.founds.still keep, .inr (.inr ⟨rfl, rfl⟩)⟩
  · rw [k2]
    obtain ⟨-, -, hL⟩ := (h.add s).resolve_right (fun k => by rw [k] at k1; cases k1)
    exact ⟨_, _, hL.founds.still keep, .inl ⟨rfl, rfl⟩⟩
  · refine ⟨_, t, k3, .inr (.inl ⟨k1, ?_⟩)⟩
    rcases Nat.le_one_iff_eq_zero_or_eq_one.1 k2 with rfl | rfl
    · left; simp
    · right; rfl
/-- A RENEW, AND A FALL. -/
theorem Lies.fall_renew {d : Dk} {size : Nat} {x : Rt} {r : Rg} {l : List ByteArray} (h : Lies d size x r l) (s : ByteArray) {f : Int} (hf : -9223372036854775808 ≤ f ∧ f ≤ 9223372036854775807) (keep : List Int) (hlife : x.life + 1 < 4294967296) (hseq : x.seq + 1 < 4294967296) :
    ∃ x' l' t, Founds (((d.fz f).vrenew r x false s).2.1.crash keep) size x' l' t ∧ x'.seq ≤ x.seq + 1 ∧ x'.life = x.life ∧ ((((d.fz f).vrenew r x false s).2.2.2.2 = 0 ∧ l' = [wholeB s]) ∨ (((d.fz f).vrenew r x false s).2.2.2.2 = 15 ∧ (l' = l ∨ l' = l ++ [wholeB s] ∨ l' = [wholeB s])) ∨ (((d.fz f).vrenew r x false s).2.2.2.2 = 8 ∧ l' = l)) := by
  have hbig := h.big
  have hne : x.seq ≠ 4294967295 := by omega
  rcases h.vadd_fuse (wholeB s) hf keep hlife with k | ⟨g, k1, k2⟩ | ⟨k1, k, t, k2, k3⟩
  · have e : (d.fz f).vrenew r x false s = (r, d.fz f, x, false, 8) := by rw [Dk.vrenew, if_neg (by simp), if_neg hne, k, if_neg (by simp)]
    rw [e]
    exact ⟨x, l, _, h.founds.still keep, by omega, rfl, .inr (.inr ⟨rfl, rfl⟩)⟩
  · obtain ⟨-, -, hL⟩ := (h.add (wholeB s)).resolve_right (fun k => by rw [k] at k1; cases k1)
    obtain ⟨r1, r2, r3, r4, hN⟩ := h.renew k1 hseq
    have hx := (Rt.ok_iff x).1 h.root.1
    have hy : (⟨x.seq + 1, x.life, r.tail⟩ : Rt).ok = true := hN.root.1
    rcases store_fuse hL.root hL.stands.live hL.stands.ok hL.wait (by omega) hy rfl g keep with ⟨g2, q⟩ | ⟨q, q1, q2, q3, q4, q5⟩
    · have e : (d.fz f).vrenew r x false s = (((d.vadd r false (wholeB s)).1.move r.tail).1, ((d.vadd r false (wholeB s)).2.1.store ⟨x.seq + 1, x.life, r.tail⟩).1.fz g2, ⟨x.seq + 1, x.life, r.tail⟩, false, 0) := by
        rw [Dk.vrenew, if_neg (by simp), if_neg hne, k2, if_pos rfl, q, if_pos rfl]
      rw [e]
      exact ⟨_, _, _, hN.founds.still keep, by simp only; omega, rfl, .inl ⟨rfl, rfl⟩⟩
    · obtain ⟨z, hz⟩ : ∃ z, ((d.vadd r false (wholeB s)).2.1.fz g).store ⟨x.seq + 1, x.life, r.tail⟩ = z := ⟨_, rfl⟩
      rw [hz] at q q1 q2 q3 q4 q5
      have e : (d.fz f).vrenew r x false s = ((d.vadd r false (wholeB s)).1, z.1, ⟨x.seq + 1, x.life, r.tail⟩, true, z.2) := by
        rw [Dk.vrenew, if_neg (by simp), if_neg hne, k2, if_pos rfl, hz, if_neg (by omega)]
      rw [e]
      rcases q5 with q5 | q5
      · exact ⟨x, _, _, hL.founds.of_same q1 q2 q3 q4 q5 rfl (Int.le_refl _), by omega, rfl, .inr (.inl ⟨q, .inr (.inl rfl)⟩)⟩
      · refine ⟨_, _, _, hN.founds.of_same q1 q2 q3 (fun k a b => ?_) q5 rfl (Int.le_refl _), by simp only; omega, rfl, .inr (.inl ⟨q, .inr (.inr rfl)⟩)⟩
        obtain ⟨-, -, -, -, s5⟩ := Dk.store_live hL.stands.live hL.stands.ok (by omega) hy
        rw [q4 k a b, s5 k b, if_neg (by simp only; omega)]
  · have e : (d.fz f).vrenew r x false s = (((d.fz f).vadd r false (wholeB s)).1, ((d.fz f).vadd r false (wholeB s)).2.1, x, ((d.fz f).vadd r false (wholeB s)).2.2.1, ((d.fz f).vadd r false (wholeB s)).2.2.2) := by
      rw [Dk.vrenew, if_neg (by simp), if_neg hne, if_neg (by omega)]
    rw [e]
    refine ⟨x, _, t, k3, by omega, rfl, .inr (.inl ⟨k1, ?_⟩)⟩
    rcases Nat.le_one_iff_eq_zero_or_eq_one.1 k2 with rfl | rfl
    · left; simp
    · right; left; rfl
/-- AN OPEN, AND A FALL. -/
theorem Founds.fall_open {d : Dk} {size : Nat} {x : Rt} {l : List ByteArray} {t : Nat} (h : Founds d size x l t) (f : Int) (keep : List Int) (hlife : x.life + 1 < 4294967296) (hseq : x.seq + 1 < 4294967296) :
    ∃ x', Founds (((d.fz f).store ⟨x.seq + 1, x.life + 1, x.head⟩).1.crash keep) size x' l t ∧ x'.seq ≤ x.seq + 1 ∧ x'.life ≤ x.life + 1 ∧ (((d.fz f).store ⟨x.seq + 1, x.life + 1, x.head⟩).2 = 0 ∨ ((d.fz f).store ⟨x.seq + 1, x.life + 1, x.head⟩).2 = 15) := by
  have hbig := h.big
  obtain ⟨s1, hL⟩ := h.open hseq hlife
  have hy := hL.root.1
  rcases store_fuse h.root h.live h.ok h.wait (by omega) hy rfl f keep with ⟨g, q⟩ | ⟨q, q1, q2, q3, q4, q5⟩
  · rw [q]
    exact ⟨_, hL.founds.still keep, by simp only; omega, by simp only; omega, .inl rfl⟩
  · rcases q5 with q5 | q5
    · exact ⟨x, h.of_same q1 q2 q3 q4 q5 rfl (Int.le_refl _), by omega, by omega, .inr q⟩
    · exact ⟨_, h.of_same q1 q2 q3 q4 q5 rfl (by simp only; omega), by simp only; omega, by simp only; omega, .inr q⟩
/-! What a vault's records are. -/
theorem first_whole (s : ByteArray) : firstB (wholeB s) = 0 := by simp [firstB, wholeB]
theorem first_step (s : ByteArray) : firstB (stepB s) = 1 := by simp [firstB, stepB]
theorem rest_whole (s : ByteArray) : restB (wholeB s) = s := by
  apply ba_ext
  have h1 : (⟨#[0]⟩ : ByteArray).size = 1 := rfl
  simp only [restB, wholeB, ByteArray.data_extract, ByteArray.data_append, ByteArray.size_append, h1]
  simp
  exact List.take_of_length_le (by rw [← ba_size]; omega)
theorem rest_step (s : ByteArray) : restB (stepB s) = s := by
  apply ba_ext
  have h1 : (⟨#[1]⟩ : ByteArray).size = 1 := rfl
  simp only [restB, stepB, ByteArray.data_extract, ByteArray.data_append, ByteArray.size_append, h1]
  simp
  exact List.take_of_length_le (by rw [← ba_size]; omega)
theorem vsteps_snoc {l m : List ByteArray} (h : vsteps l = some m) (s : ByteArray) : vsteps (l ++ [stepB s]) = some (m ++ [s]) ∧ vsteps (l ++ [wholeB s]) = some m := by
  induction l generalizing m with
  | nil =>
    cases h
    constructor
    · simp [vsteps, first_step, rest_step, step_size]
    · simp [vsteps, first_whole, whole_size]
  | cons a l ih =>
    rw [vsteps] at h
    split at h
    · cases h
    · rename_i hc
      obtain ⟨m', hm, rfl⟩ := Option.map_eq_some_iff.1 h
      obtain ⟨k1, k2⟩ := ih hm
      constructor
      · rw [List.cons_append, vsteps, if_neg hc, k1]
        simp only [Option.map_some]
        split <;> rfl
      · rw [List.cons_append, vsteps, if_neg hc, k2]
        simp only [Option.map_some]
theorem split_snoc {l m : List ByteArray} {t : ByteArray} (h : splitB l = some (t, m)) (s : ByteArray) : splitB (l ++ [stepB s]) = some (t, m ++ [s]) ∧ splitB (l ++ [wholeB s]) = some (t, m) := by
  cases l with
  | nil => cases h
  | cons a l =>
    rw [splitB] at h
    split at h
    · cases h
    · rename_i hc
      obtain ⟨m', hm, he⟩ := Option.map_eq_some_iff.1 h
      cases he
      obtain ⟨k1, k2⟩ := vsteps_snoc hm s
      constructor
      · rw [List.cons_append, splitB, if_neg hc, k1]; rfl
      · rw [List.cons_append, splitB, if_neg hc, k2]; rfl
theorem split_one (s : ByteArray) : splitB [wholeB s] = some (s, []) := by
  rw [splitB, if_neg (by rw [first_whole, whole_size]; omega), rest_whole]
  rfl
end Go.Ofp
end

section
/- Vaults: what is done with them, where the power does not go. -/
set_option linter.unusedSimpArgs false
set_option linter.unusedVariables false
namespace Go.Proofs.Ytlhpibniecfofaa
open Go.RowKit Go.Ofp
set_option linter.unusedVariables false
set_option maxRecDepth 100000
set_option maxHeartbeats 4000000

theorem fit0 {d : Dk} {n k : Nat} (h : d.Fit n k) (hw : d.wait = []) : d.Fit n 0 := ⟨h.ok, h.sec, by rw [hw]; exact Nat.le_refl _, h.fuse⟩
/-- A text laid on a new disk. -/
theorem vformat_new (bd : Nat) (sv wv : Value) (n : Nat) (text : ByteArray) (w : World) (h : St w (feet (dks bd sv wv (Dk.new n))) (dks bd sv wv (Dk.new n)) w) (h3 : 3 ≤ n) (hn : n ≤ 1000) (hm : manyB (text.size + 1) ≤ n - 2) (ht : text.size ≤ 900000) :
    Calls Try.prog 58 #[.pointer (some ⟨bd, 0, none⟩), .string text] w fun e w' => e = .returned (.int .i64 0) ∧ ∃ wv' d, Founds d n ⟨1, 1, 0⟩ [wholeB text] (manyB (text.size + 1)) ∧ d.Fit n 0 ∧ St w (feet (dks bd sv wv (Dk.new n))) (dks bd sv wv' d) w' := by
  have hF0 := Dk.Fit.new n (by omega)
  refine (vformat_any bd sv wv (Dk.new n) text n 0 w h hF0 (by omega) (by omega) ht).mono ?_
  rintro e w' ⟨rfl, wv', hk⟩
  obtain ⟨h0, hF⟩ := format_founds h3 text hm hn
  exact ⟨by rw [h0], wv', _, hF, fit0 (hF0.vformat text) hF.wait, hk⟩
/-- A vault opened. -/
theorem vopen_founds (bd : Nat) (sv wv : Value) (d : Dk) (n : Nat) (x : Rt) (l m : List ByteArray) (t : Nat) (text : ByteArray) (hF : Founds d n x l t) (hs : splitB l = some (text, m)) (hfit : d.Fit n 0) (hn : n ≤ 1000) (hseq : x.seq + 1 < 4294967296) (hlife : x.life + 1 < 4294967296) (w : World) (h : St w (feet (dks bd sv wv d)) (dks bd sv wv d) w) :
    Calls Try.prog 59 #[.pointer (some ⟨bd, 0, none⟩)] w fun e w' => ∃ g gr v wv' d', e = .returned (.tuple #[.pointer (some ⟨g, 0, none⟩), .string text, v, .int .i64 0]) ∧ Lies d' n ⟨x.seq + 1, x.life + 1, x.head⟩ ⟨2, n - 2, x.head.toNat, t, x.life.toNat + 1⟩ l ∧ d'.Fit n 0 ∧ d' = (d.store ⟨x.seq + 1, x.life + 1, x.head⟩).1 ∧
      St w (feet (dks bd sv wv d)) (Ch.row 9 1 v m.length (m.map vs) :: vts g gr bd sv wv' d' ⟨2, n - 2, x.head.toNat, t, x.life.toNat + 1⟩ ⟨x.seq + 1, x.life + 1, x.head⟩ false) w' := by
  obtain ⟨s1, hL⟩ := hF.open hseq hlife
  refine (vlopen_main bd sv wv d n 0 text m 0 x t (hF.looks hs) (by omega) w h hfit (by omega) (by omega)).mono ?_
  rintro e w' (⟨k1, -⟩ | ⟨k1, wv', g, gr, v, rfl, hk⟩)
  · exact absurd s1 k1
  · exact ⟨g, gr, v, wv', _, rfl, hL, fit0 (hfit.store _) hL.wait, rfl, hk⟩
/-- A look at what is found. -/
theorem vlook_founds (bd : Nat) (sv wv : Value) (d : Dk) (n : Nat) (x : Rt) (l m : List ByteArray) (t : Nat) (text : ByteArray) (hF : Founds d n x l t) (hs : splitB l = some (text, m)) (hfit : d.Fit n 0) (hn : n ≤ 1000) (w : World) (h : St w (feet (dks bd sv wv d)) (dks bd sv wv d) w) :
    Calls Try.prog 63 #[.pointer (some ⟨bd, 0, none⟩)] w fun e w' => ∃ v, e = .returned (.tuple #[.string text, v, .int .i64 0]) ∧ St w (feet (dks bd sv wv d)) (Ch.row 9 1 v m.length (m.map vs) :: dks bd sv wv d) w' := by
  refine (vllook_any bd sv wv d n 0 w h hfit (by omega) (by omega)).mono ?_
  rintro e w' ⟨text', m', er, o, v, hL, rfl, hk⟩
  obtain ⟨rfl, rfl, rfl, -⟩ := (hF.looks hs).det hL
  exact ⟨v, rfl, hk⟩
/-- A record put. -/
theorem vmore_lies (g gr bd : Nat) (sv wv : Value) (d : Dk) (n : Nat) (x : Rt) (r : Rg) (l : List ByteArray) (s : ByteArray) (hL : Lies d n x r l) (hfit : d.Fit n 0) (hn : n ≤ 1000) (hs : s.size ≤ 900000) (hf : manyB (s.size + 1) ≤ r.free) (hc : cutOk r.life r.tail (manyB (s.size + 1)) = true) (w : World) (h : St w (feet (vts g gr bd sv wv d r x false)) (vts g gr bd sv wv d r x false) w) :
    Calls Try.prog 60 #[.pointer (some ⟨g, 0, none⟩), .string s] w fun e w' => e = .returned (.int .i64 0) ∧ ∃ wv' d', Lies d' n x { r with tail := r.tail + manyB (s.size + 1) } (l ++ [stepB s]) ∧ d'.Fit n 0 ∧ St w (feet (vts g gr bd sv wv d r x false)) (vts g gr bd sv wv' d' { r with tail := r.tail + manyB (s.size + 1) } x false) w' := by
  have hfr : r.free ≤ n := by have := hL.stands.ring.fit; have := hL.stands.ring.tail; unfold Rg.free; omega
  refine (vlmore_any g gr bd sv wv d r x false n 0 s w h hL.stands.ring hfit (by omega) (by omega) hs).mono ?_
  rintro e w' ⟨rfl, wv', hk⟩
  have hz : d.vmore r false s = d.vadd r false (stepB s) := by rw [Dk.vmore, if_neg (by simp)]
  rw [hz] at hk ⊢
  obtain ⟨k1, k2, k3, k4⟩ := hL.add_ok (s := stepB s) (by rw [step_size]; exact hf) (by rw [step_size]; exact hc)
  have hfit2 := fit0 (hfit.vadd r false (stepB s)) k4.wait
  rw [k2] at hk
  rw [step_size] at k3
  rw [k3] at hk k4
  exact ⟨by rw [k1], wv', _, k4, hfit2, hk⟩
/-- A text put in the place of all. -/
theorem vrenew_lies (g gr bd : Nat) (sv wv : Value) (d : Dk) (n : Nat) (x : Rt) (r : Rg) (l : List ByteArray) (s : ByteArray) (hL : Lies d n x r l) (hfit : d.Fit n 0) (hn : n ≤ 1000) (hs : s.size ≤ 900000) (hf : manyB (s.size + 1) ≤ r.free) (hc : cutOk r.life r.tail (manyB (s.size + 1)) = true) (hseq : x.seq + 1 < 4294967296) (w : World) (h : St w (feet (vts g gr bd sv wv d r x false)) (vts g gr bd sv wv d r x false) w) :
    Calls Try.prog 62 #[.pointer (some ⟨g, 0, none⟩), .string s] w fun e w' => e = .returned (.int .i64 0) ∧ ∃ wv' d', Lies d' n ⟨x.seq + 1, x.life, r.tail⟩ ⟨2, n - 2, r.tail, r.tail + manyB (s.size + 1), r.life⟩ [wholeB s] ∧ d'.Fit n 0 ∧ St w (feet (vts g gr bd sv wv d r x false)) (vts g gr bd sv wv' d' ⟨2, n - 2, r.tail, r.tail + manyB (s.size + 1), r.life⟩ ⟨x.seq + 1, x.life, r.tail⟩ false) w' := by
  have hfr : r.free ≤ n := by have := hL.stands.ring.fit; have := hL.stands.ring.tail; unfold Rg.free; omega
  have hx := (Rt.ok_iff x).1 hL.root.1
  have htl := hL.stands.ring.tail
  refine (vlrenew_any g gr bd sv wv d r x false n 0 s w h hL.stands.ring hfit (by omega) (by omega) hs (by omega)).mono ?_
  rintro e w' ⟨rfl, wv', hk⟩
  obtain ⟨k1, k2, k3, k4⟩ := hL.add_ok (s := wholeB s) (by rw [whole_size]; exact hf) (by rw [whole_size]; exact hc)
  obtain ⟨r1, r2, r3, r4, hN⟩ := hL.renew k1 hseq
  have hmv : ((d.vadd r false (wholeB s)).1.move r.tail).1 = ⟨2, n - 2, r.tail, r.tail + manyB (s.size + 1), r.life⟩ := by
    rw [r2, whole_size, Rg.move, if_neg (by simp only; omega)]
    simp only [Int.toNat_natCast, Rg.mk.injEq, and_true, true_and]
    exact ⟨hL.src, hL.n⟩
  have e : d.vrenew r x false s = (⟨2, n - 2, r.tail, r.tail + manyB (s.size + 1), r.life⟩, ((d.vadd r false (wholeB s)).2.1.store ⟨x.seq + 1, x.life, r.tail⟩).1, ⟨x.seq + 1, x.life, r.tail⟩, false, 0) := by
    rw [Dk.vrenew, if_neg (by simp), if_neg (by omega), if_pos k1, if_pos r1, hmv, k2]
  rw [e] at hk ⊢
  have hfit2 := fit0 ((hfit.vadd r false (wholeB s)).store ⟨x.seq + 1, x.life, r.tail⟩) hN.wait
  rw [hL.src, hL.n, whole_size] at hN
  exact ⟨rfl, wv', _, hN, hfit2, hk⟩
end Go.Proofs.Ytlhpibniecfofaa
end

section
/- Vaults: the chapter's example. -/
set_option linter.unusedSimpArgs false
set_option linter.unusedVariables false
namespace Go.Proofs.Ytlhpibniecfofaa
open Go.RowKit Go.Ofp
set_option linter.unusedVariables false
set_option maxRecDepth 100000
set_option maxHeartbeats 4000000

theorem awake39_any (w : World) : Calls Try.prog 57 #[] w fun e w' => e = .returned (.bool true) ∧ Below w.heap.size w w' := by
  have hS := St.start w
  have ex := elem_tx
  have m2 : manyB (1 + 1) = 1 := rfl
  have cN : ∀ W : World, Calls Try.prog 11 #[.int .i64 9] W fun e w' => ∃ bd sv wv, e = .returned (.pointer (some ⟨bd, 0, none⟩)) ∧ St W [] (dks bd sv wv (Dk.new 9)) w' := fun W => new_any 9 W (by decide) (by decide)
  have cF : ∀ (bd : Nat) (sv wv : Value) (W : World), St W (feet (dks bd sv wv (Dk.new 9))) (dks bd sv wv (Dk.new 9)) W → Calls Try.prog 58 #[.pointer (some ⟨bd, 0, none⟩), .string ⟨#[97]⟩] W fun e w' => e = .returned (.int .i64 0) ∧ ∃ wv' d, Hid (Founds d 9 ⟨1, 1, 0⟩ [wholeB ⟨#[97]⟩] 1 ∧ d.Fit 9 0) ∧ St W (feet (dks bd sv wv (Dk.new 9))) (dks bd sv wv' d) w' :=
    fun bd sv wv W hh => (vformat_new bd sv wv 9 ⟨#[97]⟩ W hh (by decide) (by decide) (by decide) (by decide)).mono fun e w' ⟨h1, wv', d, h2, h3, h4⟩ => ⟨h1, wv', d, Lib.hid ⟨h2, h3⟩, h4⟩
  have cO : ∀ (bd : Nat) (sv wv : Value) (d : Dk) (W : World), Hid (Founds d 9 ⟨1, 1, 0⟩ [wholeB ⟨#[97]⟩] 1 ∧ d.Fit 9 0) → St W (feet (dks bd sv wv d)) (dks bd sv wv d) W → Calls Try.prog 59 #[.pointer (some ⟨bd, 0, none⟩)] W fun e w' => ∃ g gr v wv' d', e = .returned (.tuple #[.pointer (some ⟨g, 0, none⟩), .string ⟨#[97]⟩, v, .int .i64 0]) ∧ Hid (Lies d' 9 ⟨2, 2, 0⟩ ⟨2, 7, 0, 1, 2⟩ [wholeB ⟨#[97]⟩] ∧ d'.Fit 9 0) ∧ St W (feet (dks bd sv wv d)) (vts g gr bd sv wv' d' ⟨2, 7, 0, 1, 2⟩ ⟨2, 2, 0⟩ false) w' :=
    fun bd sv wv d W hh hk => (vopen_founds bd sv wv d 9 _ _ _ _ _ hh.out.1 (split_one _) hh.out.2 (by decide) (by decide) (by decide) W hk).mono fun e w' ⟨g, gr, v, wv', d', h1, h2, h3, _, h4⟩ => ⟨g, gr, v, wv', d', h1, Lib.hid ⟨h2, h3⟩, h4.drop⟩
  have cA : ∀ (g gr bd : Nat) (sv wv : Value) (d : Dk) (W : World), Hid (Lies d 9 ⟨2, 2, 0⟩ ⟨2, 7, 0, 1, 2⟩ [wholeB ⟨#[97]⟩] ∧ d.Fit 9 0) → St W (feet (vts g gr bd sv wv d ⟨2, 7, 0, 1, 2⟩ ⟨2, 2, 0⟩ false)) (vts g gr bd sv wv d ⟨2, 7, 0, 1, 2⟩ ⟨2, 2, 0⟩ false) W → Calls Try.prog 60 #[.pointer (some ⟨g, 0, none⟩), .string ⟨#[98]⟩] W fun e w' => e = .returned (.int .i64 0) ∧ ∃ wv' d', Hid (Lies d' 9 ⟨2, 2, 0⟩ ⟨2, 7, 0, 2, 2⟩ [wholeB ⟨#[97]⟩, stepB ⟨#[98]⟩] ∧ d'.Fit 9 0) ∧ St W (feet (vts g gr bd sv wv d ⟨2, 7, 0, 1, 2⟩ ⟨2, 2, 0⟩ false)) (vts g gr bd sv wv' d' ⟨2, 7, 0, 2, 2⟩ ⟨2, 2, 0⟩ false) w' :=
    fun g gr bd sv wv d W hh hk => (vmore_lies g gr bd sv wv d 9 _ _ _ ⟨#[98]⟩ hh.out.1 hh.out.2 (by decide) (by decide) (by decide) (by decide) W hk).mono fun e w' ⟨h1, wv', d', h2, h3, h4⟩ => ⟨h1, wv', d', Lib.hid ⟨h2, h3⟩, h4⟩
  have cL : ∀ (bd : Nat) (sv wv : Value) (d : Dk) (W : World), Hid (Lies d 9 ⟨2, 2, 0⟩ ⟨2, 7, 0, 2, 2⟩ [wholeB ⟨#[97]⟩, stepB ⟨#[98]⟩] ∧ d.Fit 9 0) → St W (feet (dks bd sv wv d)) (dks bd sv wv d) W → Calls Try.prog 63 #[.pointer (some ⟨bd, 0, none⟩)] W fun e w' => ∃ av cv, e = .returned (.tuple #[.string ⟨#[97]⟩, .slice av 1 cv, .int .i64 0]) ∧ St W (feet (dks bd sv wv d)) (Ch.row 9 1 (.slice av 1 cv) 1 [vs ⟨#[98]⟩] :: dks bd sv wv d) w' := by
    intro bd sv wv d W hh hk
    refine (vlook_founds bd sv wv d 9 _ _ _ _ _ hh.out.1.founds (split_snoc (split_one _) _).1 hh.out.2 (by decide) W hk).mono ?_
    rintro e w' ⟨v, rfl, h2⟩
    obtain ⟨av, cv, rfl, -⟩ := h2.row 0 rfl
    exact ⟨av, cv, rfl, h2⟩
  have cR : ∀ (g gr bd : Nat) (sv wv : Value) (d : Dk) (W : World), Hid (Lies d 9 ⟨2, 2, 0⟩ ⟨2, 7, 0, 2, 2⟩ [wholeB ⟨#[97]⟩, stepB ⟨#[98]⟩] ∧ d.Fit 9 0) → St W (feet (vts g gr bd sv wv d ⟨2, 7, 0, 2, 2⟩ ⟨2, 2, 0⟩ false)) (vts g gr bd sv wv d ⟨2, 7, 0, 2, 2⟩ ⟨2, 2, 0⟩ false) W → Calls Try.prog 62 #[.pointer (some ⟨g, 0, none⟩), .string ⟨#[99]⟩] W fun e w' => e = .returned (.int .i64 0) ∧ ∃ wv' d', Hid (Lies d' 9 ⟨3, 2, 2⟩ ⟨2, 7, 2, 3, 2⟩ [wholeB ⟨#[99]⟩] ∧ d'.Fit 9 0) ∧ St W (feet (vts g gr bd sv wv d ⟨2, 7, 0, 2, 2⟩ ⟨2, 2, 0⟩ false)) (vts g gr bd sv wv' d' ⟨2, 7, 2, 3, 2⟩ ⟨3, 2, 2⟩ false) w' :=
    fun g gr bd sv wv d W hh hk => (vrenew_lies g gr bd sv wv d 9 _ _ _ ⟨#[99]⟩ hh.out.1 hh.out.2 (by decide) (by decide) (by decide) (by decide) (by decide) W hk).mono fun e w' ⟨h1, wv', d', h2, h3, h4⟩ => ⟨h1, wv', d', Lib.hid ⟨h2, h3⟩, h4⟩
  have cM : ∀ (bd : Nat) (sv wv : Value) (d : Dk) (W : World), Hid (Lies d 9 ⟨3, 2, 2⟩ ⟨2, 7, 2, 3, 2⟩ [wholeB ⟨#[99]⟩] ∧ d.Fit 9 0) → St W (feet (dks bd sv wv d)) (dks bd sv wv d) W → Calls Try.prog 63 #[.pointer (some ⟨bd, 0, none⟩)] W fun e w' => ∃ av cv, e = .returned (.tuple #[.string ⟨#[99]⟩, .slice av 0 cv, .int .i64 0]) ∧ St W (feet (dks bd sv wv d)) (dks bd sv wv d) w' := by
    intro bd sv wv d W hh hk
    refine (vlook_founds bd sv wv d 9 _ _ _ _ _ hh.out.1.founds (split_one _) hh.out.2 (by decide) W hk).mono ?_
    rintro e w' ⟨v, rfl, h2⟩
    obtain ⟨av, cv, rfl, -⟩ := h2.row 0 rfl
    exact ⟨av, cv, rfl, h2.drop⟩
  have cT : ∀ (a1 a2 : Option Addr) (c1 c2 : Nat) (W : World), Sl W a1 [vs ⟨#[98]⟩] → Sl W a2 [vs ⟨#[98]⟩] → Calls Try.prog 46 #[.slice a1 1 c1, .slice a2 1 c2] W fun e w' => e = .returned (.bool true) ∧ Below W.heap.size W w' :=
    fun a1 a2 c1 c2 W h1 h2 => (texts_any a1 a2 [⟨#[98]⟩] [⟨#[98]⟩] 1 1 c1 c2 W h1 h2 rfl rfl (by decide) (by decide)).mono fun e w' ⟨k1, k2⟩ => ⟨by rw [k1, decide_eq_true rfl], k2⟩
  replace cN := Lib.hid cN
  replace cF := Lib.hid cF
  replace cO := Lib.hid cO
  replace cA := Lib.hid cA
  replace cL := Lib.hid cL
  replace cR := Lib.hid cR
  replace cM := Lib.hid cM
  replace cT := Lib.hid cT
  generalize Dk.new 9 = d0 at *
  clear m2
  go_enter Try.func57, Try.ntmps57
  go_wp2_with (first
    | (go_at_call 11; (with_reducible refine (cN.out _).mono ?_); rintro _ w2 ⟨bd, sv, wv, rfl, hk⟩; have hS1 := hS.made hk; clear hS hk; have hS : St w [] ([] ++ (dks bd sv wv d0 ++ [])) w2 := hS1; clear hS1)
    | (go_at_call 58; (with_reducible refine (cF.out _ _ _ _ hS.preM).mono ?_); rintro _ w3 ⟨rfl, wv3, d3, hF3, hk⟩; have hS1 := hS.callM hk; clear hS hk; have hS := hS1; clear hS1)
    | (go_at_call 59; (with_reducible refine (cO.out _ _ _ _ _ hF3 hS.preM).mono ?_); rintro _ w4 ⟨g, gr, v4, wv4, d4, rfl, hF4, hk⟩; have hS1 := hS.callM hk; clear hS hk; have hS := hS1; clear hS1)
    | (go_at_call 60; (with_reducible refine (cA.out _ _ _ _ _ _ _ hF4 hS.preM).mono ?_); rintro _ w5 ⟨rfl, wv5, d5, hF5, hk⟩; have hS1 := hS.callM hk; clear hS hk; have hS : St w [] ([vlt g gr bd ⟨2, 2, 0⟩ false, rng gr bd ⟨2, 7, 0, 2, 2⟩] ++ (dks bd sv wv5 d5 ++ [])) w5 := hS1; clear hS1)
    | (go_at_call 63; (with_reducible refine (cL.out _ _ _ _ _ hF5 hS.preM).mono ?_); rintro _ w6 ⟨av, cv, rfl, hk⟩; have hS1 := hS.callM hk; clear hS hk; have hS2 : St w [] (vlt g gr bd ⟨2, 2, 0⟩ false :: rng gr bd ⟨2, 7, 0, 2, 2⟩ :: Ch.row 9 1 (.slice av 1 cv) 1 [vs ⟨#[98]⟩] :: (dks bd sv wv5 d5 ++ [])) w6 := hS1; have hS3 := mid_three hS2; clear hS1 hS2; have hS : St w [] ([Ch.row 9 1 (.slice av 1 cv) 1 [vs ⟨#[98]⟩]] ++ (vts g gr bd sv wv5 d5 ⟨2, 7, 0, 2, 2⟩ ⟨2, 2, 0⟩ false ++ [])) w6 := hS3; clear hS3)
    | (go_at_call 62; (with_reducible refine (cR.out _ _ _ _ _ _ _ hF5 hS.preM).mono ?_); rintro _ w7 ⟨rfl, wv7, d7, hF7, hk⟩; have hS1 := hS.callM hk; clear hS hk; have hS : St w [] ([Ch.row 9 1 (.slice av 1 cv) 1 [vs ⟨#[98]⟩], vlt g gr bd ⟨3, 2, 2⟩ false, rng gr bd ⟨2, 7, 2, 3, 2⟩] ++ (dks bd sv wv7 d7 ++ [])) w7 := hS1; clear hS1)
    | (go_at_call 63; (with_reducible refine (cM.out _ _ _ _ _ hF7 hS.preM).mono ?_); rintro _ w8 ⟨av8, cv8, rfl, hk⟩; have hS1 := hS.callM hk; clear hS hk; have hS := hS1; clear hS1; simp only [List.cons_append, List.nil_append] at hS)
    | (go_at_call 46; have hS1 := hS.alloc #[.string ⟨#[98]⟩] 9; (with_reducible refine (cT.out _ _ _ _ _ (hS1.rowsl 1 rfl) (hS1.blksl 0 rfl)).mono ?_); rintro _ w9 ⟨rfl, hk9⟩; clear hS; have hS := hS1; clear hS1; have hS1 := hS.keepB hk9; clear hk9 hS; have hS := hS1; clear hS1))
  go_ret
  exact ⟨rfl, hS.below⟩
end Go.Proofs.Ytlhpibniecfofaa
end
