/- Disks: what is done with one: plain law. -/
import Derived.Test.YtlhpibniecfofaaPieceMath
set_option linter.unusedSimpArgs false
set_option linter.unusedVariables false
namespace Go.Ofp

/-- A sector: its bytes, and whether it can't be read. -/
structure Sc where
  b : List UInt8
  bad : Bool
/-- A write that waits. -/
structure Wt where
  place : Int
  b : List UInt8
/-- A disk. -/
structure Dk where
  sec : List Sc
  wait : List Wt
  fuse : Int
  dead : Bool

namespace Dk
/-- Why nothing can be done with a sector. -/
def ready (d : Dk) (i : Int) : Int := if d.dead then 15 else if i < 0 ∨ (d.sec.length : Int) ≤ i then 1 else 0
/-- A step, of which the power may go. -/
def step (d : Dk) : Dk := if d.fuse = 0 then { d with dead := true } else if 0 < d.fuse then { d with fuse := d.fuse - 1 } else d
/-- What a sector has, with what waits. -/
def see (d : Dk) (i : Int) : Sc := d.wait.foldl (fun s w => if w.place = i then ⟨w.b, false⟩ else s) (d.sec.getD i.toNat ⟨[], true⟩)
def read (d : Dk) (i : Int) : List UInt8 × Int := if d.ready i = 0 then (if (d.see i).bad then ([], 16) else ((d.see i).b, 0)) else ([], d.ready i)
def write (d : Dk) (i : Int) (b : List UInt8) : Dk × Int :=
  if d.ready i = 0 then (if b.length = 64 then (step { d with wait := d.wait ++ [⟨i, b⟩] }, if (step { d with wait := d.wait ++ [⟨i, b⟩] }).dead then 15 else 0) else (d, 1)) else (d, d.ready i)
/-- What waits is done. -/
def done (sec : List Sc) (l : List Wt) : List Sc := l.foldl (fun s w => s.set w.place.toNat ⟨w.b, false⟩) sec
def sync (d : Dk) : Dk × Int :=
  if d.ready 0 = 0 then (if d.step.dead then (d.step, 15) else ({ d.step with sec := done d.sec d.wait, wait := [] }, 0)) else (d, d.ready 0)
/-- What becomes of the write number i. -/
def fate (keep : List Int) (i : Nat) : Int := if i < keep.length ∧ 0 ≤ keep.getD i 0 then keep.getD i 0 % 3 else 0
def fall1 (keep : List Int) (sec : List Sc) (i : Nat) (w : Wt) : List Sc :=
  if fate keep i = 1 then sec.set w.place.toNat ⟨w.b, false⟩ else if fate keep i = 2 then sec.modify w.place.toNat (fun s => { s with bad := true }) else sec
/-- What stays when the power goes: the writes from number i on. -/
def fall (keep : List Int) : Nat → List Sc → List Wt → List Sc
  | _, sec, [] => sec
  | i, sec, w :: l => fall keep (i + 1) (fall1 keep sec i w) l
def crash (d : Dk) (keep : List Int) : Dk := ⟨fall keep 0 d.sec d.wait, [], -1, false⟩
/-- A new disk. -/
def new (n : Nat) : Dk := ⟨List.replicate n ⟨List.replicate 64 0, false⟩, [], -1, false⟩

/-- What is true of every disk that comes about. -/
structure Ok (d : Dk) : Prop where
  pos : 0 < d.sec.length
  sec : ∀ s ∈ d.sec, s.b.length = 64
  wait : ∀ w ∈ d.wait, 0 ≤ w.place ∧ w.place < d.sec.length ∧ w.b.length = 64

@[simp] theorem step_sec (d : Dk) : d.step.sec = d.sec := by unfold step; split <;> (try split) <;> rfl
@[simp] theorem step_wait (d : Dk) : d.step.wait = d.wait := by unfold step; split <;> (try split) <;> rfl

theorem Ok.step {d : Dk} (h : d.Ok) : d.step.Ok := ⟨by simpa using h.pos, by simpa using h.sec, by simpa using h.wait⟩

theorem ready_zero {d : Dk} {i : Int} (h : d.ready i = 0) : d.dead = false ∧ 0 ≤ i ∧ i < d.sec.length := by
  unfold ready at h
  split at h
  · cases h
  · rename_i hd
    split at h
    · cases h
    · exact ⟨by simpa using hd, by omega, by omega⟩

theorem set_ok {sec : List Sc} {n : Nat} {s : Sc} (h : ∀ s ∈ sec, s.b.length = 64) (hs : s.b.length = 64) : ∀ x ∈ sec.set n s, x.b.length = 64 := by
  intro x hx
  rcases List.mem_or_eq_of_mem_set hx with hx | rfl
  · exact h x hx
  · exact hs

theorem done_length (sec : List Sc) (l : List Wt) : (done sec l).length = sec.length := by
  unfold done
  induction l generalizing sec with
  | nil => rfl
  | cons w l ih => rw [List.foldl_cons, ih, List.length_set]

theorem done_ok {sec : List Sc} {l : List Wt} (h : ∀ s ∈ sec, s.b.length = 64) (hl : ∀ w ∈ l, w.b.length = 64) : ∀ x ∈ done sec l, x.b.length = 64 := by
  unfold done
  induction l generalizing sec with
  | nil => exact h
  | cons w l ih =>
    rw [List.foldl_cons]
    exact ih (set_ok h (hl w (by simp))) (fun w' hw => hl w' (by simp [hw]))

theorem Ok.write {d : Dk} (h : d.Ok) (i : Int) (b : List UInt8) : (d.write i b).1.Ok := by
  unfold Dk.write
  split
  · rename_i hr
    obtain ⟨-, h1, h2⟩ := ready_zero hr
    split
    · rename_i hb
      refine Ok.step (d := { d with wait := d.wait ++ [⟨i, b⟩] }) ⟨h.pos, h.sec, ?_⟩
      intro w hw
      simp only [List.mem_append, List.mem_singleton] at hw
      rcases hw with hw | rfl
      · exact h.wait w hw
      · exact ⟨h1, h2, hb⟩
    · exact h
  · exact h

theorem Ok.sync {d : Dk} (h : d.Ok) : d.sync.1.Ok := by
  unfold Dk.sync
  split
  · split
    · exact h.step
    · exact ⟨by simpa [done_length] using h.pos, done_ok h.sec fun w hw => (h.wait w hw).2.2, by simp⟩
  · exact h

theorem fall_ok (keep : List Int) (l : List Wt) (i : Nat) (sec : List Sc) (h : ∀ s ∈ sec, s.b.length = 64) (hl : ∀ w ∈ l, w.b.length = 64) :
    (∀ x ∈ fall keep i sec l, x.b.length = 64) ∧ (fall keep i sec l).length = sec.length := by
  induction l generalizing i sec with
  | nil => exact ⟨h, rfl⟩
  | cons w l ih =>
    rw [fall]
    have h1 : (∀ x ∈ fall1 keep sec i w, x.b.length = 64) ∧ (fall1 keep sec i w).length = sec.length := by
      unfold fall1
      split
      · exact ⟨set_ok h (hl w (by simp)), List.length_set ..⟩
      · split
        · refine ⟨?_, List.length_modify ..⟩
          intro x hx
          obtain ⟨j, hj, rfl⟩ := List.getElem_of_mem hx
          rw [List.getElem_modify]
          have hm := h _ (List.getElem_mem (l := sec) (n := j) (by simpa using hj))
          split
          · exact hm
          · exact hm
        · exact ⟨h, rfl⟩
    obtain ⟨h2, h3⟩ := ih (i + 1) _ h1.1 fun w' hw => hl w' (by simp [hw])
    exact ⟨h2, h3.trans h1.2⟩

theorem Ok.crash {d : Dk} (h : d.Ok) (keep : List Int) : (d.crash keep).Ok := by
  have := fall_ok keep d.wait 0 d.sec h.sec fun w hw => (h.wait w hw).2.2
  exact ⟨by rw [Dk.crash, this.2]; exact h.pos, this.1, by simp [Dk.crash]⟩

theorem Ok.new (n : Nat) (hn : 0 < n) : (new n).Ok := ⟨by simpa [Dk.new] using hn, by intro s hs; rw [List.eq_of_mem_replicate hs]; simp, by simp [Dk.new]⟩
end Dk
end Go.Ofp
