/- What the walks ask of a disk: plain law. -/
import Derived.Test.YtlhpibniecfofaaDiskMath
set_option linter.unusedSimpArgs false
set_option linter.unusedVariables false
namespace Go.Ofp
namespace Dk
/-- What the walks ask of a disk. -/
structure Fit (d : Dk) (n k : Nat) : Prop where
  ok : d.Ok
  sec : d.sec.length = n
  wait : d.wait.length ≤ k
  fuse : -9223372036854775808 ≤ d.fuse ∧ d.fuse ≤ 9223372036854775807
theorem Fit.step {d : Dk} {n k : Nat} (h : d.Fit n k) : d.step.Fit n k := by
  refine ⟨h.ok.step, by rw [step_sec]; exact h.sec, by rw [step_wait]; exact h.wait, ?_⟩
  have := h.fuse
  unfold Dk.step
  split
  · exact this
  · split
    · simp only; omega
    · exact this
theorem Fit.mono {d : Dk} {n k k' : Nat} (h : d.Fit n k) (hk : k ≤ k') : d.Fit n k' := ⟨h.ok, h.sec, Nat.le_trans h.wait hk, h.fuse⟩
theorem Fit.write {d : Dk} {n k : Nat} (h : d.Fit n k) (i : Int) (b : List UInt8) : (d.write i b).1.Fit n (k + 1) := by
  have hok := h.ok.write i b
  unfold Dk.write at hok ⊢
  split
  · rename_i hr
    rw [if_pos hr] at hok
    split
    · rename_i hb
      rw [if_pos hb] at hok
      have h1 : ({ d with wait := d.wait ++ [⟨i, b⟩] } : Dk).step.Fit n (k + 1) := by
        refine ⟨hok, by rw [step_sec]; exact h.sec, by rw [step_wait]; simpa using h.wait, ?_⟩
        have := h.fuse
        unfold Dk.step
        split
        · exact this
        · split
          · simp only at *; omega
          · exact this
      exact h1
    · exact h.mono (by omega)
  · exact h.mono (by omega)
theorem Fit.sync {d : Dk} {n k : Nat} (h : d.Fit n k) : d.sync.1.Fit n k := by
  have hok := h.ok.sync
  unfold Dk.sync at hok ⊢
  split
  · rename_i hr
    rw [if_pos hr] at hok
    split
    · exact h.step
    · rename_i hd
      rw [if_neg hd] at hok
      exact ⟨hok, by simp only [done_length]; exact h.sec, by simp, h.step.fuse⟩
  · exact h
theorem Fit.crash {d : Dk} {n k : Nat} (h : d.Fit n k) (keep : List Int) : (d.crash keep).Fit n k := by
  refine ⟨h.ok.crash keep, ?_, by simp [Dk.crash], by simp [Dk.crash]⟩
  have := fall_ok keep d.wait 0 d.sec h.ok.sec fun w hw => (h.ok.wait w hw).2.2
  rw [Dk.crash, this.2]
  exact h.sec
theorem Fit.fused {d : Dk} {n k : Nat} (h : d.Fit n k) (z : Int) (hz : -9223372036854775808 ≤ z ∧ z ≤ 9223372036854775807) : ({ d with fuse := z } : Dk).Fit n k := ⟨⟨h.ok.pos, h.ok.sec, h.ok.wait⟩, h.sec, h.wait, hz⟩
theorem Fit.new (n : Nat) (hn : 0 < n) : (new n).Fit n 0 := ⟨Ok.new n hn, by simp [Dk.new], by simp [Dk.new], by simp [Dk.new]⟩
end Dk
end Go.Ofp
