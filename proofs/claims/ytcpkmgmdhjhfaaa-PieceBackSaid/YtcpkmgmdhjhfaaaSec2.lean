/- The walks of sectors: the reference's low bytes; sectors put. -/
import Derived.Test.YtcpkmgmdhjhfaaaSec
import Derived.Test.YtcpkmgmdhjhfaaaSum
import Derived.Deep.RegionHeld
set_option linter.unusedSimpArgs false
set_option linter.unusedVariables false
namespace Go.Proofs.Ytcpkmgmdhjhfaaa
open Go.RowKit Go.Ofp
set_option linter.unusedVariables false
set_option maxRecDepth 100000
set_option maxHeartbeats 4000000

theorem rlow_any (n k : Nat) (w : World) (hn : n < 9223372036854775808) (hk : k ≤ 8) :
    Calls Try.prog 84 #[.int .i64 n, .int .i64 k] w fun e w' => e = .returned (.string (str (le n k))) ∧ Below w.heap.size w w' := by
  go_enter Try.func84, Try.ntmps84
  go_wp2_with fail
  go_loopg [0, 5, 6] k (fun gk vn vs vi wr => ∃ j : Nat, j + gk = k ∧ vi = .int .i64 j ∧ vn = .int .i64 ((n / 256 ^ j : Nat) : Int) ∧ vs = .string (str (le n j)) ∧ Below w.heap.size w wr)
  case atStart => exact ⟨0, by omega, rfl, by simp, rfl, Below.refl _ _⟩
  case round =>
    obtain ⟨j, hjk, rfl, rfl, rfl, hb⟩ := hrel
    by_cases hj : j < k
    · have hmn : n / 256 ^ j < 9223372036854775808 := Nat.lt_of_le_of_lt (Nat.div_le_self _ _) hn
      have hsn := le_snoc n j
      have hvb := vb_ofNat (n / 256 ^ j)
      have hdd : n / 256 ^ j / 256 = n / 256 ^ (j + 1) := by rw [Nat.div_div_eq_div_mul, Nat.pow_succ]
      have hsz : (str (le n j)).size = j := by simp
      generalize n / 256 ^ j = m at hmn hsn hvb hdd ⊢
      have happ : str (le n j) ++ str [UInt8.ofNat m] = str (le n (j + 1)) := by rw [str_append, str_data, hsn]
      generalize hS : str (le n j) = S at hsz happ ⊢
      have hov : ¬ 9223372036854775807 < S.size + 1 := by omega
      have hsl : Sl (wr.alloc (.cells #[.int .u8 ((m : Int) % 256)] 5)) (some ⟨wr.heap.size, 0, none⟩) ([UInt8.ofNat m].map vb) := by
        have := Sl.new wr #[.int .u8 ((m : Int) % 256)] 5 (0, 0)
        simpa [hvb] using this
      replace hsl := Lib.hid hsl
      replace hS := Lib.hid hS
      clear hvb
      replace hdd := Lib.hid hdd
      replace happ := Lib.hid happ
      clear hsn
      go_wp2_with (with_reducible refine wpList_bts (src := 22) (dst := 9) (x := .tmp 16) (l := [UInt8.ofNat m]) rfl rfl Try.underlying22 Try.underlying5 Try.underlying9 rfl hsl.out rfl ?_)
      go_roundg (k - (j + 1))
      case measure => omega
      case rel =>
        refine ⟨j + 1, by omega, rfl, ?_, congrArg Value.string happ.out, hb.alloc hb.size _⟩
        rw [← hdd.out]
        exact congrArg (Value.int .i64) (by omega)
    · have e : j = k := by omega
      subst e
      go_wp2_with fail
      go_ret
      exact ⟨rfl, hb⟩


section
variable {P : Program} {w : World} {ops : Array Oper} {rest : List Oper} {o : Oper} {a : Act} {Q : Exit → Act → World → Prop}

theorem run_alloc_row (w : World) (t : TypeId) {z : Value} (hz : (P.info? t).map (fun i => i.zero) = some (some z)) :
    (Instr.alloc t true (.tuple #[])).run P w = .ok (.pointer (some ⟨w.heap.size, 0, none⟩)) (w.alloc (.cells z.cells t)) := by
  obtain ⟨i, hi, hz'⟩ := Option.map_eq_some_iff.1 hz
  simp [Instr.alloc, zeroValue, typeInfo, hi, hz', go_sem]

/-- The walk's law: a new variable, whose cells are not opened. -/
theorem wpList_alloc_row (hg : o.guard = none) {t : TypeId} (ho : o.op = .alloc t) {z : Value} (hz : (P.info? t).map (fun i => i.zero) = some (some z))
    (h : ∀ w', Whole w' w.heap.size t z.cells → Below w.heap.size w w' → w'.heap.size = w.heap.size + 1 → wpList P ops Q rest (a.put o.dst (.pointer (some ⟨w.heap.size, 0, none⟩))) w') : wpList P ops Q (o :: rest) a w := by
  refine wpList_plain hg fun K hK => ?_
  have hr := run_alloc_row (P := P) w t hz
  unfold Oper.wp execOp
  simp only [ho, Sem.run_bind, hr, Result.andThen_ok, Sem.run_pure]
  exact hK _ _ (h _ (Whole.new _ _ _) ((Below.refl _ _).alloc (Nat.le_refl _) _) (by simp))

/-- A text copied into a place of a row that is known whole. -/
theorem run_copy_str (w : World) (t tx ty e : TypeId) (ht : P.underlying t = some (.slice e)) {z : Value} {bytes : Nat} (he : Elem P e z 1 bytes) (htx : P.underlying tx = some .string)
    {g off n c : Nat} {T : TypeId} {cs : Array Value} (hw : Whole w g T cs) (s : ByteArray) (hs : s.size ≤ n) (hfit : off + s.size ≤ cs.size) :
    ∃ w', (Builtin.copy_ #[t, tx] ty #[.slice (some ⟨g, off, none⟩) n c, .string s]).run P w = .ok (.int .i64 s.size) w' ∧ Whole w' g T (cs.toList.take off ++ s.data.toList.map vb ++ cs.toList.drop (off + s.size)).toArray ∧ w.grownBy w' (some g) := by
  obtain ⟨i, hi, hz, h1, rfl, hzs, hpos⟩ := he
  have hx := Src.string (P := P) w htx s
  have hcells := hx.cells w (fun _ => rfl)
  have hl : (s.data.toList.map vb).length = s.size := by simp
  have hst := run_storeCells_at P g off T (s.data.toList.map vb) 0 cs w hw (by rw [hl]; omega) (vb_one _)
  simp only [Nat.add_zero, hl] at hst
  have hm : s.size.min n = s.size := Nat.min_eq_left hs
  simp only [List.append_assoc] at hst
  refine ⟨w.setRow g (cs.toList.take off ++ s.data.toList.map vb ++ cs.toList.drop (off + s.size)).toArray, ?_, setRow_heap w g cs _ T _ hw, ⟨rfl, rfl, rfl, by simp, fun k _ hk => setRow_other w g k _ (fun e => hk (by simp [e]))⟩⟩
  simp [Builtin.copy_, run_underlying ht, sizeOf, typeInfo, hi, h1, hx.len, hcells, hst, goInt, hm]
end

end Go.Proofs.Ytcpkmgmdhjhfaaa
