/- More laws for the walk: copy into a row of the call's own. -/
import Derived.Test.YtplgpbbghhlbjaaDoorKit
set_option linter.unusedSimpArgs false
set_option linter.unusedVariables false
namespace Go.Ofp
open Go.RowKit

section
variable {P : Program} {w : World} {ops : Array Oper} {rest : List Oper} {o : Oper} {a : Act} {Q : Exit → Act → World → Prop}

theorem run_copy_all (w : World) (t tx ty e : TypeId) (ht : P.underlying t = some (.slice e)) {z : Value} {size bytes : Nat} (he : Elem P e z size bytes)
    {g n c base : Nat} {xs : List Value} (hown : w.ownsRow base e size (.slice (some ⟨g, 0, none⟩) n c) n xs) {x : Value} {news : List Value} (hx : Src P w tx x size n news) (h1 : ∀ u ∈ news, u.oneCell' = true) :
    ∃ w', (Builtin.copy_ #[t, tx] ty #[.slice (some ⟨g, 0, none⟩) n c, x]).run P w = .ok (.int .i64 n) w' ∧ w'.ownsRow base e size (.slice (some ⟨g, 0, none⟩) n c) n news ∧ w.grownBy w' (some g) := by
  obtain ⟨i, hi, hz, rfl, rfl, hzs, hpos⟩ := he
  rcases hown.2 with ⟨h, _⟩ | ⟨g', cap, cur, hv, hbg, hgc, hnc, hcm, hcs, htake⟩
  · cases h
  cases hv
  have hcells := hx.cells w (fun _ => rfl)
  have hlen := hx.many
  have hfit : 0 + news.length ≤ cur.size := by rw [hlen, hcs]; have := Nat.mul_le_mul_right i.size hnc; omega
  have hst := run_storeCells_at P g 0 e news 0 cur w hgc (by simpa using hfit) h1
  simp only [Nat.add_zero] at hst
  refine ⟨w.setRow g (cur.toList.take 0 ++ news ++ cur.toList.drop (0 + news.length)).toArray, ?_, ⟨hlen, .inr ⟨g, c, _, rfl, hbg, setRow_heap w g cur _ e _ hgc, hnc, hcm, ?_, ?_⟩⟩,
    ⟨rfl, rfl, rfl, by simp, fun k _ hk => setRow_other w g k _ (fun e => hk (by simp [e]))⟩⟩
  · simp [Builtin.copy_, run_underlying ht, sizeOf, typeInfo, hi, hx.len, hcells, hst, goInt]
  · simp only [List.size_toArray, List.length_append, List.length_take, List.length_drop, Array.length_toList]
    omega
  · simp only [List.take_zero, List.nil_append, ← hlen]
    exact List.take_left

theorem wpList_copy_all (hgd : o.guard = none) {s x : Operand} {t tx : TypeId} (ho : o.op = .call { callee := .builtin .copy, args := #[s, x], argTypes := #[t, tx] })
    {e : TypeId} (ht : P.underlying t = some (.slice e)) {z : Value} {size bytes : Nat} (he : Elem P e z size bytes)
    {g n c base : Nat} {xs : List Value} (hown : w.ownsRow base e size (.slice (some ⟨g, 0, none⟩) n c) n xs) (hs : a.eval s = .slice (some ⟨g, 0, none⟩) n c) {xv : Value} {news : List Value} (hx : Src P w tx xv size n news) (hxv : a.eval x = xv) (h1 : ∀ u ∈ news, u.oneCell' = true)
    (h : ∀ w', w'.ownsRow base e size (.slice (some ⟨g, 0, none⟩) n c) n news → w.grownBy w' (some g) → wpList P ops Q rest (a.put o.dst (.int .i64 n)) w') : wpList P ops Q (o :: rest) a w := by
  refine wpList_plain hgd fun K hK => ?_
  obtain ⟨w', hr, h2, h3⟩ := run_copy_all w t tx o.type e ht he hown hx h1
  unfold Oper.wp execOp
  simp only [ho, resolve, invoke, builtin, Sem.run_bind, Sem.run_pure, Result.andThen_ok, List.map_toArray, List.map_cons, List.map_nil, hs, hxv, hr]
  exact hK _ _ (h w' h2 h3)
end

/-- A cut of a slice, whose address bears Go's own 'if'. -/
theorem Sl.cut {w : World} {b off k cap : Nat} {xs : List Value} (h : Sl w (some ⟨b, off + k, none⟩) xs) (hc : cap = k → xs = []) :
    Sl w (if cap = k then some ⟨b, off, none⟩ else some ⟨b, off + k, none⟩) xs := by
  split
  · rename_i e
    rw [hc e]
    exact Sl.nil _ _
  · exact h

end Go.Ofp
