/- Texts laid together: Delta4 Delta5. -/
import Derived.Test.YtajldelodnjmoaaM13
import Derived.Test.YtajldelodnjmoaaM26
section
/- The chapter's example; the law DeltaCuts. -/
set_option linter.unusedSimpArgs false
set_option linter.unusedVariables false
namespace Go.Proofs.Ytajldelodnjmoaa
open Go.RowKit Go.Ofp Go.WideShapes
set_option linter.unusedVariables false
set_option maxRecDepth 100000
set_option maxHeartbeats 4000000

theorem open_ask {H : Type} {enc : TypeId × Value → H} {r : Reach} {b0 : Nat} {v : Value} {d : DataW H} {ms : List MemPlace} {w : World}
    (ho : Value.okWide Try.prog w r b0 24 v) (ht : DataW.Trod enc Try.prog w 0 (fun _ => true) true 24 v d ms) :
    ∃ fr now cur page : Int, v = .agg #[.int .i64 fr, .int .i64 now, .int .i64 cur, .int .i64 page] ∧ I64 fr ∧ I64 now ∧ I64 cur ∧ I64 page := by
  unfold Value.okWide at ho
  rw [Try.underlying24] at ho
  obtain ⟨cs, rfl, _, _⟩ := ho
  obtain ⟨fuel, hf⟩ := ht
  obtain ⟨hl, hf⟩ := field_read Try.underlying24 hf
  have hc : Try.prog.cellsOf 24 = 4 := by kernel_rfl
  rw [hc] at hl
  obtain ⟨n0, y0, h0⟩ := hf 0 _ rfl
  obtain ⟨n1, y1, h1⟩ := hf 1 _ rfl
  obtain ⟨n2, y2, h2⟩ := hf 2 _ rfl
  obtain ⟨n3, y3, h3⟩ := hf 3 _ rfl
  obtain ⟨z0, e0, w0⟩ := field_int Try.underlying3 (by kernel_rfl) (by rw [hl]; decide) h0
  obtain ⟨z1, e1, w1⟩ := field_int Try.underlying3 (by kernel_rfl) (by rw [hl]; decide) h1
  obtain ⟨z2, e2, w2⟩ := field_int Try.underlying3 (by kernel_rfl) (by rw [hl]; decide) h2
  obtain ⟨z3, e3, w3⟩ := field_int Try.underlying3 (by kernel_rfl) (by rw [hl]; decide) h3
  refine ⟨z0, z1, z2, z3, ?_, wf_i64 w0, wf_i64 w1, wf_i64 w2, wf_i64 w3⟩
  congr 1
  apply Array.ext'
  have hl' : cs.toList.length = 4 := hl
  match hcs : cs.toList, hl' with
  | [c0, c1, c2, c3], _ =>
    simp [Value.cells, hcs] at e0 e1 e2 e3
    simp [e0, e1, e2, e3]

def exD1 : Tn := ⟨3, 1, 0, 1, ⟨1, 1, 0, noF⟩⟩
def exD2 : Tn := ⟨5, 2, 0, 1, ⟨2, 1, 0, noF⟩⟩
theorem exD_goes : goes Cd.ok [] [exD1, exD2] = true := by decide
theorem exD_up : upL [exD1, exD2] 2 9 9 = [exD1, exD2] := by decide
theorem exD_fit : fitN [exD1, exD2] 1 = 1 := by decide
theorem exD_cut : cutTo [exD1, exD2] 9 1 = 4 := by decide
theorem exD_net : netOf [exD1] = [⟨1, ⟨1, 1, 0, noF⟩⟩] := by decide
theorem exD_in : ∀ t ∈ [exD1, exD2], TnIn t := by
  intro t ht
  simp only [List.mem_cons, List.not_mem_nil, or_false] at ht
  rcases ht with rfl | rfl
  · exact ⟨by decide, by decide, by decide, by decide, ⟨by decide, by decide, by decide, rfl, noF_in⟩⟩
  · exact ⟨by decide, by decide, by decide, by decide, ⟨by decide, by decide, by decide, rfl, noF_in⟩⟩
theorem exD_cutR {W w' : World} {e : Ending} (h : CutR Try.prog 50 [exD1, exD2] 9 1 e W w') : ∃ g c, e = .returned (.tuple #[.slice (some ⟨g, 0, none⟩) 1 c, .int .i64 4]) ∧ w'.cell? ⟨g, 1, none⟩ = some (.int .i64 1) ∧ Below W.heap.size W w' := by
  obtain ⟨a, c, h1, h2⟩ := h
  rw [exD_fit, exD_cut, show [exD1, exD2].take 1 = [exD1] from rfl, exD_net] at h1
  rw [exD_fit, show [exD1, exD2].take 1 = [exD1] from rfl, exD_net] at h2
  obtain ⟨g, c', e', -⟩ := h2.rowat 0 rfl (by decide)
  cases e'
  refine ⟨g, c, h1, ?_, h2.below⟩
  have h3 := h2.rowsl 0 rfl
  obtain ⟨b, o, e4, h4⟩ := h3 1 (by decide)
  cases e4
  have h5 : (some (itRow ⟨1, ⟨1, 1, 0, noF⟩⟩)[1] : Option Value) = some (.int .i64 1) := rfl
  rw [← h5]
  simpa using h4

theorem awake24_any (w : World) : Calls Try.prog 14 #[] w fun e w' => e = .returned (.bool true) ∧ Below w.heap.size w w' := by
  have hS := St.start w
  have et := elem_turn
  have hB2 := fun W : World => run_build2 (P := Try.prog) W 22 _ Try.underlying22 et (u := [.int .i64 3, .int .i64 1, .int .i64 0, .int .i64 1, .int .i64 1, .int .i64 1, .int .u32 0, .int .i64 0, .int .i64 0, .string ⟨#[]⟩, .int .i64 0, .int .i64 0, .string ⟨#[]⟩, .int .i64 0, .int .i64 0, .string ⟨#[]⟩, .int .i64 0, .int .i64 0, .string ⟨#[]⟩, .int .i64 0, .int .i64 0, .string ⟨#[]⟩, .int .i64 0, .int .i64 0, .string ⟨#[]⟩, .int .i64 0, .int .i64 0, .string ⟨#[]⟩, .int .i64 0, .int .i64 0, .string ⟨#[]⟩]) (v := [.int .i64 5, .int .i64 2, .int .i64 0, .int .i64 1, .int .i64 2, .int .i64 1, .int .u32 0, .int .i64 0, .int .i64 0, .string ⟨#[]⟩, .int .i64 0, .int .i64 0, .string ⟨#[]⟩, .int .i64 0, .int .i64 0, .string ⟨#[]⟩, .int .i64 0, .int .i64 0, .string ⟨#[]⟩, .int .i64 0, .int .i64 0, .string ⟨#[]⟩, .int .i64 0, .int .i64 0, .string ⟨#[]⟩, .int .i64 0, .int .i64 0, .string ⟨#[]⟩, .int .i64 0, .int .i64 0, .string ⟨#[]⟩]) rfl rfl (by decide)
  have cD : ∀ (B : Nat) (W : World), Sl W (some ⟨B, 0, none⟩) (tnRow exD1 ++ tnRow exD2) → Calls Try.prog 15 #[.slice (some ⟨B, 0, none⟩) 2 2, .int .i64 2, .int .i64 9, .int .i64 9, .int .i64 1] W fun e w' => ∃ g c, e = .returned (.tuple #[.slice (some ⟨g, 0, none⟩) 1 c, .int .i64 4]) ∧ w'.cell? ⟨g, 1, none⟩ = some (.int .i64 1) ∧ Below W.heap.size W w' := fun B W h => by
    refine (dcut_any (some ⟨B, 0, none⟩) 2 2 [exD1, exD2] 2 9 9 1 W ⟨by simpa using h, rfl, Nat.le_refl _, by decide, exD_in⟩ exD_goes (by decide)).mono fun e w' h => ?_
    rw [exD_up] at h
    exact exD_cutR h
  replace cD := Lib.hid cD
  go_enter Try.func14, Try.ntmps14
  go_wp2_with (first
    | (go_at_call 15; have hS0 := hS.alloc (tnRow exD1 ++ tnRow exD2).toArray 52; refine (cD.out _ _ (hS0.blksl2 0 rfl)).mono ?_; rintro _ w9 ⟨g9, c9, rfl, hc9, hk9⟩; have hS1 := hS0.keepB hk9; clear hk9 hS hS0; have hS := hS1; clear hS1))
  go_ret
  exact ⟨rfl, hS.below⟩

end Go.Proofs.Ytajldelodnjmoaa
end

section
/- The law DeltaMost. -/
set_option linter.unusedSimpArgs false
set_option linter.unusedVariables false
namespace Go.Proofs.Ytajldelodnjmoaa
open Go.RowKit Go.Ofp
set_option linter.unusedVariables false
set_option maxRecDepth 100000
set_option maxHeartbeats 4000000

end Go.Proofs.Ytajldelodnjmoaa
end
