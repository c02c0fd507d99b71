/- Texts laid together: Trans5 Trans6 CardLaw1 Trans7. -/
import Derived.Test.YtajldelodnjmoaaM12
import Derived.Test.YtajldelodnjmoaaM3
import Derived.Test.YtajldelodnjmoaaM7
import Derived.Test.YtajldelodnjmoaaM8
section
/- What a card's first and last turn come to. -/
set_option linter.unusedSimpArgs false
set_option linter.unusedVariables false
namespace Go.Ofp
open Go.RowKit
/-- Two results: one in a block of the call's own. -/
theorem results_blk_tmp {P : Program} {fn : Func} {a b : Tmp} {t : TypeId} (h : fn.results = #[.cell a t, .tmp b]) {tmps : Array Value} {g : Nat} (ht : tmps.getD a undef = .pointer (some ⟨g, 0, none⟩)) {w0 w : World} {F : List Nat} {L : List Ch} (hS : St w0 F L w) (i : Nat) {T : TypeId} {cs : Array Value}
    (hi : L[i]? = some (Ch.blk g T cs)) (hu : rowB P t = true) (hsz : sizeB P t cs.size = true) {v : Value} (hv : tmps.getD b undef = v) : (results fn tmps).run P w = .ok (.tuple #[.agg cs, v]) w := by
  have hr := run_loadrow (P := P) (w := w) hu hsz (g := g) (j := 0) (vs := cs.toList) (by simp) (Whole.range (hS.get i hi) 0 fun k v hk => by simpa using hk)
  have hl : (loadVar t ⟨g, 0, none⟩).run P w = .ok (.agg cs) w := by simpa [Instr.loadAt, Instr.sureAddr] using hr
  have ht' : tmps[a]?.getD undef = .pointer (some ⟨g, 0, none⟩) := by simpa using ht
  have hv' : tmps[b]?.getD undef = v := by simpa using hv
  unfold results
  simp [h, ht', asAddr, hl, hv']
end Go.Ofp
namespace Go.Proofs.Ytajldelodnjmoaa
open Go.RowKit Go.Ofp
set_option linter.unusedVariables false
set_option maxRecDepth 100000
set_option maxHeartbeats 4000000
theorem elem_item : Elem Try.prog 50 (.agg #[.int .i64 0, .int .i64 0, .int .i64 0, .int .u32 0, .int .i64 0, .int .i64 0, .string ⟨#[]⟩, .int .i64 0, .int .i64 0, .string ⟨#[]⟩, .int .i64 0, .int .i64 0, .string ⟨#[]⟩, .int .i64 0, .int .i64 0, .string ⟨#[]⟩, .int .i64 0, .int .i64 0, .string ⟨#[]⟩, .int .i64 0, .int .i64 0, .string ⟨#[]⟩, .int .i64 0, .int .i64 0, .string ⟨#[]⟩, .int .i64 0, .int .i64 0, .string ⟨#[]⟩]) 28 288 := Elem.mk (by kernel_rfl) (by rfl) (by decide)

end Go.Proofs.Ytajldelodnjmoaa
end

section
/- What turns come to: the program's. -/
set_option linter.unusedSimpArgs false
set_option linter.unusedVariables false
namespace Go.Ofp
open Go.RowKit
theorem St.mapmono {P : Program} {w0 w : World} {F : List Nat} {L : List Ch} {k : TypeId} {b n m : Nat} {f : Int → Option Value} (hS : St w0 F L w) (i : Nat) (hi : L[i]? = some (Ch.map P k b n f)) (hm : n ≤ m) : St w0 F (L.set i (Ch.map P k b m f)) w :=
  hS.upd i hi (Fr.refl [] w) (by simp) ((hS.get i hi).mono hm) (by simp [Ch.map])
end Go.Ofp
namespace Go.Proofs.Ytajldelodnjmoaa
open Go.RowKit Go.Ofp
set_option linter.unusedVariables false
set_option maxRecDepth 100000
set_option maxHeartbeats 4000000

theorem itRow_one (x : It) : (itRow x).all Value.oneCell' = true := by
  simp only [itRow, cdRow, List.all_cons, fl_one]
  rfl

end Go.Proofs.Ytajldelodnjmoaa
end

section
/- The law CardShows: what is looked at; the walk. -/
set_option linter.unusedSimpArgs false
set_option linter.unusedVariables false
namespace Go.Ofp
/-- Texts that are longer than is looked at. -/
def largeF (f : List Vl) : Bool := f.any fun v => decide (200 < v.s.size)
end Go.Ofp
namespace Go.Proofs.Ytajldelodnjmoaa
open Go.RowKit Go.Ofp
set_option linter.unusedVariables false
set_option maxRecDepth 100000
set_option maxHeartbeats 4000000

theorem fl_str (f : List Vl) (k : Nat) (v : Vl) (hv : f[k]? = some v) : (flRow f)[k * 3 + 2]? = some (.string v.s) := by
  have h := fl_at [] f k v hv
  simp only [List.nil_append, List.length_nil, Nat.zero_add] at h
  have := congrArg (fun l => l[2]?) h
  simpa [List.getElem?_take, List.getElem?_drop, vlRow] using this
theorem large6_any (f : List Vl) (hf : f.length = 8) (w : World) : Calls Try.prog 34 #[.agg (flRow f).toArray] w fun e w' => e = .returned (.bool (largeF f)) ∧ Below w.heap.size w w' := by
  have hS := St.start w
  go_enter Try.func34, Try.ntmps34
  go_wp2_with (first
    | (with_reducible refine wpList_box_st (L := []) hS rfl rfl rfl ?_; intro gc w1 hS1; clear hS; have hS := hS1; clear hS1))
  go_loopg [3] 8 (fun gk vx wr => ∃ k : Nat, k + gk = 8 ∧ vx = .int .i64 k ∧ Hid (largeF (f.take k) = false) ∧ wr = w1)
  case atStart => exact ⟨0, Nat.zero_add _, rfl, Lib.hid rfl, rfl⟩
  case round =>
    obtain ⟨k, hk, rfl, hr, rfl⟩ := hrel
    have hc := hS.cell 0 rfl (k * 3 + 2)
    by_cases hlt : k < 8
    · obtain ⟨v, hv⟩ : ∃ v, f[k]? = some v := ⟨_, List.getElem?_eq_getElem (by omega)⟩
      rw [List.getElem?_toArray, fl_str f k v hv] at hc
      by_cases hx : 200 < v.s.size
      · go_wp2_with fail
        go_ret
        have : largeF f = true := by
          rw [largeF, List.any_eq_true]
          exact ⟨v, List.mem_of_getElem? hv, decide_eq_true hx⟩
        exact ⟨by rw [this]; rfl, hS.below⟩
      · have hnext : largeF (f.take (k + 1)) = false := by
          obtain ⟨h1, h2⟩ := List.getElem?_eq_some_iff.1 hv
          rw [List.take_succ_eq_append_getElem h1, largeF, List.any_append, h2]
          have := hr.out
          rw [largeF] at this
          rw [this]
          simpa using hx
        replace hnext := Lib.hid hnext
        have hxb : decide ((200 : Int) < (v.s.size : Int)) = false := decide_eq_false (by omega)
        clear hx hr
        go_wp2_with fail
        go_roundg (8 - (k + 1))
        case measure => omega
        case rel => exact ⟨k + 1, by omega, by go_num, hnext, rfl⟩
    · obtain rfl : k = 8 := by omega
      have hr2 := hr.out
      rw [List.take_of_length_le (by omega)] at hr2
      clear hc
      go_wp2_with fail
      go_ret
      exact ⟨by rw [hr2]; rfl, hS.below⟩

end Go.Proofs.Ytajldelodnjmoaa
end

section
/- Turns that are long; the chapter's example. -/
set_option linter.unusedSimpArgs false
set_option linter.unusedVariables false
namespace Go.Proofs.Ytajldelodnjmoaa
open Go.RowKit Go.Ofp
set_option linter.unusedVariables false
set_option maxRecDepth 100000
set_option maxHeartbeats 4000000

end Go.Proofs.Ytajldelodnjmoaa
end
