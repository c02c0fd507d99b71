/- Groups: one opened, one closed, a card that joins and quits. -/
import Derived.Test.YtplgpbbghhlbjaaGrp2
set_option linter.unusedSimpArgs false
set_option linter.unusedVariables false
namespace Go.Ofp
open Go.RowKit
abbrev Key := Int × List Int
def knos (ks : List Key) : List Int := ks.map (·.1)
theorem nos_keys (gs : List Gr) : nos gs = knos (keys gs) := by simp [nos, knos, keys, Gr.key, Function.comp_def]
/-- What the calls make of groups: an error's number, and the groups. -/
def openK (ks : List Key) (g : Int) : Int × List Key :=
  if g < 0 ∨ 16 ≤ g then (1, []) else if Ids.has (knos ks) g then (7, []) else (0, ks.take (Ids.place (knos ks) g) ++ (g, []) :: ks.drop (Ids.place (knos ks) g))
def closeK (ks : List Key) (g : Int) : Int × List Key :=
  if g < 0 ∨ 16 ≤ g then (1, []) else if Ids.has (knos ks) g then (0, ks.take (Ids.place (knos ks) g) ++ ks.drop (Ids.place (knos ks) g + 1)) else (6, [])
def memAt (ks : List Key) (g : Int) : List Int := (ks.getD (Ids.place (knos ks) g) (0, [])).2
def joinK (ks : List Key) (g id : Int) : Int × List Key :=
  if g < 0 ∨ 16 ≤ g ∨ id < 1 ∨ 1073741824 ≤ id then (1, []) else if Ids.has (knos ks) g then
    (if Ids.has (memAt ks g) id then (7, []) else (0, ks.set (Ids.place (knos ks) g) (g, Ids.put (memAt ks g) id))) else (6, [])
def quitK (ks : List Key) (g id : Int) : Int × List Key :=
  if g < 0 ∨ 16 ≤ g ∨ id < 1 ∨ 1073741824 ≤ id then (1, []) else if Ids.has (knos ks) g then
    (if Ids.has (memAt ks g) id then (0, ks.set (Ids.place (knos ks) g) (g, Ids.drop (memAt ks g) id)) else (6, [])) else (6, [])

section
variable {P : Program} {w w0 : World} {F : List Nat} {L : List Ch} {ops : Array Oper} {rest : List Oper} {o : Oper} {a : Act} {Q : Exit → Act → World → Prop}
/-- A slice of one element of several cells, built. -/
theorem wpList_build1a_st (hS : St w0 F L w) (hgd : o.guard = none) {t : TypeId} {x : Operand} (ho : o.op = .buildSlice t 1 #[(0, x)]) {e : TypeId} (ht : P.underlying t = some (.slice e)) {z : Value} {size bytes : Nat} (he : Elem P e z size bytes)
    {cs : Array Value} (hx : a.eval x = .agg cs) (hv : cs.size = size) (hs : size ≤ 16777216)
    (h : ∀ g w', St w0 F (Ch.blk g e cs :: L) w' → wpList P ops Q rest (a.put o.dst (.slice (some ⟨g, 0, none⟩) 1 1)) w') : wpList P ops Q (o :: rest) a w := by
  refine wpList_plain hgd fun K hK => ?_
  have hr := run_build1 w t e ht he (v := .agg cs) hv hs
  unfold Oper.wp execOp
  simp only [ho, List.map_toArray, List.map_cons, List.map_nil, hx, Sem.run_bind, hr, Result.andThen_ok, Sem.run_pure]
  exact hK _ _ (h _ _ (hS.alloc cs e))
end
end Go.Ofp
namespace Go.Proofs.Ytplgpbbghhlbjaa
open Go.RowKit Go.Ofp
set_option linter.unusedVariables false
set_option maxRecDepth 100000
set_option maxHeartbeats 4000000

/-- Groups that a callee hands back, or an error. -/
def GsOut (r : Int × List Key) (w : World) (e : Ending) (w' : World) : Prop := ∃ a c gs', keys gs' = r.2 ∧ e = .returned (.tuple #[.slice a gs'.length c, .int .i64 r.1]) ∧ Deep w' a gs'.length c gs' ∧ Below w.heap.size w w'

theorem deep_nil (w : World) : Deep w none 0 0 [] := ⟨Sl.nil _ _, rfl, Nat.le_refl _, Nat.zero_le _, fun _ => rfl, by simp⟩
theorem gsOut_err {w w' : World} {e : Int} (hb : Below w.heap.size w w') : GsOut (e, []) w (.returned (.tuple #[.slice none 0 0, .int .i64 e])) w' := ⟨none, 0, [], rfl, rfl, deep_nil _, hb⟩

theorem deep_of {w w' : World} {a : Option Addr} {n c : Nat} {gs : List Gr} {xs : List Value} {T : List Ch} (hS : St w [] (Ch.row 58 2 (.slice a n c) n xs :: T) w') (hx : xs = grows gs) (hn : gs.length = n) (hM : ∀ g ∈ gs, gp g ∈ T ∨ Mem w' g) : Deep w' a n c gs := by
  subst hx
  obtain ⟨a', c', e, hs, -, h1, h2⟩ := hS.row 0 rfl
  cases e
  refine ⟨hs, hn, h1, h2, hS.rownil 0 rfl, fun g hg => ?_⟩
  rcases hM g hg with h | h
  · exact mem_of_gp (hS.mem (List.mem_cons_of_mem _ h))
  · exact h

theorem build_g (g : Int) (w : World) : (Instr.build 58 #[(0, .int .i64 g)]).run Try.prog w = .ok (.agg #[.int .i64 g, .slice none 0 0]) w := by kernel_rfl

theorem open_any (a : Option Addr) (gs : List Gr) (n cap : Nat) (g : Int) (w : World) (hD : Deep w a n cap gs) (hm : n ≤ 1000) (hmm : ∀ g ∈ gs, g.mem.length ≤ 10000) (hu : Ids.Up (nos gs)) :
    Calls Try.prog 45 #[.slice a n cap, .int .i64 g] w (GsOut (openK (keys gs) g) w) := by
  have hS := St.start w
  have cF := fun W (h : Deep W a n cap gs) => find_any a gs n cap g W h (by omega) hu
  have cC := fun W (h : Deep W a n cap gs) => copied_any a gs n cap W h hm hmm
  have hpl := place_le (nos gs) g
  have hnl : (nos gs).length = n := by rw [nos, List.length_map, hD.len]
  have hlen := hD.len
  have hlt := Ids.has_lt (nos gs) g hu
  rw [hnl] at hpl
  unfold openK
  rw [← nos_keys]
  generalize Ids.has (nos gs) g = hb at cF ⊢
  generalize Ids.place (nos gs) g = p at cF hpl ⊢
  replace hD := Lib.hid hD
  replace cF := Lib.hid cF
  replace cC := Lib.hid cC
  clear hnl hu hlt
  by_cases h1 : g < 0
  · rw [if_pos (.inl h1)]
    clear hlen
    go_enter Try.func45, Try.ntmps45
    go_wp2_with fail
    go_ret2
    exact gsOut_err hS.below
  · have h1' : 0 ≤ g := by omega
    by_cases h2 : 16 ≤ g
    · rw [if_pos (.inr h2)]
      have d1 : decide (g < 0) = false := decide_eq_false h1
      clear hlen h1
      go_enter Try.func45, Try.ntmps45
      go_wp2_with fail
      go_ret2
      exact gsOut_err hS.below
    · have h2' : g < 16 := by omega
      have d1 : decide (g < 0) = false := decide_eq_false h1
      have d2 : decide (16 ≤ g) = false := decide_eq_false h2
      rw [if_neg (by omega)]
      clear h1 h2
      cases hb with
      | true =>
        rw [if_pos rfl]
        clear hlen
        go_enter Try.func45, Try.ntmps45
        go_wp2_with (go_at_call 69; (with_reducible refine (cF.out _ hD.out).mono ?_); rintro _ w3 ⟨rfl, hb3⟩; have hS1 := hS.keepB hb3; clear hb3 hS; have hS := hS1; clear hS1)
        go_ret2
        exact gsOut_err hS.below
      | false =>
        rw [if_neg (by simp)]
        have hD3 := fun W (h : Below w.heap.size w W) => hD.out.below h
        have cI := fun a3 c3 gs' gv W h => ginsert_any a3 gv n c3 p (grows gs') [.int .i64 g, .slice none 0 0] W h (grows_one gs') (by intro u hu; simp at hu; rcases hu with rfl | rfl <;> rfl) rfl hpl (by omega)
        replace cI := Lib.hid cI
        replace hlen := Lib.hid hlen
        replace hD3 := Lib.hid hD3
        go_enter Try.func45, Try.ntmps45
        go_wp2_with (first
          | (go_at_call 69; (with_reducible refine (cF.out _ hD.out).mono ?_); rintro _ w3 ⟨rfl, hb3⟩; have hS1 := hS.keepB hb3; clear hb3 hS; have hS := hS1; clear hS1)
          | (go_at_call 75; (with_reducible refine (cC.out _ (hD3.out _ hS.below)).mono ?_); rintro _ w3 ⟨a3, c3, gs', hk3, rfl, hb3⟩; have hS1 := hS.made hb3; clear hS hb3; have hS := hS1; clear hS1; simp only [hlen.out, List.append_nil] at hS ⊢; replace hk3 := Lib.hid hk3)
          | ((with_reducible refine wpList_build1 rfl rfl (.int .i64 g) rfl (build_g g) ?_))
          | ((with_reducible refine wpList_build1a_st hS rfl rfl Try.underlying52 elem_g rfl rfl (by omega) ?_); intro g3 w4 hS1; clear hS; have hS := hS1.swap; clear hS1)
          | (go_at_call 74; (refine (cI.out a3 c3 gs' g3 _ (hS.pre (gA a3 n c3 g3 (grows gs') [.int .i64 g, .slice none 0 0]) _ rfl)).mono ?_); rintro _ w5 ⟨a4, c4, rfl, hb3⟩; have hS1 := hS.call (gA a3 n c3 g3 (grows gs') [.int .i64 g, .slice none 0 0]) _ rfl hb3; clear hS hb3; have hS := hS1; clear hS1))
        go_ret2
        have hl' : gs'.length = n := by
          have := congrArg List.length hk3.out
          simp only [keys, List.length_map] at this
          rw [this, hlen.out]
        have hlx : (gs'.take p ++ (⟨g, none, 0, []⟩ : Gr) :: gs'.drop p).length = n + 1 := by simp; omega
        have hd := deep_of (gs := gs'.take p ++ (⟨g, none, 0, []⟩ : Gr) :: gs'.drop p) hS (by
          rw [grows_take, grows_drop, grows_append]; simp [grows, Gr.row]) hlx (by
          intro x hx
          simp only [List.mem_append, List.mem_cons] at hx
          rcases hx with hx | rfl | hx
          · left; exact List.mem_map.2 ⟨x, by simpa using List.mem_of_mem_take hx, rfl⟩
          · right; exact ⟨Sl.nil _ _, Nat.le_refl _, Nat.zero_le _, fun _ => rfl⟩
          · left; exact List.mem_map.2 ⟨x, by simpa using List.mem_of_mem_drop hx, rfl⟩)
        refine ⟨a4, c4, _, ?_, ?_, by rw [hlx]; exact hd, hS.below⟩
        · rw [← hk3.out]
          simp [keys, Gr.key]
        · rw [hlx]; rfl

theorem close_any (a : Option Addr) (gs : List Gr) (n cap : Nat) (g : Int) (w : World) (hD : Deep w a n cap gs) (hm : n ≤ 1000) (hmm : ∀ g ∈ gs, g.mem.length ≤ 10000) (hu : Ids.Up (nos gs)) :
    Calls Try.prog 47 #[.slice a n cap, .int .i64 g] w (GsOut (closeK (keys gs) g) w) := by
  have hS := St.start w
  have cF := fun W (h : Deep W a n cap gs) => find_any a gs n cap g W h (by omega) hu
  have cC := fun W (h : Deep W a n cap gs) => copied_any a gs n cap W h hm hmm
  have hnl : (nos gs).length = n := by rw [nos, List.length_map, hD.len]
  have hlen := hD.len
  have hlt := Ids.has_lt (nos gs) g hu
  rw [hnl] at hlt
  unfold closeK
  rw [← nos_keys]
  generalize Ids.has (nos gs) g = hb at cF hlt ⊢
  generalize Ids.place (nos gs) g = p at cF hlt ⊢
  replace hD := Lib.hid hD
  replace cF := Lib.hid cF
  replace cC := Lib.hid cC
  clear hnl hu
  by_cases h1 : g < 0
  · rw [if_pos (.inl h1)]
    clear hlen hlt
    go_enter Try.func47, Try.ntmps47
    go_wp2_with fail
    go_ret2
    exact gsOut_err hS.below
  · have h1' : 0 ≤ g := by omega
    by_cases h2 : 16 ≤ g
    · rw [if_pos (.inr h2)]
      have d1 : decide (g < 0) = false := decide_eq_false h1
      clear hlen h1 hlt
      go_enter Try.func47, Try.ntmps47
      go_wp2_with fail
      go_ret2
      exact gsOut_err hS.below
    · have h2' : g < 16 := by omega
      have d1 : decide (g < 0) = false := decide_eq_false h1
      have d2 : decide (16 ≤ g) = false := decide_eq_false h2
      rw [if_neg (by omega)]
      clear h1 h2
      cases hb with
      | false =>
        rw [if_neg (by simp)]
        clear hlen hlt
        go_enter Try.func47, Try.ntmps47
        go_wp2_with (go_at_call 69; (with_reducible refine (cF.out _ hD.out).mono ?_); rintro _ w3 ⟨rfl, hb3⟩; have hS1 := hS.keepB hb3; clear hb3 hS; have hS := hS1; clear hS1)
        go_ret2
        exact gsOut_err hS.below
      | true =>
        rw [if_pos rfl]
        have hpn := hlt rfl
        obtain ⟨k, rfl⟩ : ∃ k, n = k + 1 := ⟨n - 1, by omega⟩
        have hD3 := fun W (h : Below w.heap.size w W) => hD.out.below h
        have cI := fun g3 c3 gs' W h => gdelete_any g3 k c3 p (grows gs') W h (grows_one gs') (by omega) (by omega)
        replace cI := Lib.hid cI
        replace hlen := Lib.hid hlen
        replace hD3 := Lib.hid hD3
        clear hlt
        go_enter Try.func47, Try.ntmps47
        go_wp2_with (first
          | (go_at_call 69; (with_reducible refine (cF.out _ hD.out).mono ?_); rintro _ w3 ⟨rfl, hb3⟩; have hS1 := hS.keepB hb3; clear hb3 hS; have hS := hS1; clear hS1)
          | (go_at_call 75; (with_reducible refine (cC.out _ (hD3.out _ hS.below)).mono ?_); rintro _ w3 ⟨a3, c3, gs', hk3, rfl, hb3⟩; have hS1 := hS.made hb3; clear hS hb3; have hS := hS1; clear hS1; simp only [hlen.out, List.append_nil] at hS ⊢; replace hk3 := Lib.hid hk3; obtain ⟨g3, c4, e3, -⟩ := hS.rowat 0 rfl (by omega); cases e3)
          | (go_at_call 77; (refine (cI.out g3 c3 gs' _ (hS.pre [Ch.row 58 2 (.slice (some ⟨g3, 0, none⟩) (k + 1) c3) (k + 1) (grows gs')] _ rfl)).mono ?_); rintro _ w5 ⟨rfl, hb3⟩; have hS1 := hS.call [Ch.row 58 2 (.slice (some ⟨g3, 0, none⟩) (k + 1) c3) (k + 1) (grows gs')] _ rfl hb3; clear hS hb3; have hS := hS1; clear hS1))
        go_ret2
        have hl' : gs'.length = k + 1 := by
          have := congrArg List.length hk3.out
          simp only [keys, List.length_map] at this
          rw [this, hlen.out]
        have hlx : (gs'.take p ++ gs'.drop (p + 1)).length = k := by simp; omega
        have hd := deep_of (gs := gs'.take p ++ gs'.drop (p + 1)) hS (by
          rw [grows_take, grows_drop, grows_append]) hlx (by
          intro x hx
          simp only [List.mem_append] at hx
          rcases hx with hx | hx
          · left; exact List.mem_map.2 ⟨x, by simpa using List.mem_of_mem_take hx, rfl⟩
          · left; exact List.mem_map.2 ⟨x, by simpa using List.mem_of_mem_drop hx, rfl⟩)
        refine ⟨_, _, _, ?_, ?_, by rw [hlx]; exact hd, hS.below⟩
        · rw [← hk3.out]
          simp [keys]
        · rw [hlx]; rfl
end Go.Proofs.Ytplgpbbghhlbjaa
