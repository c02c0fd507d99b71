/- Texts laid together: Grp5 Grp6 St8. -/
import Derived.Test.YtneolmnpebiifaaGreatDoorM3
import Derived.Test.YtneolmnpebiifaaGreatDoorM7
section
/- Groups: which may be, whose members, and which are alike. -/
set_option linter.unusedSimpArgs false
set_option linter.unusedVariables false
namespace Go.Ofp
/-- May groups be, behind a number? -/
def chkKF : Int → List Key → Bool
  | _, [] => true
  | last, k :: ks => decide (last < k.1) && (decide (k.1 < 16) && (Ids.chk k.2 && chkKF k.1 ks))
theorem chkKF_cons (last no : Int) (mem : List Int) (ks : List Key) : chkKF last ((no, mem) :: ks) = (decide (last < no) && (decide (no < 16) && (Ids.chk mem && chkKF no ks))) := rfl
def chkK (ks : List Key) : Bool := chkKF (-1) ks
/-- A card's groups. -/
def ofFrom (id : Int) : Nat → List Key → Nat
  | s, [] => s
  | s, k :: ks => ofFrom id (cond (Ids.has k.2 id) (s ||| 2 ^ k.1.toNat) s) ks
theorem ofFrom_cons (id : Int) (s : Nat) (no : Int) (mem : List Int) (ks : List Key) : ofFrom id s ((no, mem) :: ks) = ofFrom id (cond (Ids.has mem id) (s ||| 2 ^ no.toNat) s) ks := rfl
def ofK (ks : List Key) (id : Int) : Nat := ofFrom id 0 ks
def membersK (ks : List Key) (g : Int) : List Int := if Ids.has (knos ks) g then memAt ks g else []

theorem chkKF_iff (ks : List Key) : ∀ last : Int, chkKF last ks = true ↔ Ids.Up (knos ks) ∧ (∀ k ∈ ks, last < k.1 ∧ k.1 < 16) ∧ ∀ k ∈ ks, Ids.Rise k.2 := by
  induction ks with
  | nil => intro last; simp [chkKF, knos, Ids.Up]
  | cons x l ih =>
    intro last
    simp only [chkKF, Bool.and_eq_true, decide_eq_true_eq, ih x.1, Ids.Up, knos, List.map_cons, List.pairwise_cons, List.mem_cons, forall_eq_or_imp, List.mem_map, forall_exists_index, and_imp, forall_apply_eq_imp_iff₂, Ids.chk_iff]
    constructor
    · rintro ⟨h1, h2, h3, h4, h5, h6⟩
      exact ⟨⟨fun y hy => (h5 y hy).1, h4⟩, ⟨⟨h1, h2⟩, fun y hy => ⟨by have := (h5 y hy).1; omega, (h5 y hy).2⟩⟩, h3, h6⟩
    · rintro ⟨⟨h1, h2⟩, ⟨⟨h3, h4⟩, h5⟩, h6, h7⟩
      exact ⟨h3, h4, h6, h2, fun y hy => ⟨h1 y hy, (h5 y hy).2⟩, h7⟩
theorem chkK_iff (ks : List Key) : chkK ks = true ↔ Ids.Up (knos ks) ∧ (∀ k ∈ ks, 0 ≤ k.1 ∧ k.1 < 16) ∧ ∀ k ∈ ks, Ids.Rise k.2 := by
  unfold chkK
  rw [chkKF_iff]
  constructor
  · rintro ⟨h1, h2, h3⟩; exact ⟨h1, fun k hk => ⟨by have := h2 k hk; omega, (h2 k hk).2⟩, h3⟩
  · rintro ⟨h1, h2, h3⟩; exact ⟨h1, fun k hk => ⟨by have := h2 k hk; omega, (h2 k hk).2⟩, h3⟩
end Go.Ofp
namespace Go.Proofs.YtneolmnpebiifaaGreatDoor
open Go.RowKit Go.Ofp
set_option linter.unusedVariables false
set_option maxRecDepth 100000
set_option maxHeartbeats 4000000

theorem gkeys_drop_cons {gs : List Gr} {j : Nat} (h : j < gs.length) : (keys gs).drop j = gs[j].key :: (keys gs).drop (j + 1) := by
  unfold keys
  rw [List.drop_eq_getElem_cons (by simpa using h)]
  simp

end Go.Proofs.YtneolmnpebiifaaGreatDoor
end

section
/- Groups: members, groups without a card, and which are alike. -/
set_option linter.unusedSimpArgs false
set_option linter.unusedVariables false
namespace Go.Ofp
def leaveK (ks : List Key) (id : Int) : List Key := ks.map fun k => (k.1, Ids.drop k.2 id)
end Go.Ofp
namespace Go.Proofs.YtneolmnpebiifaaGreatDoor
open Go.RowKit Go.Ofp
set_option linter.unusedVariables false
set_option maxRecDepth 100000
set_option maxHeartbeats 4000000

theorem members_any (a : Option Addr) (gs : List Gr) (n cap : Nat) (g : Int) (w : World) (hD : Deep w a n cap gs) (hm : n ≤ 1000) (hmm : ∀ g ∈ gs, g.mem.length ≤ 10000) (hu : Ids.Up (nos gs)) :
    Calls Tryz.prog 77 #[.slice a n cap, .int .i64 g] w (IntsRet (membersK (keys gs) g) w) := by
  have hS := St.start w
  have cF := fun W (h : Deep W a n cap gs) => find_any a gs n cap g W h (by omega) hu
  have hnl : (nos gs).length = n := by rw [nos, List.length_map, hD.len]
  have hlen := hD.len
  have hlt := Ids.has_lt (nos gs) g hu
  rw [hnl] at hlt
  unfold membersK memAt
  rw [← nos_keys]
  generalize Ids.has (nos gs) g = hb at cF hlt ⊢
  generalize Ids.place (nos gs) g = p at cF hlt ⊢
  replace hD := Lib.hid hD
  replace cF := Lib.hid cF
  clear hu
  cases hb with
  | false =>
    clear hlen hlt hnl
    go_enter Tryz.func77, Tryz.ntmps77
    go_wp2_with (go_at_call 118; (with_reducible refine (cF.out _ hD.out).mono ?_); rintro _ w3 ⟨rfl, hb3⟩; have hS1 := hS.keepB hb3; clear hb3 hS; have hS := hS1; clear hS1)
    go_ret
    exact intsRet_mk (hS.nilrow 3 1) rfl rfl
  | true =>
    have hpn := hlt rfl
    have hpg : p < gs.length := by omega
    obtain ⟨b, off, rfl, c0, c1⟩ := hD.out.get p hpg
    have hgM := hD.out.mem gs[p] (List.getElem_mem hpg)
    have hgl := hmm gs[p] (List.getElem_mem hpg)
    have hmem : ((keys gs).getD p (0, [])).2 = gs[p].mem := by
      unfold keys
      simp [List.getD_eq_getElem?_getD, hpg, Gr.key]
    rw [if_pos rfl, hmem]
    generalize gs[p] = gp0 at c0 c1 hgM hgl
    have cC := Lib.hid (fun W h => clone_any gp0.a gp0.mem gp0.mem.length gp0.c W h rfl (by omega) hgM.nz)
    have hsl := Lib.hid (fun W (h : St w [] [] W) => h.sl hgM.sl)
    replace c1 := Lib.hid c1
    have hcc := Lib.hid (fun W (h : St w [] [] W) => h.old c1.out (by simp))
    clear c0 hlt hnl hmem hgM hlen
    go_enter Tryz.func77, Tryz.ntmps77
    go_wp2_with (first
      | (go_at_call 118; (with_reducible refine (cF.out _ hD.out).mono ?_); rintro _ w3 ⟨rfl, hb3⟩; have hS1 := hS.keepB hb3; clear hb3 hS; have hS := hS1; clear hS1; have hcell := hcc.out _ hS)
      | (go_at_call 37; (with_reducible refine (cC.out _ (hsl.out _ hS)).mono ?_); rintro _ w4 ⟨a5, c5, rfl, h51, h52, hb4⟩; clear hcell; have hS1 := hS.made hb4; clear hS hb4; have hS := hS1; clear hS1))
    go_ret
    exact ⟨_, _, rfl, h51, h52, hS⟩

end Go.Proofs.YtneolmnpebiifaaGreatDoor
end

section
/- Pieces in the midst: a call that writes to some of them, and what is left behind. -/
set_option linter.unusedSimpArgs false
set_option linter.unusedVariables false
namespace Go.Ofp
open Go.RowKit
theorem Sl.old {w0 w : World} {F : List Nat} {L : List Ch} {a : Option Addr} {xs : List Value} (hs : Sl w0 a xs) (h : St w0 F L w) (hap : 0 < xs.length → ∀ b o, a = some ⟨b, o, none⟩ → b ∉ F) : Sl w a xs := by
  intro i hi
  obtain ⟨b, off, e, hc⟩ := hs i hi
  exact ⟨b, off, e, h.old hc (hap (by omega) b off e)⟩
theorem feet_append (A B : List Ch) : feet (A ++ B) = feet A ++ feet B := by simp [feet]
theorem feet_off {A B : List Ch} {b : Nat} (h : b ∉ feet (A ++ B)) : b ∉ feet A ∧ b ∉ feet B := by
  rw [feet_append] at h
  exact ⟨fun k => h (List.mem_append_left _ k), fun k => h (List.mem_append_right _ k)⟩
namespace St
variable {w0 w w' : World} {F : List Nat} {A B B' R L : List Ch} {c : Ch}
/-- The first pieces go to the end. -/
theorem rot (h : St w0 F (A ++ B) w) : St w0 F (B ++ A) w := by
  refine h.pick (fun i => if i < B.length then A.length + i else i - B.length) ?_ ?_
  · intro i d hd
    by_cases hi : i < B.length
    · rw [List.getElem?_append_left hi] at hd
      simp only [hi, if_true]
      rw [List.getElem?_append_right (by omega), Nat.add_sub_cancel_left]
      exact hd
    · rw [List.getElem?_append_right (by omega)] at hd
      simp only [hi, if_false]
      rw [List.getElem?_append_left (List.getElem?_eq_some_iff.1 hd).1]
      exact hd
  · intro i j hi hj hij
    simp only [List.length_append] at hi hj
    split <;> split <;> omega
theorem preM (h : St w0 F (A ++ (B ++ R)) w) : St w (feet B) B w := by
  have := h.rot
  rw [List.append_assoc] at this
  exact this.pre B (R ++ A) rfl
theorem callM (h : St w0 F (A ++ (B ++ R)) w) (k : St w (feet B) B' w') : St w0 F (A ++ (B' ++ R)) w' := by
  have h1 := h.rot
  rw [List.append_assoc] at h1
  have h2 := h1.call B (R ++ A) rfl k
  rw [← List.append_assoc] at h2
  exact h2.rot
theorem dropM (h : St w0 F (A ++ (B ++ R)) w) : St w0 F (A ++ R) w := by
  refine h.pick (fun i => if i < A.length then i else B.length + i) ?_ ?_
  · intro i d hd
    by_cases hi : i < A.length
    · rw [List.getElem?_append_left hi] at hd
      simp only [hi, if_true]
      rw [List.getElem?_append_left hi]
      exact hd
    · rw [List.getElem?_append_right (by omega)] at hd
      simp only [hi, if_false]
      rw [List.getElem?_append_right (by omega), List.getElem?_append_right (by omega), show B.length + i - A.length - B.length = i - A.length by omega]
      exact hd
  · intro i j hi hj hij
    split <;> split <;> omega
theorem back (h : St w0 F (A ++ R) w) : St w0 F R w := by
  have := dropM (A := []) (B := A) (R := R) h
  exact this
theorem fore (h : St w0 F (A ++ R) w) : St w0 F A w := by
  have := dropM (A := A) (B := R) (R := []) (by simpa using h)
  simpa using this
end St
end Go.Ofp
end
