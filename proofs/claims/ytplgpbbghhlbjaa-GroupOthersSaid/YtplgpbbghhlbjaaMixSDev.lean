/- FOR MAKING PROOFS ALONE, NEVER IN A CLAIM: walks a region that draws its order, and prints the walk for expand.py. -/
import Derived.Test.YtplgpbbghhlbjaaSt6
set_option linter.unusedSimpArgs false
set_option linter.unusedVariables false
namespace Go.Ofp
open Go.RowKit
open Lean Elab Tactic Meta Go

def say (ind : Nat) (s : String) : TacticM Unit := logInfo m!"MX|{ind}|{s}|"

/-- The text of a tactic, on one line. -/
def oneLine (s : Lean.Syntax) : TacticM String := do
  let f ← Lean.PrettyPrinter.ppCategory `tactic s
  let t := f.pretty 100000
  pure (" ".intercalate ((t.splitOn "\n").map (·.trimAscii.toString)))

def putSimp : TacticM Unit := do evalTactic (← `(tactic| try simp only [List.getElem_toArray, List.getElem_cons_succ, List.getElem_cons_zero, Act.put, List.setIfInBounds_toArray, List.set_cons_zero, List.set_cons_succ]))

/-- Takes all that can be taken; gives their numbers, and what may come up then. -/
partial def takesLoop (acc : List String) : TacticM (List String × List Nat × Option Nat) := withMainContext do
  let t := (← instantiateMVars (← getMainTarget)).consumeMData
  unless t.isAppOfArity ``wpAnyH 9 do throwError "go_mixs: the goal is no 'wpAnyH':\n{t}"
  let args := t.getAppArgs
  let md := args[1]!
  let ops := args[2]!
  let listed := args[6]!
  let ready ← kernelNats (mkApp3 (mkConst ``Region.ready) md ops listed)
  let tmps := (args[7]!).getAppArgs[0]!
  for i in ready do
    let some oe := opAt ops i | throwError "the region is not written out"
    let isLoad := opHead ops i == some ``Op.load
    -- a guard that is not known yet
    let gd := oe.getArg! 5
    if gd.isAppOf ``Option.some then
      let num (e : Lean.Expr) : Option Nat := e.nat? <|> e.rawNatLit?
      let some j := num ((gd.appArg!).getAppArgs[2]!) | throwError "guard"
      let some oj := opAt ops j | throwError "guard's operation"
      let some d := (if (oj.getArg! 0).isAppOf ``Option.some then num (oj.getArg! 0).appArg! else none) | throwError "guard's slot"
      let some elems ← pure (listElems tmps.appArg!) | throwError "the slots are not written out"
      let some v := elems[d]? | throwError "guard's slot 2"
      if v.isAppOfArity ``Value.bool 1 && !(v.appArg!.isConst) then
        return (acc.reverse, [], some d)
    unless (← kernelBool (mkApp4 (mkConst ``Region.free) md ops listed (mkNatLit i))) do continue
    let s ← saveState
    let wanted ← if gd.isAppOf ``Option.some then kernelBool (mkApp2 (mkConst ``Region.wanted) oe (mkApp2 (mkConst ``yielded) ops (mkApp (mkConst ``Act.tmps) args[7]!))) else pure true
    let skipped ← try withoutRecover do
      if wanted then throwError "wanted"
      evalTactic (← `(tactic| refine mixs_skip $(quote i) rfl (by kernel_rfl) (fun _ _ _ h => h) (by kernel_rfl) (by assumption) ?_))
      putSimp
      pure true
    catch _ =>
      s.restore
      pure false
    if skipped then
      return ← takesLoop (s!"-{i}" :: acc)
    unless (match opHead ops i with | some n => worldless.contains n | none => false) || isLoad || takenFirstToo ops i do continue
    let s ← saveState
    let took ← try withoutRecover do
      evalTactic (← `(tactic| refine mixs_take $(quote i) (v := ?_) rfl (by kernel_rfl) (fun _ _ _ h => h) (by kernel_rfl) (by assumption) (fun s => ?hy) ?_))
      evalTactic (← `(tactic| case hy => (go_simp <;> with_reducible rfl)))
      putSimp
      pure true
    catch e =>
      s.restore
      if isLoad || opHead ops i == some ``Op.slice || opHead ops i == some ``Op.index || opHead ops i == some ``Op.binOp then logInfo m!"go_mixs: {opWords ops i} was not taken: {e.toMessageData}"
      pure false
    if took then
      return ← takesLoop (toString i :: acc)
  pure (acc.reverse, ready, none)

/-- What is done behind one operation. -/
def closeOp : TacticM Unit := do
  evalTactic (← `(tactic| (try clear $(mkIdent `hC))))
  evalTactic (← `(tactic| refine ($(mkIdent `hK)).out _ _ _ (fun _ h => h) (by first | exact $(mkIdent `hS) | exact ($(mkIdent `hS)).drop | exact ($(mkIdent `hS)).drop.drop | exact ($(mkIdent `hS)).drop.drop.drop | exact ($(mkIdent `hS)).drop.drop.drop.drop | exact ($(mkIdent `hS)).empty) (fun $(mkIdent `hC) => ?_)))
  evalTactic (← `(tactic| clear $(mkIdent `hK) $(mkIdent `K)))
  putSimp

def newS (intros : List Name) : TacticM Unit := do
  for n in intros do evalTactic (← `(tactic| intro $(mkIdent n):ident))
  evalTactic (← `(tactic| (clear $(mkIdent `hS); have $(mkIdent `hS) := $(mkIdent `hS1); clear $(mkIdent `hS1))))

def normS : TacticM Unit := do
  evalTactic (← `(tactic| try simp only [List.set_cons_zero, List.set_cons_succ, List.setIfInBounds_toArray, List.take_succ_cons, List.take_zero, List.drop_succ_cons, List.drop_zero, List.nil_append, List.cons_append, List.append_nil, List.drop_nil, List.take_nil, List.length_cons, List.length_nil, Nat.zero_add, Nat.add_zero, Nat.reduceAdd] at $(mkIdent `hS):ident))

def tryOps (l : List (String × TacticM Unit)) : TacticM (Option String) := do
  for (s, t) in l do
    let st ← saveState
    try
      withoutRecover t
      return some s
    catch _ => st.restore
  return none

partial def autoLoop (ind : Nat) (arms : Lean.Syntax) (armText : String) : TacticM Unit := withMainContext do
  let (took, ready, cas) ← takesLoop []
  unless took.isEmpty do say ind s!"go_mixs_takes [{" ".intercalate took}]"
  if let some d := cas then
    say ind s!"go_mixs_case {d}"
    evalTactic (← `(tactic| refine mixs_case $(quote d) rfl (fun $(mkIdent `hg) => ?_) (fun $(mkIdent `hg) => ?_)))
    let gs ← getGoals
    let [g1, g2] := gs | throwError "two goals"
    let mut left : List MVarId := []
    for g in [g1, g2] do
      setGoals [g]
      putSimp
      say ind "·"
      autoLoop (ind + 1) arms armText
      left := left ++ (← getGoals)
    setGoals left
    return
  if ready.isEmpty then
    say ind "go_mixs_done"
    evalTactic (← `(tactic| refine wpAnyH_done (by kernel_rfl) ?_ _))
    return
  let K := mkIdent `K; let hK := mkIdent `hK
  let t0 ← getMainTarget
  say ind s!"go_mixs_fork [{" ".intercalate (ready.map toString)}]"
  match ready with
  | [i] => evalTactic (← `(tactic| refine mixs_one $(quote i) (by kernel_rfl) rfl (fun $K $hK => ?_)))
  | [i, j] => evalTactic (← `(tactic| refine mixs_two $(quote i) $(quote j) (by kernel_rfl) rfl rfl (fun $K $hK => ?_) (fun $K $hK => ?_)))
  | [i, j, k] => evalTactic (← `(tactic| refine mixs_three $(quote i) $(quote j) $(quote k) (by kernel_rfl) rfl rfl rfl (fun $K $hK => ?_) (fun $K $hK => ?_) (fun $K $hK => ?_)))
  | [i, j, k, l] => evalTactic (← `(tactic| refine mixs_four $(quote i) $(quote j) $(quote k) $(quote l) (by kernel_rfl) rfl rfl rfl rfl (fun $K $hK => ?_) (fun $K $hK => ?_) (fun $K $hK => ?_) (fun $K $hK => ?_)))
  | _ => throwError "more than four may come up: {ready}"
  let gs ← getGoals
  let many := gs.length > 1
  let ind' := if many then ind + 1 else ind
  let mut left : List MVarId := []
  let hS := mkIdent `hS
  let ops := (← instantiateMVars t0).consumeMData.getAppArgs[2]!
  for (g, opi) in gs.zip ready do
    setGoals [g]
    if many then say ind "·"
    let hd := (opHead ops opi).getD `none
    let mut l : List (String × TacticM Unit) := if hd == ``Op.alloc || hd == ``Op.box then [
      ("alloc", do evalTactic (← `(tactic| refine op_alloc_st (by kernel_rfl) rfl (by assumption) $hS ?_)); newS [`g1, `w1, `hS1]),
      ("box", do evalTactic (← `(tactic| refine op_box_st (by kernel_rfl) rfl rfl $hS ?_)); newS [`g1, `w1, `hS1]),
      ("box1", do evalTactic (← `(tactic| refine op_box1_st (by kernel_rfl) rfl rfl $hS ?_)); newS [`g1, `w1, `hS1])] else []
    for i in [0:4] do
      if hd == ``Op.load || hd == ``Op.store then
       l := l ++ [
        (s!"load {i}", do evalTactic (← `(tactic| (refine op_load_st (by kernel_rfl) $(quote i) $hS rfl rfl rfl ?_ rfl ?_; focus (simp [scalarB, go_sem]; done))))),
        (s!"loadall {i}", do evalTactic (← `(tactic| (refine op_loadall_st (by kernel_rfl) $(quote i) $hS rfl rfl rfl ?_ (by kernel_rfl) ?_; focus (simp [rowB, go_sem]; done))))),
        (s!"store {i}", do evalTactic (← `(tactic| refine op_store_st (by kernel_rfl) $(quote i) $hS rfl rfl rfl (by kernel_rfl) rfl rfl ?_)); newS [`w1, `hS1]; normS),
        (s!"storerow {i}", do evalTactic (← `(tactic| refine op_storerow_st (by kernel_rfl) $(quote i) $hS rfl rfl rfl (by kernel_rfl) rfl rfl rfl rfl ?_)); newS [`w1, `hS1]; normS)]
    if hd == ``Op.call then l := [("!(" ++ armText ++ ")", do evalTactic arms), ("(" ++ armText ++ ")", do evalTactic (← `(tactic| go_simp)); evalTactic arms)] ++ l
    if hd == ``Op.buildSlice then l := [("!(" ++ armText ++ ")", do evalTactic arms)] ++ l
    if hd == ``Op.buildSlice || hd == ``Op.convert || hd == ``Op.makeSlice then l := [("(" ++ armText ++ ")", do evalTactic (← `(tactic| go_simp)); evalTactic arms)] ++ l
    match ← tryOps l with
    | some s =>
      say ind' s!"go_mixs_do {s}"
      closeOp
      autoLoop ind' arms armText
      left := left ++ (← getGoals)
    | none =>
      say ind' "sorry -- no arm"
      evalTactic (← `(tactic| go_simp))
      left := left ++ (← getGoals)
  setGoals left

elab "go_mixs_one_take " n:num : tactic => withMainContext do
  let i := n.getNat
  evalTactic (← `(tactic| refine mixs_take $(quote i) (v := ?_) rfl (by kernel_rfl) (fun _ _ _ h => h) (by kernel_rfl) (by assumption) (fun s => ?hy) ?_))

elab "go_mixs_ready" : tactic => withMainContext do
  let t := (← instantiateMVars (← getMainTarget)).consumeMData
  let args := t.getAppArgs
  let ready ← kernelNats (mkApp3 (mkConst ``Region.ready) args[1]! args[2]! args[6]!)
  logInfo m!"{ready}"

elab "go_mixs_t " n:num : tactic => withMainContext do
  let i := n.getNat
  let t0 ← IO.monoMsNow
  evalTactic (← `(tactic| refine mixs_take $(quote i) (v := ?_) rfl (by kernel_rfl) (fun _ _ _ h => h) (by kernel_rfl) (by assumption) (fun s => ?hy) ?_))
  let t1 ← IO.monoMsNow
  evalTactic (← `(tactic| case hy => (go_simp <;> with_reducible rfl)))
  let t2 ← IO.monoMsNow
  putSimp
  let t3 ← IO.monoMsNow
  logInfo m!"{i}: {t1 - t0} {t2 - t1} {t3 - t2}"

elab "go_mixs_auto " "(" tac:tacticSeq ")" : tactic => withMainContext do
  let t ← `(tactic| ($tac))
  let some text0 := t.raw.reprint | throwError "no text"
  let text := " ".intercalate (((text0.splitOn "\n").map (·.trimAscii.toString)).filter (· ≠ ""))
  let text := if text.startsWith "(" && text.endsWith ")" then ((text.drop 1).dropEnd 1).toString else text
  autoLoop 0 t text
  say 0 "END"

end Go.Ofp
