import Derived.Test.YtjgcibjodiefkaaNetTrue
import Derived.Deep.RegionHeld3
/-! A region whose order is drawn, many of whose operations stand behind a guard that is not met: those are passed over first. -/
namespace Go.Proofs.Ytjgcibjodiefkaa
open Go Lean Elab Tactic Meta

partial def shyWalk (keep tac : TSyntax `tactic) : TacticM Unit := withMainContext do
  let t := (← instantiateMVars (← getMainTarget)).consumeMData
  unless t.isAppOfArity ``wpAnyH 9 do throwError "go_shy: no wpAnyH:\n{t}"
  let args := t.getAppArgs
  let md := args[1]!
  let ops := args[2]!
  let listed := args[6]!
  let ready ← kernelNats (mkApp3 (mkConst ``Region.ready) md ops listed)
  if ready.isEmpty then
    evalTactic (← `(tactic| refine wpAnyH_done (by kernel_rfl) ?_ _))
    return
  let attempt (act : TacticM Unit) : TacticM Bool := do
    let s ← saveState
    try
      Term.withoutErrToSorry (Tactic.withoutRecover act)
      pure true
    catch _ =>
      s.restore
      pure false
  for i in ready do
    let some oe := opAt ops i | throwError "go_shy: the region is not written out"
    let o ← Term.exprToSyntax oe
    if ← attempt (evalTactic (← `(tactic| (refine wpAnyH_take (i := $(quote i)) (oi := $o) (v := undef) rfl (by kernel_rfl) (by kernel_rfl) (by kernel_rfl) (fun _ _ _ h => h) (Or.inr ⟨by rfl, rfl⟩) (by assumption) ?_; try simp only [Act.put, List.setIfInBounds_toArray, List.set_cons_zero, List.set_cons_succ])))) then
      shyWalk keep tac
      return
  for i in ready do
    let some oe := opAt ops i | throwError "go_shy: the region is not written out"
    let o ← Term.exprToSyntax oe
    if ← attempt (do
        evalTactic (← `(tactic| refine wpAnyH_take (i := $(quote i)) (oi := $o) (v := ?_) rfl (by kernel_rfl) (by kernel_rfl) (by kernel_rfl) (fun _ _ _ h => h) (Or.inl ⟨by rfl, ?_⟩) (by assumption) ?_))
        let [_, hy, rest] ← getGoals | throwError "three goals expected"
        setGoals [hy]
        evalTactic (← `(tactic| (intro w hSw; (try dsimp only at hSw); go_simp)))
        unless (← getGoals).isEmpty do evalTactic (← `(tactic| with_reducible rfl))
        unless (← getGoals).isEmpty do throwError "not closed"
        setGoals [rest]
        evalTactic (← `(tactic| try simp only [Act.put, List.setIfInBounds_toArray, List.set_cons_zero, List.set_cons_succ]))) then
      shyWalk keep tac
      return
  let lits : Array (TSyntax `term) := ready.toArray.map fun i => quote i
  evalTactic (← `(tactic| refine wpAnyH_ready (rs := [$lits,*]) (by kernel_rfl) (by simp) ?_))
  let mut done : List MVarId := []
  for i in ready do
    let some oe := opAt ops i | throwError "go_shy: the region is not written out"
    let o ← Term.exprToSyntax oe
    evalTactic (← `(tactic| refine AllReadyH.cons (o := $o) rfl (fun K hK => ?_) ?_))
    let [step, more] ← getGoals | throwError "go_shy: two goals expected"
    setGoals [step]
    evalTactic (← `(tactic| go_simp))
    if (← instantiateMVars (← getMainTarget)).consumeMData.isAppOf ``Calls then
      evalTactic tac
      unless (← instantiateMVars (← getMainTarget)).consumeMData.getAppFn.isFVar do evalTactic (← `(tactic| go_wp2_with fail))
    unless (← instantiateMVars (← getMainTarget)).consumeMData.getAppFn.isFVar do throwError "go_shy: operation {i} did not run to its end (ready: {ready}):\n{← getMainTarget}"
    evalTactic (← `(tactic| refine hK.out _ _ ?_ (fun hHeld => ?_)))
    let [hS, rest] ← getGoals | throwError "go_shy: two goals expected behind the step"
    setGoals [hS]
    evalTactic (← `(tactic| try dsimp only))
    unless (← getUnsolvedGoals).isEmpty do evalTactic keep
    setGoals [rest]
    evalTactic (← `(tactic| clear hK K))
    evalTactic (← `(tactic| try simp only [Act.put, List.setIfInBounds_toArray, List.set_cons_zero, List.set_cons_succ]))
    shyWalk keep tac
    done := done ++ (← getGoals)
    setGoals [more]
  evalTactic (← `(tactic| exact AllReadyH.nil))
  setGoals done

elab "go_shy " S:term:max ppSpace "(" keep:tactic ")" ppSpace "(" tac:tactic ")" : tactic => withMainContext do
  evalTactic (← `(tactic| refine wp_region_held_drew (S := $S) (by kernel_rfl) ?_ (fun hHeld => ?_)))
  let [hS, rest] ← getGoals | throwError "go_shy: two goals expected at the beginning"
  setGoals [hS]
  evalTactic (← `(tactic| try dsimp only))
  unless (← getUnsolvedGoals).isEmpty do evalTactic keep
  setGoals [rest]
  shyWalk keep tac
end Go.Proofs.Ytjgcibjodiefkaa
