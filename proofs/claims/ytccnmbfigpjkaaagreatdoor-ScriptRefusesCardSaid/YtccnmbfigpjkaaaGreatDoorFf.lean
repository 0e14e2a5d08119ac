/-
  DERIVED. One of the card's closed facts: no function of the translation starts a goroutine.
-/
import Derived.Test.YtccnmbfigpjkaaaGreatDoorCards
import Derived.KernelRfl
namespace Go.Proofs.YtccnmbfigpjkaaaGreatDoor
theorem no_goes : Tryz.pinned.checked.prog.funcs.any Func.goes = false := by kernel_rfl
theorem goes_none {P : Program} (h : P.funcs.any Func.goes = false) (f : FuncId) : P.goes f = false := by
  unfold Program.goes
  rw [h, Bool.and_false, Bool.or_false, List.any_eq_false]
  intro g _
  cases hg : P.funcs[g]? with
  | none => simp
  | some fn =>
    simp only [Option.any_some]
    intro hgo
    have hm : fn ∈ P.funcs := Array.mem_of_getElem? hg
    have : P.funcs.any Func.goes = true := by
      rw [Array.any_eq_true']
      exact ⟨fn, hm, hgo⟩
    rw [h] at this
    cases this
theorem fact_goes : false = Rows.scriptRefusesRow.goesBy Tryz.pinned.checked.prog := by
  have hs : Rows.scriptRefusesRow.start = .entering := rfl
  unfold OpenClaim.goesBy Program.goesAt Program.goesFrom
  rw [hs]
  cases h : Tryz.pinned.checked.prog.funcNamed Rows.scriptRefusesRow.func with
  | none => rfl
  | some f => rw [Option.any_some, goes_none no_goes f]; rfl
end Go.Proofs.YtccnmbfigpjkaaaGreatDoor
