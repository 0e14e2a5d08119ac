/-
  DERIVED. One of the row's closed facts: by the kernel, each in a text of its own (each takes some 8 GB).
-/
import Derived.Test.YtccnmbfigpjkaaaGreatDoorCards
import Derived.KernelRfl
namespace Go.Proofs.YtccnmbfigpjkaaaGreatDoor
theorem fact_unfollowed : (Rows.scriptRefusesRow.unfollowed == Tryz.pinned.checked.prog.unfollowed 3) = true := by kernel_rfl
end Go.Proofs.YtccnmbfigpjkaaaGreatDoor
