/-
  DERIVED. The row's closed facts, together.
-/
import Derived.Test.YtccnmbfigpjkaaaGreatDoorFa
import Derived.Test.YtccnmbfigpjkaaaGreatDoorFb
import Derived.Test.YtccnmbfigpjkaaaGreatDoorFc
import Derived.Test.YtccnmbfigpjkaaaGreatDoorFd
import Derived.JoinedOf
namespace Go.Proofs.YtccnmbfigpjkaaaGreatDoor
theorem facts_closed : joinedFacts Tryz.pinned.checked.prog 3 Tryz.f3 (OpenSpec.ofChange Rows.scriptRefusesSpec).bare Rows.scriptRefusesRow = true := by
  unfold joinedFacts
  rw [fact_inPlace, fact_unfollowed, fact_recurses, fact_named]
  kernel_rfl
end Go.Proofs.YtccnmbfigpjkaaaGreatDoor
