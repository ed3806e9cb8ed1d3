/-
  'awake' answers true: the kernel has reckoned it; so it is one step.
-/
import Derived.Test.YtkafejncffinmaaBodies0
import Derived.Test.YtkafejncffinmaaVals
namespace Go.Proofs.Ytkafejncffinmaa
open Go
set_option maxHeartbeats 0 in
theorem awake_run : okTrue (call bodies0 64 14 [] start) = true := by kernel_rfl
theorem awake_does : FnDoes Try.prog ty 14 bAwake := true_does ⟨Try.f14, Try.func14, name_ne (by kernel_rfl), by kernel_rfl⟩ (run_true calls0_ok awake_run)
theorem oA : FnOr Try.prog ty 14 bAwake := Or.inr (.inr awake_does)
end Go.Proofs.Ytkafejncffinmaa
