/- More instances on the types of this seat's program (printed by gentypes.py). Conditions: none. -/
import Derived.Test.YtjmbnhohfhpopaaChecked
import Derived.Test.YtjmbnhohfhpopaaR2
import Derived.KernelRfl
namespace Go.Proofs.Ytjmbnhohfhpopaa
open Go
instance : TEq2 Try.prog 59 := ⟨by kernel_rfl⟩
instance : TScal Try.prog 89 := .of (by kernel_rfl)
instance : TInt Try.prog 89 := .of (by kernel_rfl)
instance : TZero Try.prog 89 [.int .u64 0] := .of (by kernel_rfl)
end Go.Proofs.Ytjmbnhohfhpopaa
