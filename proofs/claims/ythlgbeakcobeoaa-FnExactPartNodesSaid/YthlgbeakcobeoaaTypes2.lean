/- More instances on the types of this seat's program (printed by gentypes.py). Conditions: none. -/
import Derived.Test.YthlgbeakcobeoaaChecked
import Derived.Test.YthlgbeakcobeoaaR2
import Derived.KernelRfl
namespace Go.Proofs.Ythlgbeakcobeoaa
open Go
instance : TEq2 Try.prog 67 := ⟨by kernel_rfl⟩
instance : TEq2 Try.prog 80 := ⟨by kernel_rfl⟩
instance : TEq2 Try.prog 116 := ⟨by kernel_rfl⟩
instance : TScal Try.prog 120 := .of (by kernel_rfl)
instance : TInt Try.prog 120 := .of (by kernel_rfl)
instance : TZero Try.prog 120 [.int .u64 0] := .of (by kernel_rfl)
instance : TEq2 Try.prog 125 := ⟨by kernel_rfl⟩
end Go.Proofs.Ythlgbeakcobeoaa
