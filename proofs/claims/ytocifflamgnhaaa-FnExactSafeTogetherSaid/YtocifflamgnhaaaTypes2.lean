/- More instances on the types of this seat's program (printed by gentypes.py). Conditions: none. -/
import Derived.Test.YtocifflamgnhaaaChecked
import Derived.Test.YtocifflamgnhaaaR2
import Derived.KernelRfl
namespace Go.Proofs.Ytocifflamgnhaaa
open Go
instance : TEq2 Try.prog 48 := ⟨by kernel_rfl⟩
instance : TEq2 Try.prog 97 := ⟨by kernel_rfl⟩
instance : TScal Try.prog 104 := .of (by kernel_rfl)
instance : TInt Try.prog 104 := .of (by kernel_rfl)
instance : TZero Try.prog 104 [.int .u64 0] := .of (by kernel_rfl)
end Go.Proofs.Ytocifflamgnhaaa
