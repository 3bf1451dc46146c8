/- slices.Clone of the shelf, at this program's numbers. -/
import Derived.Test.YtelkanfmhfopnaaChecked
import Derived.Shelf.SlicesE.Clone
namespace Go.Proofs.Ytelkanfmhfopnaa
open Go.Shelf
def cloneS_ren : Go.Shelf.Ren := ⟨fun | 41 => 37 | n => n, fun | 4 => 4 | 22 => 22 | 23 => 26 | n => n, fun | n => n⟩
theorem cloneS : Go.Proofs.SlLaysE0.n41 Try.prog cloneS_ren := { mixed := by kernel_rfl, f41 := ⟨Try.f37.name, by decide, Try.func37.trans (congrArg some (by kernel_rfl))⟩, t4 := Try.underlying4, a4 := Try.isAgg4, z4 := Try.sizeOf4, v4 := Try.zeroValue4, t22 := Try.underlying22, a22 := Try.isAgg22, z22 := Try.sizeOf22, v22 := Try.zeroValue22 }

end Go.Proofs.Ytelkanfmhfopnaa
