/- maps.Clone of the shelf, at this program's numbers. -/
import Derived.Test.YtieojomabmippaaChecked
import Derived.Shelf.SlMaps.Clone
namespace Go.Proofs.Ytieojomabmippaa
open Go.Shelf
def cloneL_ren : Go.Shelf.Ren := ⟨fun | 5 => 26 | 7 => 44 | n => n, fun | 4 => 4 | 20 => 20 | 23 => 65 | 25 => 3 | 3 => 67 | n => n, fun | n => n⟩
theorem cloneL : Go.Proofs.SlLaysW.n5 Try.prog cloneL_ren := { mixed := by kernel_rfl, f5 := ⟨Try.f26.name, by decide, Try.func26.trans (congrArg some (by kernel_rfl))⟩, f7 := Try.func44.trans (congrArg some (by kernel_rfl)), t4 := Try.underlying4, a4 := Try.isAgg4, z4 := Try.sizeOf4, v4 := Try.zeroValue4, t20 := Try.underlying20, a20 := Try.isAgg20, z20 := Try.sizeOf20, v20 := Try.zeroValue20, t23 := Try.underlying65, a23 := Try.isAgg65, z23 := Try.sizeOf65, v23 := Try.zeroValue65 }

end Go.Proofs.Ytieojomabmippaa
