/- slices.Clone and maps.Clone of the shelf, at this program's numbers. -/
import Derived.Test.YtofeodhekpnpaaaChecked
import Derived.Shelf.SlicesE.Clone
import Derived.Shelf.SlMaps.Clone
namespace Go.Proofs.Ytofeodhekpnpaaa
open Go.Shelf
def cloneP_ren : Go.Shelf.Ren := ⟨fun | 41 => 33 | n => n, fun | 4 => 4 | 22 => 51 | 23 => 35 | n => n, fun | n => n⟩
theorem cloneP : Go.Proofs.SlLaysE0.n41 Try.prog cloneP_ren := { mixed := by kernel_rfl, f41 := ⟨Try.f33.name, by decide, Try.func33.trans (congrArg some (by kernel_rfl))⟩, t4 := Try.underlying4, a4 := Try.isAgg4, z4 := Try.sizeOf4, v4 := Try.zeroValue4, t22 := Try.underlying51, a22 := Try.isAgg51, z22 := Try.sizeOf51, v22 := Try.zeroValue51 }
def cloneM_ren : Go.Shelf.Ren := ⟨fun | 5 => 34 | 7 => 39 | n => n, fun | 4 => 4 | 20 => 20 | 23 => 60 | 25 => 3 | 3 => 3 | n => n, fun | n => n⟩
theorem cloneM : Go.Proofs.SlLaysW.n5 Try.prog cloneM_ren := { mixed := by kernel_rfl, f5 := ⟨Try.f34.name, by decide, Try.func34.trans (congrArg some (by kernel_rfl))⟩, f7 := Try.func39.trans (congrArg some (by kernel_rfl)), t4 := Try.underlying4, a4 := Try.isAgg4, z4 := Try.sizeOf4, v4 := Try.zeroValue4, t20 := Try.underlying20, a20 := Try.isAgg20, z20 := Try.sizeOf20, v20 := Try.zeroValue20, t23 := Try.underlying60, a23 := Try.isAgg60, z23 := Try.sizeOf60, v23 := Try.zeroValue60 }

end Go.Proofs.Ytofeodhekpnpaaa
