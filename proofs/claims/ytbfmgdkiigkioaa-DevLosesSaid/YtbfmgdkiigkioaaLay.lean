/- slices.Clone of the shelf, at this program's numbers. -/
import Derived.Test.YtbfmgdkiigkioaaChecked
import Derived.Shelf.SlicesE.Clone
namespace Go.Proofs.Ytbfmgdkiigkioaa
open Go.Shelf
def cloneB_ren : Go.Shelf.Ren := ⟨fun | 41 => 33 | n => n, fun | 4 => 4 | 22 => 48 | 23 => 34 | n => n, fun | n => n⟩
theorem cloneB : Go.Proofs.SlLaysE0.n41 Try.prog cloneB_ren := { mixed := by kernel_rfl, f41 := ⟨Try.f33.name, by decide, Try.func33.trans (congrArg some (by kernel_rfl))⟩, t4 := Try.underlying4, a4 := Try.isAgg4, z4 := Try.sizeOf4, v4 := Try.zeroValue4, t22 := Try.underlying48, a22 := Try.isAgg48, z22 := Try.sizeOf48, v22 := Try.zeroValue48 }
def cloneW_ren : Go.Shelf.Ren := ⟨fun | 41 => 44 | n => n, fun | 4 => 4 | 22 => 60 | 23 => 66 | n => n, fun | n => n⟩
theorem cloneW : Go.Proofs.SlLaysE0.n41 Try.prog cloneW_ren := { mixed := by kernel_rfl, f41 := ⟨Try.f44.name, by decide, Try.func44.trans (congrArg some (by kernel_rfl))⟩, t4 := Try.underlying4, a4 := Try.isAgg4, z4 := Try.sizeOf4, v4 := Try.zeroValue4, t22 := Try.underlying60, a22 := Try.isAgg60, z22 := Try.sizeOf60, v22 := Try.zeroValue60 }
def cloneI_ren : Go.Shelf.Ren := ⟨fun | 41 => 45 | n => n, fun | 4 => 4 | 22 => 50 | 23 => 3 | n => n, fun | n => n⟩
theorem cloneI : Go.Proofs.SlLaysE0.n41 Try.prog cloneI_ren := { mixed := by kernel_rfl, f41 := ⟨Try.f45.name, by decide, Try.func45.trans (congrArg some (by kernel_rfl))⟩, t4 := Try.underlying4, a4 := Try.isAgg4, z4 := Try.sizeOf4, v4 := Try.zeroValue4, t22 := Try.underlying50, a22 := Try.isAgg50, z22 := Try.sizeOf50, v22 := Try.zeroValue50 }

end Go.Proofs.Ytbfmgdkiigkioaa
