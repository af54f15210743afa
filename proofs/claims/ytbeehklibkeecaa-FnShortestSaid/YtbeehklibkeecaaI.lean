/- The shelf's structures, met by this program's functions: each is the shelf's body at this program's numbers. -/
import Derived.Shelf.SlLaysE
import Derived.Shelf.SlLaysE0
import Derived.Ground.SlgnProg
import Derived.Test.YtbeehklibkeecaaProg
namespace Go.Proofs.Ytbeehklibkeecaa.F
def cloneLL_ren : Go.Shelf.Ren := ⟨fun | 41 => 112 | n => n, fun | 22 => 44 | 23 => 24 | 4 => 4 | n => n, fun | n => n⟩
theorem cloneLL : Go.Proofs.SlLaysE0.n41 Try.prog cloneLL_ren := {
  mixed := by kernel_rfl,
  f41 := ⟨Try.f112.name, by decide, Try.func112.trans (congrArg some (by kernel_rfl))⟩,
  t4 := Try.underlying4,
  a4 := Try.isAgg4,
  z4 := Try.sizeOf4,
  v4 := Try.zeroValue4,
  t22 := Try.underlying44,
  a22 := Try.isAgg44,
  z22 := Try.sizeOf44,
  v22 := Try.zeroValue44 }
def deleteLL_ren : Go.Shelf.Ren := ⟨fun | 45 => 111 | n => n, fun | 22 => 44 | 23 => 24 | 3 => 3 | 4 => 4 | 0 => 0 | n => n, fun | n => n⟩
theorem deleteLL : Go.Proofs.SlLaysE.n45 Try.prog deleteLL_ren := {
  mixed := by kernel_rfl,
  f45 := ⟨Try.f111.name, by decide, Try.func111.trans (congrArg some (by kernel_rfl))⟩,
  t0 := Try.underlying0,
  a0 := Try.isAgg0,
  z0 := Try.sizeOf0,
  v0 := Try.zeroValue0,
  t3 := Try.underlying3,
  a3 := Try.isAgg3,
  z3 := Try.sizeOf3,
  v3 := Try.zeroValue3,
  t4 := Try.underlying4,
  a4 := Try.isAgg4,
  z4 := Try.sizeOf4,
  v4 := Try.zeroValue4,
  t22 := Try.underlying44,
  a22 := Try.isAgg44,
  z22 := Try.sizeOf44,
  v22 := Try.zeroValue44,
  a23 := Try.isAgg24,
  z23 := Try.sizeOf24 }
end Go.Proofs.Ytbeehklibkeecaa.F
