/- CompactS: laid by the kit's own tool. -/
import Derived.Shelf.Slices.CompactS
import Derived.Test.YtoojpeidgdadgaaProg
namespace Go.Proofs
def Try.CompactS_ren : Go.Shelf.Ren := ⟨fun | 194 => 60 | n => n, fun | 31 => 23 | 9 => 9 | 3 => 3 | 4 => 4 | 0 => 0 | n => n, fun | n => n⟩
theorem Try.CompactS : Go.Proofs.Lays.n194 Try.prog Try.CompactS_ren := {
  mixed := by kernel_rfl,
  f194 := Try.func60.trans (congrArg some (by kernel_rfl)),
  t0 := Try.underlying0,
  a0 := Try.isAgg0,
  z0 := Try.sizeOf0,
  v0 := Try.zeroValue0,
  t3 := Try.underlying3,
  a3 := Try.isAgg3,
  z3 := Try.sizeOf3,
  v3 := Try.zeroValue3,
  t4 := Try.underlying4,
  a4 := Try.isAgg4,
  z4 := Try.sizeOf4,
  v4 := Try.zeroValue4,
  t9 := Try.underlying9,
  a9 := Try.isAgg9,
  z9 := Try.sizeOf9,
  v9 := Try.zeroValue9,
  t31 := Try.underlying23,
  a31 := Try.isAgg23,
  z31 := Try.sizeOf23,
  v31 := Try.zeroValue23 }
end Go.Proofs
