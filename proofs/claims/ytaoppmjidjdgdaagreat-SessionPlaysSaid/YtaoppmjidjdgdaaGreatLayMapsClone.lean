/- mapsClone: laid by the kit's own tool. -/
import Derived.Shelf.SlMaps.Clone
import Derived.Test.YtaoppmjidjdgdaaGreatProg
set_option linter.unusedVariables false
set_option maxRecDepth 2000
namespace Go.Proofs
def Tryz.MapsClone_ren : Go.Shelf.Ren := ⟨fun | 5 => 32 | 7 => 47 | n => n, fun | 23 => 27 | 25 => 3 | 3 => 4 | 4 => 4 | 20 => 20 | n => n, fun | n => n⟩
theorem Tryz.MapsClone : Go.Proofs.SlLaysW.n5 Tryz.prog Tryz.MapsClone_ren := {
 mixed := by kernel_rfl,
 f5 := ⟨Tryz.f32.name, by decide, Tryz.func32.trans (congrArg some (by kernel_rfl))⟩,
 f7 := Tryz.func47.trans (congrArg some (by kernel_rfl)),
 t4 := Tryz.underlying4,
 a4 := Tryz.isAgg4,
 z4 := Tryz.sizeOf4,
 v4 := Tryz.zeroValue4,
 t20 := Tryz.underlying20,
 a20 := Tryz.isAgg20,
 z20 := Tryz.sizeOf20,
 v20 := Tryz.zeroValue20,
 t23 := Tryz.underlying27,
 a23 := Tryz.isAgg27,
 z23 := Tryz.sizeOf27,
 v23 := Tryz.zeroValue27 }
end Go.Proofs
