/- The functions, as code of the value machine (printed by program). -/
import Derived.Test.YtipppgiimemloaaGreatVm24
import Derived.Test.YtipppgiimemloaaGreatProg
set_option linter.unusedVariables false
set_option maxRecDepth 2000
namespace Go.Proofs
open Go.Vm
def m61 : MC :=
 .seq (
 .reg [⟨(some 2), .mov (.const (.pointer none)), none⟩]) (
 .trim [0] [] [] (
 .seq (
 .reg [⟨(some 3), .mov (.tmp 0), none⟩,
 ⟨(some 4), .build [(.val (.string ⟨#[]⟩)), (.val (.int .i64 0))] [(0, 1, (.tmp 3))], none⟩,
 ⟨(some 5), .box 131 2 (.tmp 4), none⟩,
 ⟨(some 2), .mov (.tmp 5), none⟩]) (
 .ret)))
theorem r61 : Runs Tryz.prog 61 m61.strip [.mov (.tmp 2)] 6 := ⟨by kernel_rfl, by kernel_rfl, Tryz.f61, Tryz.f61.body.getD .skip, Tryz.func61, by kernel_rfl, by kernel_rfl, by kernel_rfl, by kernel_rfl, by kernel_rfl⟩

def m63 : MC :=
 .seq (
 .reg [⟨(some 2), .mov (.const (.int .i64 0)), none⟩]) (
 .trim [0] [1000000] [] (
 .seq (
 .seq (
 .reg [⟨(some 3), .mov (.tmp 0), none⟩,
 ⟨(some 4), .binP false (.tmp 3) (.const (.pointer none)), none⟩]) (
 .trim [0, 4] [1000000] [] (
 .cond (.tmp 4) (
 .seq (
 .reg [⟨(some 2), .mov (.const (.int .i64 7)), none⟩]) (
 .ret)) (
 .skip)))) (
 .trim [0] [1000000] [] (
 .seq (
 .reg [⟨(some 5), .mov (.tmp 0), none⟩,
 ⟨(some 6), .nilck (.tmp 5), none⟩,
 ⟨(some 7), .faddr 1 (.tmp 6), none⟩,
 ⟨(some 8), .load none (.tmp 7), none⟩,
 ⟨(some 2), .mov (.tmp 8), none⟩]) (
 .ret)))))
theorem r63 : Runs Tryz.prog 63 m63.strip [.mov (.tmp 2)] 9 := ⟨by kernel_rfl, by kernel_rfl, Tryz.f63, Tryz.f63.body.getD .skip, Tryz.func63, by kernel_rfl, by kernel_rfl, by kernel_rfl, by kernel_rfl, by kernel_rfl⟩

def m64 : MC :=
 .seq (
 .reg [⟨(some 2), .mov (.const (.int .i64 0)), none⟩]) (
 .trim [0] [1000000] [] (
 .seq (
 .seq (
 .reg [⟨(some 3), .mov (.tmp 0), none⟩,
 ⟨(some 4), .binP false (.tmp 3) (.const (.pointer none)), none⟩]) (
 .trim [0, 4] [1000000] [] (
 .cond (.tmp 4) (
 .seq (
 .reg [⟨(some 2), .mov (.const (.int .i64 0)), none⟩]) (
 .ret)) (
 .skip)))) (
 .trim [0] [1000000] [] (
 .seq (
 .reg [⟨(some 5), .mov (.tmp 0), none⟩,
 ⟨(some 6), .nilck (.tmp 5), none⟩,
 ⟨(some 7), .faddr 0 (.tmp 6), none⟩,
 ⟨(some 8), .load none (.tmp 7), none⟩,
 ⟨(some 9), .lenS (.tmp 8), none⟩,
 ⟨(some 2), .mov (.tmp 9), none⟩]) (
 .ret)))))
theorem r64 : Runs Tryz.prog 64 m64.strip [.mov (.tmp 2)] 10 := ⟨by kernel_rfl, by kernel_rfl, Tryz.f64, Tryz.f64.body.getD .skip, Tryz.func64, by kernel_rfl, by kernel_rfl, by kernel_rfl, by kernel_rfl, by kernel_rfl⟩

def m105 : MC :=
 .seq (
 .reg [⟨(some 4), .mov (.const (.int .i64 0)), none⟩]) (
 .trim [0, 1] [1000000] [] (
 .seq (
 .reg [⟨(some 6), .mov (.tmp 0), none⟩,
 ⟨(some 7), .call (.func 141) [(.tmp 6)] (.obj [(1000000, 1000000)] [] [] []), none⟩,
 ⟨(some 5), .mov (.tmp 7), none⟩]) (
 .trim [0, 1, 5] [1000000] [] (
 .seq (
 .seq (
 .reg [⟨(some 8), .mov (.tmp 5), none⟩,
 ⟨(some 9), .mov (.tmp 1), none⟩,
 ⟨(some 10), .conv .u64 (.tmp 9), none⟩,
 ⟨(some 11), .bin .gtr (.tmp 8) (.tmp 10), none⟩]) (
 .trim [0, 5, 11] [1000000] [] (
 .cond (.tmp 11) (
 .seq (
 .reg [⟨(some 12), .mov (.tmp 0), none⟩,
 ⟨(some 13), .call (.func 107) [(.tmp 12), (.const (.int .i64 2))] (.obj [(1000000, 1000000)] [] [] []), none⟩]) (
 .trim [] [1000000] [] (
 .seq (
 .reg [⟨(some 4), .mov (.const (.int .i64 0)), none⟩]) (
 .ret)))) (
 .skip)))) (
 .trim [5] [1000000] [] (
 .seq (
 .reg [⟨(some 14), .mov (.tmp 5), none⟩,
 ⟨(some 15), .conv .i64 (.tmp 14), none⟩,
 ⟨(some 4), .mov (.tmp 15), none⟩]) (
 .ret)))))))
theorem r105 : Runs Tryz.prog 105 m105.strip [.mov (.tmp 4)] 16 := ⟨by kernel_rfl, by kernel_rfl, Tryz.f105, Tryz.f105.body.getD .skip, Tryz.func105, by kernel_rfl, by kernel_rfl, by kernel_rfl, by kernel_rfl, by kernel_rfl⟩

def m107 : MC :=
 .seq (
 .reg [⟨(some 4), .mov (.tmp 0), none⟩,
 ⟨(some 5), .binP true (.tmp 4) (.const (.pointer none)), none⟩,
 ⟨(some 6), .mov (.tmp 5), none⟩,
 ⟨(some 7), .mov (.tmp 0), (some (6, true))⟩,
 ⟨(some 8), .nilck (.tmp 7), (some (6, true))⟩,
 ⟨(some 9), .faddr 1 (.tmp 8), (some (6, true))⟩,
 ⟨(some 10), .load none (.tmp 9), (some (6, true))⟩,
 ⟨(some 11), .bin .eql (.tmp 10) (.const (.int .i64 0)), (some (6, true))⟩,
 ⟨(some 12), .pick (.tmp 6) (.tmp 11) (.const (.bool false)), none⟩,
 ⟨(some 13), .mov (.tmp 12), none⟩,
 ⟨(some 14), .mov (.tmp 1), (some (13, true))⟩,
 ⟨(some 15), .bin .neq (.tmp 14) (.const (.int .i64 0)), (some (13, true))⟩,
 ⟨(some 16), .pick (.tmp 13) (.tmp 15) (.const (.bool false)), none⟩]) (
 .trim [0, 1, 16] [1000000] [] (
 .cond (.tmp 16) (
 .reg [⟨(some 17), .mov (.tmp 0), none⟩,
 ⟨(some 18), .mov (.tmp 0), none⟩,
 ⟨(some 19), .mov (.tmp 1), none⟩,
 ⟨(some 20), .nilck (.tmp 17), none⟩,
 ⟨(some 21), .faddr 0 (.tmp 20), none⟩,
 ⟨none, .store 1 (.tmp 21) (.const (.string ⟨#[]⟩)), none⟩,
 ⟨(some 22), .nilck (.tmp 18), none⟩,
 ⟨(some 23), .faddr 1 (.tmp 22), none⟩,
 ⟨none, .store 1 (.tmp 23) (.tmp 19), none⟩]) (
 .skip)))
theorem r107 : Runs Tryz.prog 107 m107.strip [] 24 := ⟨by kernel_rfl, by kernel_rfl, Tryz.f107, Tryz.f107.body.getD .skip, Tryz.func107, by kernel_rfl, by kernel_rfl, by kernel_rfl, by kernel_rfl, by kernel_rfl⟩

def m113 : MC :=
 .seq (
 .reg [⟨(some 2), .mov (.const (.int .u8 0)), none⟩]) (
 .trim [0] [1000000] [] (
 .seq (
 .seq (
 .reg [⟨(some 4), .mov (.tmp 0), none⟩,
 ⟨(some 5), .call (.func 64) [(.tmp 4)] (.obj [(1000000, 1000000)] [] [] []), none⟩,
 ⟨(some 6), .bin .eql (.tmp 5) (.const (.int .i64 0)), none⟩]) (
 .trim [0, 6] [1000000] [] (
 .cond (.tmp 6) (
 .seq (
 .reg [⟨(some 7), .mov (.tmp 0), none⟩,
 ⟨(some 8), .call (.func 107) [(.tmp 7), (.const (.int .i64 3))] (.obj [(1000000, 1000000)] [] [] []), none⟩]) (
 .trim [] [1000000] [] (
 .seq (
 .reg [⟨(some 2), .mov (.const (.int .u8 0)), none⟩]) (
 .ret)))) (
 .skip)))) (
 .trim [0] [1000000] [] (
 .seq (
 .reg [⟨(some 9), .mov (.tmp 0), none⟩,
 ⟨(some 10), .nilck (.tmp 9), none⟩,
 ⟨(some 11), .faddr 0 (.tmp 10), none⟩,
 ⟨(some 12), .load none (.tmp 11), none⟩,
 ⟨(some 13), .idxS (.tmp 12) (.const (.int .i64 0)), none⟩,
 ⟨(some 3), .mov (.tmp 13), none⟩]) (
 .trim [0, 3] [1000000] [] (
 .seq (
 .reg [⟨(some 14), .mov (.tmp 0), none⟩,
 ⟨(some 15), .mov (.tmp 0), none⟩,
 ⟨(some 16), .nilck (.tmp 15), none⟩,
 ⟨(some 17), .faddr 0 (.tmp 16), none⟩,
 ⟨(some 18), .load none (.tmp 17), none⟩,
 ⟨(some 19), .slcS (.tmp 18) (some (.const (.int .i64 1))) none, none⟩,
 ⟨(some 20), .nilck (.tmp 14), none⟩,
 ⟨(some 21), .faddr 0 (.tmp 20), none⟩,
 ⟨none, .store 1 (.tmp 21) (.tmp 19), none⟩]) (
 .trim [3] [1000000] [] (
 .seq (
 .reg [⟨(some 22), .mov (.tmp 3), none⟩,
 ⟨(some 2), .mov (.tmp 22), none⟩]) (
 .ret)))))))))
theorem r113 : Runs Tryz.prog 113 m113.strip [.mov (.tmp 2)] 23 := ⟨by kernel_rfl, by kernel_rfl, Tryz.f113, Tryz.f113.body.getD .skip, Tryz.func113, by kernel_rfl, by kernel_rfl, by kernel_rfl, by kernel_rfl, by kernel_rfl⟩

def m114 : MC :=
 .seq (
 .reg [⟨(some 2), .mov (.const (.int .i64 0)), none⟩]) (
 .trim [0] [1000000] [] (
 .seq (
 .reg [⟨(some 3), .mov (.tmp 0), none⟩,
 ⟨(some 4), .call (.func 141) [(.tmp 3)] (.obj [(1000000, 1000000)] [] [] []), none⟩,
 ⟨(some 5), .call (.func 144) [(.tmp 4)] .pure, none⟩,
 ⟨(some 2), .mov (.tmp 5), none⟩]) (
 .ret)))
theorem r114 : Runs Tryz.prog 114 m114.strip [.mov (.tmp 2)] 6 := ⟨by kernel_rfl, by kernel_rfl, Tryz.f114, Tryz.f114.body.getD .skip, Tryz.func114, by kernel_rfl, by kernel_rfl, by kernel_rfl, by kernel_rfl, by kernel_rfl⟩

def m115 : MC :=
 .seq (
 .reg [⟨(some 4), .mov (.const (.string ⟨#[]⟩)), none⟩]) (
 .trim [0, 1] [1000000] [] (
 .seq (
 .reg [⟨(some 7), .mov (.tmp 0), none⟩,
 ⟨(some 8), .call (.func 141) [(.tmp 7)] (.obj [(1000000, 1000000)] [] [] []), none⟩,
 ⟨(some 5), .mov (.tmp 8), none⟩]) (
 .trim [0, 1, 5] [1000000] [] (
 .seq (
 .block 0 (
 .seq (
 .reg [⟨(some 10), .mov (.tmp 5), none⟩,
 ⟨(some 11), .mov (.tmp 1), none⟩,
 ⟨(some 12), .minmax true [(.tmp 11), (.const (.int .i64 0))], none⟩,
 ⟨(some 13), .conv .u64 (.tmp 12), none⟩,
 ⟨(some 14), .bin .gtr (.tmp 10) (.tmp 13), none⟩,
 ⟨(some 9), .mov (.tmp 14), none⟩]) (
 .trim [0, 5, 9] [1000000] [] (
 .cond (.tmp 9) (
 .reg [⟨(some 15), .mov (.tmp 0), none⟩,
 ⟨(some 16), .call (.func 107) [(.tmp 15), (.const (.int .i64 9))] (.obj [(1000000, 1000000)] [] [] []), none⟩]) (
 .seq (
 .reg [⟨(some 18), .mov (.tmp 5), none⟩,
 ⟨(some 19), .mov (.tmp 0), none⟩,
 ⟨(some 20), .call (.func 64) [(.tmp 19)] (.obj [(1000000, 1000000)] [] [] []), none⟩,
 ⟨(some 21), .conv .u64 (.tmp 20), none⟩,
 ⟨(some 22), .bin .gtr (.tmp 18) (.tmp 21), none⟩,
 ⟨(some 17), .mov (.tmp 22), none⟩]) (
 .trim [0, 5, 17] [1000000] [] (
 .cond (.tmp 17) (
 .reg [⟨(some 23), .mov (.tmp 0), none⟩,
 ⟨(some 24), .call (.func 107) [(.tmp 23), (.const (.int .i64 3))] (.obj [(1000000, 1000000)] [] [] []), none⟩]) (
 .skip)))))))) (
 .trim [0, 5] [1000000] [] (
 .seq (
 .seq (
 .reg [⟨(some 25), .mov (.tmp 0), none⟩,
 ⟨(some 26), .call (.func 63) [(.tmp 25)] (.obj [(1000000, 1000000)] [] [] []), none⟩,
 ⟨(some 27), .bin .neq (.tmp 26) (.const (.int .i64 0)), none⟩]) (
 .trim [0, 5, 27] [1000000] [] (
 .cond (.tmp 27) (
 .seq (
 .reg [⟨(some 4), .mov (.const (.string ⟨#[]⟩)), none⟩]) (
 .ret)) (
 .skip)))) (
 .trim [0, 5] [1000000] [] (
 .seq (
 .reg [⟨(some 28), .mov (.tmp 0), none⟩,
 ⟨(some 29), .nilck (.tmp 28), none⟩,
 ⟨(some 30), .faddr 0 (.tmp 29), none⟩,
 ⟨(some 31), .load none (.tmp 30), none⟩,
 ⟨(some 32), .mov (.tmp 5), none⟩,
 ⟨(some 33), .slcS (.tmp 31) none (some (.tmp 32)), none⟩,
 ⟨(some 6), .mov (.tmp 33), none⟩]) (
 .trim [0, 5, 6] [1000000] [] (
 .seq (
 .reg [⟨(some 34), .mov (.tmp 0), none⟩,
 ⟨(some 35), .mov (.tmp 0), none⟩,
 ⟨(some 36), .nilck (.tmp 35), none⟩,
 ⟨(some 37), .faddr 0 (.tmp 36), none⟩,
 ⟨(some 38), .load none (.tmp 37), none⟩,
 ⟨(some 39), .mov (.tmp 5), none⟩,
 ⟨(some 40), .slcS (.tmp 38) (some (.tmp 39)) none, none⟩,
 ⟨(some 41), .nilck (.tmp 34), none⟩,
 ⟨(some 42), .faddr 0 (.tmp 41), none⟩,
 ⟨none, .store 1 (.tmp 42) (.tmp 40), none⟩]) (
 .trim [6] [1000000] [] (
 .seq (
 .reg [⟨(some 43), .mov (.tmp 6), none⟩,
 ⟨(some 4), .mov (.tmp 43), none⟩]) (
 .ret)))))))))))))
theorem r115 : Runs Tryz.prog 115 m115.strip [.mov (.tmp 4)] 44 := ⟨by kernel_rfl, by kernel_rfl, Tryz.f115, Tryz.f115.body.getD .skip, Tryz.func115, by kernel_rfl, by kernel_rfl, by kernel_rfl, by kernel_rfl, by kernel_rfl⟩

def m141 : MC :=
 .seq (
 .reg [⟨(some 2), .mov (.const (.int .u64 0)), none⟩]) (
 .trim [0] [1000000] [] (
 .seq (
 .reg [⟨(some 3), .mov (.const (.int .u64 0)), none⟩]) (
 .trim [0, 3] [1000000] [] (
 .seq (
 .seq (
 .reg [⟨(some 4), .mov (.const (.bool true)), none⟩]) (
 .trim [0, 3, 4] [1000000] [] (
 .block 0 (
 .loop (
 .trim [0, 3, 4] [1000000] [] (
 .seq (
 .seq (
 .reg [⟨(some 6), .mov (.tmp 0), none⟩,
 ⟨(some 7), .call (.func 63) [(.tmp 6)] (.obj [(1000000, 1000000)] [] [] []), none⟩,
 ⟨(some 8), .bin .eql (.tmp 7) (.const (.int .i64 0)), none⟩]) (
 .trim [0, 3, 4, 8] [1000000] [] (
 .cond (.tmp 8) (
 .skip) (
 .exit 0)))) (
 .trim [0, 3, 4] [1000000] [] (
 .seq (
 .block 1 (
 .seq (
 .reg [⟨(some 9), .mov (.tmp 0), none⟩,
 ⟨(some 10), .call (.func 113) [(.tmp 9)] (.obj [(1000000, 1000000)] [] [] []), none⟩,
 ⟨(some 5), .mov (.tmp 10), none⟩]) (
 .trim [0, 3, 4, 5] [1000000] [] (
 .block 2 (
 .seq (
 .reg [⟨(some 18), .mov (.tmp 0), none⟩,
 ⟨(some 19), .call (.func 63) [(.tmp 18)] (.obj [(1000000, 1000000)] [] [] []), none⟩,
 ⟨(some 20), .bin .neq (.tmp 19) (.const (.int .i64 0)), none⟩,
 ⟨(some 17), .mov (.tmp 20), none⟩]) (
 .trim [0, 3, 4, 5, 17] [1000000] [] (
 .cond (.tmp 17) (
 .skip) (
 .seq (
 .seq (
 .reg [⟨(some 22), .mov (.tmp 4), none⟩,
 ⟨(some 23), .mov (.tmp 22), none⟩,
 ⟨(some 24), .mov (.tmp 5), (some (23, true))⟩,
 ⟨(some 25), .bin .eql (.tmp 24) (.const (.int .u8 128)), (some (23, true))⟩,
 ⟨(some 26), .pick (.tmp 23) (.tmp 25) (.const (.bool false)), none⟩,
 ⟨(some 21), .mov (.tmp 26), none⟩]) (
 .trim [0, 3, 5, 21] [1000000] [] (
 .cond (.tmp 21) (
 .skip) (
 .reg [⟨(some 27), .mov (.tmp 3), none⟩,
 ⟨(some 28), .bin .gtr (.tmp 27) (.const (.int .u64 144115188075855871)), none⟩,
 ⟨(some 21), .mov (.tmp 28), none⟩])))) (
 .trim [0, 3, 5, 21] [1000000] [] (
 .cond (.tmp 21) (
 .reg [⟨(some 29), .mov (.tmp 0), none⟩,
 ⟨(some 30), .call (.func 107) [(.tmp 29), (.const (.int .i64 2))] (.obj [(1000000, 1000000)] [] [] []), none⟩]) (
 .seq (
 .reg [⟨(some 32), .mov (.tmp 5), none⟩,
 ⟨(some 33), .bin .lss (.tmp 32) (.const (.int .u8 128)), none⟩,
 ⟨(some 31), .mov (.tmp 33), none⟩]) (
 .trim [0, 3, 5, 31] [1000000] [] (
 .cond (.tmp 31) (
 .seq (
 .reg [⟨(some 34), .mov (.tmp 3), none⟩,
 ⟨(some 35), .bin .mul (.tmp 34) (.const (.int .u64 128)), none⟩,
 ⟨(some 36), .mov (.tmp 5), none⟩,
 ⟨(some 37), .conv .u64 (.tmp 36), none⟩,
 ⟨(some 38), .bin .add (.tmp 35) (.tmp 37), none⟩,
 ⟨(some 2), .mov (.tmp 38), none⟩]) (
 .ret)) (
 .reg [⟨(some 11), .mov (.tmp 3), none⟩,
 ⟨(some 12), .bin .mul (.tmp 11) (.const (.int .u64 128)), none⟩,
 ⟨(some 13), .mov (.tmp 5), none⟩,
 ⟨(some 14), .bin .sub (.tmp 13) (.const (.int .u8 128)), none⟩,
 ⟨(some 15), .conv .u64 (.tmp 14), none⟩,
 ⟨(some 16), .bin .add (.tmp 12) (.tmp 15), none⟩,
 ⟨(some 3), .mov (.tmp 16), none⟩])))))))))))))) (
 .trim [0, 3] [1000000] [] (
 .reg [⟨(some 4), .mov (.const (.bool false)), none⟩])))))))))) (
 .trim [] [1000000] [] (
 .seq (
 .reg [⟨(some 2), .mov (.const (.int .u64 0)), none⟩]) (
 .ret)))))))
theorem r141 : Runs Tryz.prog 141 m141.strip [.mov (.tmp 2)] 39 := ⟨by kernel_rfl, by kernel_rfl, Tryz.f141, Tryz.f141.body.getD .skip, Tryz.func141, by kernel_rfl, by kernel_rfl, by kernel_rfl, by kernel_rfl, by kernel_rfl⟩

end Go.Proofs

