/- The functions, as code of the value machine (printed by program). -/
import Derived.Test.YtipppgiimemloaaGreatVm24
import Derived.Test.YtipppgiimemloaaGreatProg
set_option linter.unusedVariables false
set_option maxRecDepth 2000
namespace Go.Proofs
open Go.Vm
def m29 : MC :=
 .seq (
 .reg [⟨(some 2), .nilsl 49 16, none⟩,
 ⟨(some 3), .mov (.const (.int .i64 0)), none⟩]) (
 .trim [0] [] [] (
 .seq (
 .reg [⟨(some 6), .mov (.tmp 0), none⟩,
 ⟨(some 7), .call (.func 61) [(.tmp 6)] (.obj [] [] [(5, 7)] []), none⟩,
 ⟨(some 4), .mov (.tmp 7), none⟩]) (
 .trim [4] [7] [] (
 .seq (
 .reg [⟨(some 8), .mov (.tmp 4), none⟩,
 ⟨(some 9), .call (.func 62) [(.tmp 8)] (.obj [(7, 1000000)] [] [] [((2, 49, 16), (9, 49, 16))]), none⟩,
 ⟨(some 5), .mov (.tmp 9), none⟩]) (
 .trim [4, 5] [7] [(9, 49, 16)] (
 .seq (
 .seq (
 .reg [⟨(some 10), .mov (.tmp 4), none⟩,
 ⟨(some 11), .call (.func 63) [(.tmp 10)] (.obj [(7, 1000000)] [] [] []), none⟩,
 ⟨(some 12), .bin .neq (.tmp 11) (.const (.int .i64 0)), none⟩,
 ⟨(some 13), .mov (.tmp 12), none⟩,
 ⟨(some 14), .mov (.tmp 4), (some (13, false))⟩,
 ⟨(some 15), .call (.func 64) [(.tmp 14)] (.obj [(7, 1000000)] [] [] []), (some (13, false))⟩,
 ⟨(some 16), .bin .gtr (.tmp 15) (.const (.int .i64 0)), (some (13, false))⟩,
 ⟨(some 17), .pick (.tmp 13) (.const (.bool true)) (.tmp 16), none⟩]) (
 .trim [5, 17] [] [(9, 49, 16)] (
 .cond (.tmp 17) (
 .seq (
 .reg [⟨(some 2), .nilsl 49 16, none⟩,
 ⟨(some 3), .mov (.const (.int .i64 2)), none⟩]) (
 .ret)) (
 .skip)))) (
 .trim [5] [] [(9, 49, 16)] (
 .seq (
 .reg [⟨(some 18), .mov (.tmp 5), none⟩,
 ⟨(some 2), .mov (.tmp 18), none⟩,
 ⟨(some 3), .mov (.const (.int .i64 0)), none⟩]) (
 .ret)))))))))
theorem r29 : Runs Tryz.prog 29 m29.strip [.mov (.tmp 2), .mov (.tmp 3)] 19 := ⟨by kernel_rfl, by kernel_rfl, Tryz.f29, Tryz.f29.body.getD .skip, Tryz.func29, by kernel_rfl, by kernel_rfl, by kernel_rfl, by kernel_rfl, by kernel_rfl⟩

def m33 : MC :=
 .seq (
 .reg [⟨(some 2), .alloc 42 [(.val (.int .i64 0)), (.val (.int .i64 0)), (.val (.string ⟨#[]⟩)), (.val (.int .i64 0)), (.val (.int .i64 0)), (.val (.string ⟨#[]⟩)), (.val (.int .i64 0)), (.val (.int .i64 0)), (.val (.string ⟨#[]⟩)), (.val (.int .i64 0)), (.val (.int .i64 0)), (.val (.string ⟨#[]⟩))], none⟩,
 ⟨(some 3), .mov (.const (.int .i64 0)), none⟩]) (
 .trim [0, 2] [2] [] (
 .seq (
 .reg [⟨(some 6), .mov (.tmp 0), none⟩,
 ⟨(some 7), .call (.func 61) [(.tmp 6)] (.obj [] [] [(5, 7)] []), none⟩,
 ⟨(some 4), .mov (.tmp 7), none⟩]) (
 .trim [2, 4] [2, 7] [] (
 .seq (
 .reg [⟨(some 8), .mov (.tmp 4), none⟩,
 ⟨(some 9), .call (.func 72) [(.tmp 8)] (.obj [(7, 1000000)] [] [] []), none⟩,
 ⟨(some 5), .alloc 42 [(.val (.int .i64 0)), (.val (.int .i64 0)), (.val (.string ⟨#[]⟩)), (.val (.int .i64 0)), (.val (.int .i64 0)), (.val (.string ⟨#[]⟩)), (.val (.int .i64 0)), (.val (.int .i64 0)), (.val (.string ⟨#[]⟩)), (.val (.int .i64 0)), (.val (.int .i64 0)), (.val (.string ⟨#[]⟩))], none⟩,
 ⟨none, .store 12 (.tmp 5) (.tmp 9), none⟩]) (
 .trim [2, 4, 5] [2, 5, 7] [] (
 .seq (
 .seq (
 .reg [⟨(some 10), .mov (.tmp 4), none⟩,
 ⟨(some 11), .call (.func 63) [(.tmp 10)] (.obj [(7, 1000000)] [] [] []), none⟩,
 ⟨(some 12), .bin .neq (.tmp 11) (.const (.int .i64 0)), none⟩,
 ⟨(some 13), .mov (.tmp 12), none⟩,
 ⟨(some 14), .mov (.tmp 4), (some (13, false))⟩,
 ⟨(some 15), .call (.func 64) [(.tmp 14)] (.obj [(7, 1000000)] [] [] []), (some (13, false))⟩,
 ⟨(some 16), .bin .gtr (.tmp 15) (.const (.int .i64 0)), (some (13, false))⟩,
 ⟨(some 17), .pick (.tmp 13) (.const (.bool true)) (.tmp 16), none⟩]) (
 .trim [2, 5, 17] [2, 5] [] (
 .cond (.tmp 17) (
 .seq (
 .reg [⟨(some 18), .build [(.val (.int .i64 0)), (.val (.int .i64 0)), (.val (.string ⟨#[]⟩)), (.val (.int .i64 0)), (.val (.int .i64 0)), (.val (.string ⟨#[]⟩)), (.val (.int .i64 0)), (.val (.int .i64 0)), (.val (.string ⟨#[]⟩)), (.val (.int .i64 0)), (.val (.int .i64 0)), (.val (.string ⟨#[]⟩))] [], none⟩,
 ⟨none, .store 12 (.tmp 2) (.tmp 18), none⟩,
 ⟨(some 3), .mov (.const (.int .i64 2)), none⟩]) (
 .ret)) (
 .skip)))) (
 .trim [2, 5] [2, 5] [] (
 .seq (
 .reg [⟨(some 19), .load (some 12) (.tmp 5), none⟩,
 ⟨none, .store 12 (.tmp 2) (.tmp 19), none⟩,
 ⟨(some 3), .mov (.const (.int .i64 0)), none⟩]) (
 .ret)))))))))
theorem r33 : Runs Tryz.prog 33 m33.strip [.load (some 12) (.tmp 2), .mov (.tmp 3)] 20 := ⟨by kernel_rfl, by kernel_rfl, Tryz.f33, Tryz.f33.body.getD .skip, Tryz.func33, by kernel_rfl, by kernel_rfl, by kernel_rfl, by kernel_rfl, by kernel_rfl⟩

def m62 : MC :=
 .seq (
 .reg [⟨(some 2), .nilsl 49 16, none⟩]) (
 .trim [0, 2] [1000000] [(2, 49, 16)] (
 .seq (
 .seq (
 .reg [⟨(some 5), .mov (.tmp 0), none⟩,
 ⟨(some 6), .call (.func 105) [(.tmp 5), (.const (.int .i64 4))] (.obj [(1000000, 1000000)] [] [] []), none⟩,
 ⟨(some 7), .mov (.const (.int .i64 0)), none⟩]) (
 .trim [0, 2, 6, 7] [1000000] [(2, 49, 16)] (
 .block 0 (
 .loop (
 .trim [0, 2, 6, 7] [1000000] [(2, 49, 16)] (
 .seq (
 .reg [⟨(some 8), .bin .lss (.tmp 7) (.tmp 6), none⟩]) (
 .trim [0, 2, 6, 7, 8] [1000000] [(2, 49, 16)] (
 .seq (
 .cond (.tmp 8) (
 .skip) (
 .exit 0)) (
 .trim [0, 2, 6, 7] [1000000] [(2, 49, 16)] (
 .seq (
 .block 1 (
 .seq (
 .reg [⟨(some 3), .alloc 49 [(.val (.bool false)), (.sl none []), (.val (.bool false)), (.sl none []), (.val (.bool false)), (.sl none []), (.val (.bool false)), (.sl none []), (.val (.bool false)), (.sl none []), (.val (.bool false)), (.sl none []), (.val (.bool false)), (.sl none []), (.val (.bool false)), (.sl none [])], none⟩]) (
 .trim [0, 2, 3, 6, 7] [3, 1000000] [(2, 49, 16)] (
 .seq (
 .seq (
 .reg [⟨(some 9), .mov (.const (.int .i64 0)), none⟩]) (
 .trim [0, 2, 3, 6, 7, 9] [3, 1000000] [(2, 49, 16)] (
 .block 2 (
 .loop (
 .trim [0, 2, 3, 6, 7, 9] [3, 1000000] [(2, 49, 16)] (
 .seq (
 .reg [⟨(some 10), .bin .lss (.tmp 9) (.const (.int .i64 4)), none⟩]) (
 .trim [0, 2, 3, 6, 7, 9, 10] [3, 1000000] [(2, 49, 16)] (
 .seq (
 .cond (.tmp 10) (
 .skip) (
 .exit 2)) (
 .trim [0, 2, 3, 6, 7, 9] [3, 1000000] [(2, 49, 16)] (
 .seq (
 .block 3 (
 .seq (
 .reg [⟨(some 11), .mov (.tmp 9), none⟩,
 ⟨(some 4), .mov (.tmp 11), none⟩]) (
 .trim [0, 2, 3, 4, 6, 7, 9] [3, 1000000] [(2, 49, 16)] (
 .reg [⟨(some 12), .mov (.tmp 4), none⟩,
 ⟨(some 13), .mov (.tmp 0), none⟩,
 ⟨(some 14), .call (.func 106) [(.tmp 13)] (.obj [(1000000, 1000000)] [] [] []), none⟩,
 ⟨(some 15), .iaddrA 4 4 (.tmp 3) (.tmp 12), none⟩,
 ⟨none, .store 4 (.tmp 15) (.tmp 14), none⟩])))) (
 .trim [0, 2, 3, 6, 7, 9] [3, 1000000] [(2, 49, 16)] (
 .reg [⟨(some 16), .bin .add (.tmp 9) (.const (.int .i64 1)), none⟩,
 ⟨(some 9), .mov (.tmp 16), none⟩])))))))))))) (
 .trim [0, 2, 3, 6, 7] [3, 1000000] [(2, 49, 16)] (
 .reg [⟨(some 17), .mov (.tmp 2), none⟩,
 ⟨(some 18), .load (some 16) (.tmp 3), none⟩,
 ⟨(some 19), .bslice 49 16 [(.val (.bool false)), (.sl none []), (.val (.bool false)), (.sl none []), (.val (.bool false)), (.sl none []), (.val (.bool false)), (.sl none []), (.val (.bool false)), (.sl none []), (.val (.bool false)), (.sl none []), (.val (.bool false)), (.sl none []), (.val (.bool false)), (.sl none [])] 1 [(0, 16, (.tmp 18))], none⟩,
 ⟨(some 20), .append 49 16 256 (.tmp 17) (.tmp 19), none⟩,
 ⟨(some 2), .mov (.tmp 20), none⟩])))))) (
 .trim [0, 2, 6, 7] [1000000] [(2, 49, 16)] (
 .reg [⟨(some 21), .bin .add (.tmp 7) (.const (.int .i64 1)), none⟩,
 ⟨(some 7), .mov (.tmp 21), none⟩])))))))))))) (
 .trim [0, 2] [1000000] [(2, 49, 16)] (
 .seq (
 .seq (
 .reg [⟨(some 22), .mov (.tmp 0), none⟩,
 ⟨(some 23), .call (.func 63) [(.tmp 22)] (.obj [(1000000, 1000000)] [] [] []), none⟩,
 ⟨(some 24), .bin .eql (.tmp 23) (.const (.int .i64 0)), none⟩,
 ⟨(some 25), .mov (.tmp 24), none⟩,
 ⟨(some 26), .mov (.tmp 2), (some (25, true))⟩,
 ⟨(some 27), .call (.func 45) [(.tmp 26)] .pure, (some (25, true))⟩,
 ⟨(some 28), .un .not (.tmp 27), (some (25, true))⟩,
 ⟨(some 29), .pick (.tmp 25) (.tmp 28) (.const (.bool false)), none⟩]) (
 .trim [0, 2, 29] [1000000] [(2, 49, 16)] (
 .cond (.tmp 29) (
 .reg [⟨(some 30), .mov (.tmp 0), none⟩,
 ⟨(some 31), .call (.func 107) [(.tmp 30), (.const (.int .i64 2))] (.obj [(1000000, 1000000)] [] [] []), none⟩]) (
 .skip)))) (
 .trim [0, 2] [1000000] [(2, 49, 16)] (
 .seq (
 .seq (
 .reg [⟨(some 32), .mov (.tmp 0), none⟩,
 ⟨(some 33), .call (.func 63) [(.tmp 32)] (.obj [(1000000, 1000000)] [] [] []), none⟩,
 ⟨(some 34), .bin .neq (.tmp 33) (.const (.int .i64 0)), none⟩]) (
 .trim [2, 34] [1000000] [(2, 49, 16)] (
 .cond (.tmp 34) (
 .seq (
 .reg [⟨(some 2), .nilsl 49 16, none⟩]) (
 .ret)) (
 .skip)))) (
 .trim [2] [1000000] [(2, 49, 16)] (
 .seq (
 .reg [⟨(some 35), .mov (.tmp 2), none⟩,
 ⟨(some 2), .mov (.tmp 35), none⟩]) (
 .ret)))))))))
theorem r62 : Runs Tryz.prog 62 m62.strip [.mov (.tmp 2)] 36 := ⟨by kernel_rfl, by kernel_rfl, Tryz.f62, Tryz.f62.body.getD .skip, Tryz.func62, by kernel_rfl, by kernel_rfl, by kernel_rfl, by kernel_rfl, by kernel_rfl⟩

def m72 : MC :=
 .seq (
 .reg [⟨(some 2), .alloc 42 [(.val (.int .i64 0)), (.val (.int .i64 0)), (.val (.string ⟨#[]⟩)), (.val (.int .i64 0)), (.val (.int .i64 0)), (.val (.string ⟨#[]⟩)), (.val (.int .i64 0)), (.val (.int .i64 0)), (.val (.string ⟨#[]⟩)), (.val (.int .i64 0)), (.val (.int .i64 0)), (.val (.string ⟨#[]⟩))], none⟩]) (
 .trim [0, 2] [2, 1000000] [] (
 .seq (
 .seq (
 .reg [⟨(some 5), .mov (.const (.int .i64 0)), none⟩]) (
 .trim [0, 2, 5] [2, 1000000] [] (
 .block 0 (
 .loop (
 .trim [0, 2, 5] [2, 1000000] [] (
 .seq (
 .reg [⟨(some 6), .bin .lss (.tmp 5) (.const (.int .i64 4)), none⟩]) (
 .trim [0, 2, 5, 6] [2, 1000000] [] (
 .seq (
 .cond (.tmp 6) (
 .skip) (
 .exit 0)) (
 .trim [0, 2, 5] [2, 1000000] [] (
 .seq (
 .block 1 (
 .seq (
 .reg [⟨(some 7), .mov (.tmp 5), none⟩,
 ⟨(some 3), .mov (.tmp 7), none⟩]) (
 .trim [0, 2, 3, 5] [2, 1000000] [] (
 .seq (
 .reg [⟨(some 8), .mov (.tmp 3), none⟩,
 ⟨(some 9), .iaddrA 4 3 (.tmp 2) (.tmp 8), none⟩,
 ⟨(some 4), .mov (.tmp 9), none⟩]) (
 .trim [0, 2, 4, 5] [2, 1000000] [] (
 .seq (
 .reg [⟨(some 10), .mov (.tmp 4), none⟩,
 ⟨(some 11), .mov (.tmp 0), none⟩,
 ⟨(some 12), .call (.func 113) [(.tmp 11)] (.obj [(1000000, 1000000)] [] [] []), none⟩,
 ⟨(some 13), .conv .i64 (.tmp 12), none⟩,
 ⟨(some 14), .nilck (.tmp 10), none⟩,
 ⟨(some 15), .faddr 0 (.tmp 14), none⟩,
 ⟨none, .store 1 (.tmp 15) (.tmp 13), none⟩]) (
 .trim [0, 2, 4, 5] [2, 1000000] [] (
 .seq (
 .reg [⟨(some 16), .mov (.tmp 4), none⟩,
 ⟨(some 17), .nilck (.tmp 16), none⟩,
 ⟨(some 18), .faddr 0 (.tmp 17), none⟩,
 ⟨(some 19), .load none (.tmp 18), none⟩]) (
 .trim [0, 2, 4, 5, 19] [2, 1000000] [] (
 .block 2 (
 .seq (
 .reg [⟨(some 21), .bin .eql (.tmp 19) (.const (.int .i64 1)), none⟩,
 ⟨(some 20), .mov (.tmp 21), none⟩]) (
 .trim [0, 2, 4, 5, 19, 20] [2, 1000000] [] (
 .cond (.tmp 20) (
 .reg [⟨(some 22), .mov (.tmp 4), none⟩,
 ⟨(some 23), .mov (.tmp 0), none⟩,
 ⟨(some 24), .call (.func 114) [(.tmp 23)] (.obj [(1000000, 1000000)] [] [] []), none⟩,
 ⟨(some 25), .nilck (.tmp 22), none⟩,
 ⟨(some 26), .faddr 1 (.tmp 25), none⟩,
 ⟨none, .store 1 (.tmp 26) (.tmp 24), none⟩]) (
 .seq (
 .reg [⟨(some 28), .bin .eql (.tmp 19) (.const (.int .i64 2)), none⟩,
 ⟨(some 27), .mov (.tmp 28), none⟩]) (
 .trim [0, 2, 4, 5, 27] [2, 1000000] [] (
 .cond (.tmp 27) (
 .reg [⟨(some 29), .mov (.tmp 4), none⟩,
 ⟨(some 30), .mov (.tmp 0), none⟩,
 ⟨(some 31), .call (.func 115) [(.tmp 30), (.const (.int .i64 8))] (.obj [(1000000, 1000000)] [] [] []), none⟩,
 ⟨(some 32), .nilck (.tmp 29), none⟩,
 ⟨(some 33), .faddr 2 (.tmp 32), none⟩,
 ⟨none, .store 1 (.tmp 33) (.tmp 31), none⟩]) (
 .skip))))))))))))))))) (
 .trim [0, 2, 5] [2, 1000000] [] (
 .reg [⟨(some 34), .bin .add (.tmp 5) (.const (.int .i64 1)), none⟩,
 ⟨(some 5), .mov (.tmp 34), none⟩])))))))))))) (
 .trim [0, 2] [2, 1000000] [] (
 .seq (
 .seq (
 .reg [⟨(some 35), .load (some 12) (.tmp 2), none⟩,
 ⟨(some 36), .call (.func 59) [(.tmp 35)] .pure, none⟩,
 ⟨(some 37), .un .not (.tmp 36), none⟩]) (
 .trim [0, 2, 37] [2, 1000000] [] (
 .cond (.tmp 37) (
 .reg [⟨(some 38), .mov (.tmp 0), none⟩,
 ⟨(some 39), .call (.func 107) [(.tmp 38), (.const (.int .i64 2))] (.obj [(1000000, 1000000)] [] [] []), none⟩]) (
 .skip)))) (
 .trim [0, 2] [2, 1000000] [] (
 .seq (
 .seq (
 .reg [⟨(some 40), .mov (.tmp 0), none⟩,
 ⟨(some 41), .call (.func 63) [(.tmp 40)] (.obj [(1000000, 1000000)] [] [] []), none⟩,
 ⟨(some 42), .bin .neq (.tmp 41) (.const (.int .i64 0)), none⟩]) (
 .trim [2, 42] [2, 1000000] [] (
 .cond (.tmp 42) (
 .seq (
 .reg [⟨(some 43), .build [(.val (.int .i64 0)), (.val (.int .i64 0)), (.val (.string ⟨#[]⟩)), (.val (.int .i64 0)), (.val (.int .i64 0)), (.val (.string ⟨#[]⟩)), (.val (.int .i64 0)), (.val (.int .i64 0)), (.val (.string ⟨#[]⟩)), (.val (.int .i64 0)), (.val (.int .i64 0)), (.val (.string ⟨#[]⟩))] [], none⟩,
 ⟨none, .store 12 (.tmp 2) (.tmp 43), none⟩]) (
 .ret)) (
 .skip)))) (
 .trim [2] [2, 1000000] [] (
 .seq (
 .reg [⟨(some 44), .load (some 12) (.tmp 2), none⟩,
 ⟨none, .store 12 (.tmp 2) (.tmp 44), none⟩]) (
 .ret)))))))))
theorem r72 : Runs Tryz.prog 72 m72.strip [.load (some 12) (.tmp 2)] 45 := ⟨by kernel_rfl, by kernel_rfl, Tryz.f72, Tryz.f72.body.getD .skip, Tryz.func72, by kernel_rfl, by kernel_rfl, by kernel_rfl, by kernel_rfl, by kernel_rfl⟩

def m106 : MC :=
 .seq (
 .reg [⟨(some 2), .alloc 25 [(.val (.bool false)), (.val (.slice none 0 0)), (.val (.bool false)), (.val (.slice none 0 0))], none⟩]) (
 .trim [0, 2] [2, 1000000] [] (
 .own 2 [(1, (2, 114, 2)), (3, (2, 9, 1))] (
 .seq (
 .reg [⟨(some 5), .mov (.tmp 0), none⟩,
 ⟨(some 6), .call (.func 113) [(.tmp 5)] (.obj [(1000000, 1000000)] [] [] []), none⟩,
 ⟨(some 3), .mov (.tmp 6), none⟩]) (
 .trim [0, 2, 3] [2, 1000000] [(2, 114, 2), (2, 9, 1)] (
 .seq (
 .seq (
 .reg [⟨(some 7), .mov (.tmp 3), none⟩,
 ⟨(some 8), .bin .gtr (.tmp 7) (.const (.int .u8 3)), none⟩]) (
 .trim [0, 2, 3, 8] [2, 1000000] [(2, 114, 2), (2, 9, 1)] (
 .cond (.tmp 8) (
 .reg [⟨(some 9), .mov (.tmp 0), none⟩,
 ⟨(some 10), .call (.func 107) [(.tmp 9), (.const (.int .i64 2))] (.obj [(1000000, 1000000)] [] [] []), none⟩]) (
 .skip)))) (
 .trim [0, 2, 3] [2, 1000000] [(2, 114, 2), (2, 9, 1)] (
 .seq (
 .reg [⟨(some 11), .mov (.tmp 3), none⟩,
 ⟨(some 12), .bin .and (.tmp 11) (.const (.int .u8 1)), none⟩,
 ⟨(some 13), .bin .neq (.tmp 12) (.const (.int .u8 0)), none⟩,
 ⟨(some 14), .mov (.tmp 3), none⟩,
 ⟨(some 15), .bin .and (.tmp 14) (.const (.int .u8 2)), none⟩,
 ⟨(some 16), .bin .neq (.tmp 15) (.const (.int .u8 0)), none⟩,
 ⟨(some 17), .faddr 0 (.tmp 2), none⟩,
 ⟨none, .store 1 (.tmp 17) (.tmp 13), none⟩,
 ⟨(some 18), .faddr 2 (.tmp 2), none⟩,
 ⟨none, .store 1 (.tmp 18) (.tmp 16), none⟩]) (
 .trim [0, 2] [2, 1000000] [(2, 114, 2), (2, 9, 1)] (
 .seq (
 .seq (
 .reg [⟨(some 19), .mov (.tmp 0), none⟩,
 ⟨(some 20), .call (.func 105) [(.tmp 19), (.const (.int .i64 6))] (.obj [(1000000, 1000000)] [] [] []), none⟩,
 ⟨(some 21), .mov (.const (.int .i64 0)), none⟩]) (
 .trim [0, 2, 20, 21] [2, 1000000] [(2, 114, 2), (2, 9, 1)] (
 .block 0 (
 .loop (
 .trim [0, 2, 20, 21] [2, 1000000] [(2, 114, 2), (2, 9, 1)] (
 .seq (
 .reg [⟨(some 22), .bin .lss (.tmp 21) (.tmp 20), none⟩]) (
 .trim [0, 2, 20, 21, 22] [2, 1000000] [(2, 114, 2), (2, 9, 1)] (
 .seq (
 .cond (.tmp 22) (
 .skip) (
 .exit 0)) (
 .trim [0, 2, 20, 21] [2, 1000000] [(2, 114, 2), (2, 9, 1)] (
 .seq (
 .block 1 (
 .seq (
 .reg [⟨(some 23), .mov (.tmp 0), none⟩,
 ⟨(some 24), .call (.func 114) [(.tmp 23)] (.obj [(1000000, 1000000)] [] [] []), none⟩,
 ⟨(some 4), .mov (.tmp 24), none⟩]) (
 .trim [0, 2, 4, 20, 21] [2, 1000000] [(2, 114, 2), (2, 9, 1)] (
 .dany [(⟨(some 25), .faddr 1 (.tmp 2), none⟩, []),
 (⟨(some 26), .load none (.tmp 25), none⟩, [0]),
 (⟨(some 27), .mov (.tmp 4), none⟩, []),
 (⟨(some 28), .mov (.tmp 0), none⟩, []),
 (⟨(some 29), .call (.func 114) [(.tmp 28)] (.obj [(1000000, 1000000)] [] [] []), none⟩, [3]),
 (⟨(some 30), .build [(.val (.int .i64 0)), (.val (.int .i64 0))] [(0, 1, (.tmp 27)), (1, 1, (.tmp 29))], none⟩, [2, 4]),
 (⟨(some 31), .bslice 114 2 [(.val (.int .i64 0)), (.val (.int .i64 0))] 1 [(0, 2, (.tmp 30))], none⟩, [5]),
 (⟨(some 32), .append 114 2 16 (.tmp 26) (.tmp 31), none⟩, [1, 6, 4]),
 (⟨(some 33), .faddr 1 (.tmp 2), none⟩, [0, 1, 2, 3, 4, 5, 6, 7]),
 (⟨none, .store 1 (.tmp 33) (.tmp 32), none⟩, [8, 7, 7, 0, 1, 2, 3, 4, 5, 6, 7])])))) (
 .trim [0, 2, 20, 21] [2, 1000000] [(2, 114, 2), (2, 9, 1)] (
 .reg [⟨(some 34), .bin .add (.tmp 21) (.const (.int .i64 1)), none⟩,
 ⟨(some 21), .mov (.tmp 34), none⟩])))))))))))) (
 .trim [0, 2] [2, 1000000] [(2, 114, 2), (2, 9, 1)] (
 .seq (
 .seq (
 .reg [⟨(some 35), .mov (.tmp 0), none⟩,
 ⟨(some 36), .call (.func 105) [(.tmp 35), (.const (.int .i64 6))] (.obj [(1000000, 1000000)] [] [] []), none⟩,
 ⟨(some 37), .mov (.const (.int .i64 0)), none⟩]) (
 .trim [0, 2, 36, 37] [2, 1000000] [(2, 114, 2), (2, 9, 1)] (
 .block 2 (
 .loop (
 .trim [0, 2, 36, 37] [2, 1000000] [(2, 114, 2), (2, 9, 1)] (
 .seq (
 .reg [⟨(some 38), .bin .lss (.tmp 37) (.tmp 36), none⟩]) (
 .trim [0, 2, 36, 37, 38] [2, 1000000] [(2, 114, 2), (2, 9, 1)] (
 .seq (
 .cond (.tmp 38) (
 .skip) (
 .exit 2)) (
 .trim [0, 2, 36, 37] [2, 1000000] [(2, 114, 2), (2, 9, 1)] (
 .seq (
 .block 3 (
 .dany [(⟨(some 39), .faddr 3 (.tmp 2), none⟩, []),
 (⟨(some 40), .load none (.tmp 39), none⟩, [0]),
 (⟨(some 41), .mov (.tmp 0), none⟩, []),
 (⟨(some 42), .call (.func 115) [(.tmp 41), (.const (.int .i64 8))] (.obj [(1000000, 1000000)] [] [] []), none⟩, [2]),
 (⟨(some 43), .bslice 9 1 [(.val (.string ⟨#[]⟩))] 1 [(0, 1, (.tmp 42))], none⟩, [3]),
 (⟨(some 44), .append 9 1 16 (.tmp 40) (.tmp 43), none⟩, [1, 4, 3]),
 (⟨(some 45), .faddr 3 (.tmp 2), none⟩, [0, 1, 2, 3, 4, 5]),
 (⟨none, .store 1 (.tmp 45) (.tmp 44), none⟩, [6, 5, 5, 0, 1, 2, 3, 4, 5])])) (
 .trim [0, 2, 36, 37] [2, 1000000] [(2, 114, 2), (2, 9, 1)] (
 .reg [⟨(some 46), .bin .add (.tmp 37) (.const (.int .i64 1)), none⟩,
 ⟨(some 37), .mov (.tmp 46), none⟩])))))))))))) (
 .trim [2] [2, 1000000] [(2, 114, 2), (2, 9, 1)] (
 .seq (
 .reg [⟨(some 47), .load (some 4) (.tmp 2), none⟩,
 ⟨none, .store 4 (.tmp 2) (.tmp 47), none⟩]) (
 .fzb 2 (
 .ret)))))))))))))))
theorem r106 : Runs Tryz.prog 106 m106.strip [.load (some 4) (.tmp 2)] 48 := ⟨by kernel_rfl, by kernel_rfl, Tryz.f106, Tryz.f106.body.getD .skip, Tryz.func106, by kernel_rfl, by kernel_rfl, by kernel_rfl, by kernel_rfl, by kernel_rfl⟩

end Go.Proofs

