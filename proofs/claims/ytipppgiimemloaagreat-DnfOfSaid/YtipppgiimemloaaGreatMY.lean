/- The functions, as code of the value machine (printed by program). -/
import Derived.Test.YtipppgiimemloaaGreatVh6
import Derived.Test.YtipppgiimemloaaGreatProg
set_option linter.unusedVariables false
set_option maxRecDepth 2000
namespace Go.Proofs
open Go.Vm
def m12 : MC :=
 .seq (
 .reg [⟨(some 0), .mov (.const (.bool false)), none⟩]) (
 .trim [] [] [] (
 .seq (
 .reg [⟨(some 10), .call (.func 21) [(.const (.slice none 0 0))] .pure, none⟩,
 ⟨(some 11), .call (.func 14) [(.tmp 10)] .pure, none⟩,
 ⟨(some 9), .mov (.tmp 11), none⟩,
 ⟨(some 12), .ext (.tmp 9) 0, none⟩,
 ⟨(some 13), .ext (.tmp 9) 1, none⟩,
 ⟨(some 1), .mov (.tmp 12), none⟩,
 ⟨(some 2), .mov (.tmp 13), none⟩]) (
 .trim [1, 2] [] [] (
 .seq (
 .reg [⟨(some 15), .call (.func 20) [(.const (.slice none 0 0))] .pure, none⟩,
 ⟨(some 16), .call (.func 14) [(.tmp 15)] .pure, none⟩,
 ⟨(some 14), .mov (.tmp 16), none⟩,
 ⟨(some 17), .ext (.tmp 14) 0, none⟩,
 ⟨(some 18), .ext (.tmp 14) 1, none⟩,
 ⟨(some 3), .mov (.tmp 17), none⟩,
 ⟨(some 4), .mov (.tmp 18), none⟩]) (
 .trim [1, 2, 3, 4] [] [] (
 .seq (
 .reg [⟨(some 20), .call (.func 39) [(.const (.int .i64 0))] .pure, none⟩,
 ⟨(some 21), .call (.func 39) [(.const (.int .i64 1))] .pure, none⟩,
 ⟨(some 22), .bslice 28 7 [(.val (.int .i64 0)), (.val (.int .i64 0)), (.val (.bool false)), (.sl none []), (.val (.bool false)), (.sl none []), (.sl none [])] 2 [(0, 7, (.tmp 20)), (7, 7, (.tmp 21))], none⟩,
 ⟨(some 23), .call (.func 21) [(.tmp 22)] .pure, none⟩,
 ⟨(some 24), .call (.func 25) [(.tmp 23)] .pure, none⟩,
 ⟨(some 25), .call (.func 14) [(.tmp 24)] .pure, none⟩,
 ⟨(some 19), .mov (.tmp 25), none⟩,
 ⟨(some 26), .ext (.tmp 19) 0, none⟩,
 ⟨(some 27), .ext (.tmp 19) 1, none⟩,
 ⟨(some 5), .mov (.tmp 26), none⟩,
 ⟨(some 6), .mov (.tmp 27), none⟩]) (
 .trim [1, 2, 3, 4, 5, 6] [] [] (
 .seq (
 .reg [⟨(some 29), .build [(.val (.int .i64 0)), (.val (.int .i64 0)), (.val (.bool false)), (.sl none []), (.val (.bool false)), (.sl none []), (.sl none [])] [], none⟩,
 ⟨(some 30), .call (.func 14) [(.tmp 29)] .pure, none⟩,
 ⟨(some 28), .mov (.tmp 30), none⟩,
 ⟨(some 31), .ext (.tmp 28) 0, none⟩,
 ⟨(some 32), .ext (.tmp 28) 1, none⟩,
 ⟨(some 7), .mov (.tmp 31), none⟩,
 ⟨(some 8), .mov (.tmp 32), none⟩]) (
 .trim [1, 2, 3, 4, 5, 6, 8] [] [] (
 .seq (
 .reg [⟨(some 33), .mov (.tmp 1), none⟩,
 ⟨(some 34), .lenL (.tmp 33), none⟩,
 ⟨(some 35), .bin .eql (.tmp 34) (.const (.int .i64 1)), none⟩,
 ⟨(some 36), .mov (.tmp 35), none⟩,
 ⟨(some 37), .mov (.tmp 2), (some (36, true))⟩,
 ⟨(some 38), .bin .eql (.tmp 37) (.const (.int .i64 0)), (some (36, true))⟩,
 ⟨(some 39), .pick (.tmp 36) (.tmp 38) (.const (.bool false)), none⟩,
 ⟨(some 40), .mov (.tmp 39), none⟩,
 ⟨(some 41), .mov (.tmp 3), (some (40, true))⟩,
 ⟨(some 42), .lenL (.tmp 41), (some (40, true))⟩,
 ⟨(some 43), .bin .eql (.tmp 42) (.const (.int .i64 0)), (some (40, true))⟩,
 ⟨(some 44), .pick (.tmp 40) (.tmp 43) (.const (.bool false)), none⟩,
 ⟨(some 45), .mov (.tmp 44), none⟩,
 ⟨(some 46), .mov (.tmp 4), (some (45, true))⟩,
 ⟨(some 47), .bin .eql (.tmp 46) (.const (.int .i64 0)), (some (45, true))⟩,
 ⟨(some 48), .pick (.tmp 45) (.tmp 47) (.const (.bool false)), none⟩,
 ⟨(some 49), .mov (.tmp 48), none⟩,
 ⟨(some 50), .mov (.tmp 5), (some (49, true))⟩,
 ⟨(some 51), .lenL (.tmp 50), (some (49, true))⟩,
 ⟨(some 52), .bin .eql (.tmp 51) (.const (.int .i64 2)), (some (49, true))⟩,
 ⟨(some 53), .pick (.tmp 49) (.tmp 52) (.const (.bool false)), none⟩,
 ⟨(some 54), .mov (.tmp 53), none⟩,
 ⟨(some 55), .mov (.tmp 6), (some (54, true))⟩,
 ⟨(some 56), .bin .eql (.tmp 55) (.const (.int .i64 0)), (some (54, true))⟩,
 ⟨(some 57), .pick (.tmp 54) (.tmp 56) (.const (.bool false)), none⟩,
 ⟨(some 58), .mov (.tmp 57), none⟩,
 ⟨(some 59), .mov (.tmp 8), (some (58, true))⟩,
 ⟨(some 60), .bin .eql (.tmp 59) (.const (.int .i64 2)), (some (58, true))⟩,
 ⟨(some 61), .pick (.tmp 58) (.tmp 60) (.const (.bool false)), none⟩,
 ⟨(some 62), .mov (.tmp 61), none⟩,
 ⟨(some 63), .mov (.tmp 5), (some (62, true))⟩,
 ⟨(some 64), .build [(.val (.int .i64 0)), (.val (.int .i64 0)), (.val (.string ⟨#[]⟩)), (.val (.int .i64 0)), (.val (.int .i64 0)), (.val (.string ⟨#[]⟩)), (.val (.int .i64 0)), (.val (.int .i64 0)), (.val (.string ⟨#[]⟩)), (.val (.int .i64 0)), (.val (.int .i64 0)), (.val (.string ⟨#[]⟩))] [], (some (62, true))⟩,
 ⟨(some 65), .call (.func 17) [(.tmp 63), (.tmp 64)] .pure, (some (62, true))⟩,
 ⟨(some 66), .pick (.tmp 62) (.tmp 65) (.const (.bool false)), none⟩,
 ⟨(some 67), .mov (.tmp 66), none⟩,
 ⟨(some 68), .mov (.tmp 1), (some (67, true))⟩,
 ⟨(some 69), .build [(.val (.int .i64 0)), (.val (.int .i64 0)), (.val (.string ⟨#[]⟩)), (.val (.int .i64 0)), (.val (.int .i64 0)), (.val (.string ⟨#[]⟩)), (.val (.int .i64 0)), (.val (.int .i64 0)), (.val (.string ⟨#[]⟩)), (.val (.int .i64 0)), (.val (.int .i64 0)), (.val (.string ⟨#[]⟩))] [], (some (67, true))⟩,
 ⟨(some 70), .call (.func 17) [(.tmp 68), (.tmp 69)] .pure, (some (67, true))⟩,
 ⟨(some 71), .pick (.tmp 67) (.tmp 70) (.const (.bool false)), none⟩,
 ⟨(some 72), .mov (.tmp 71), none⟩,
 ⟨(some 73), .mov (.tmp 5), (some (72, true))⟩,
 ⟨(some 74), .build [(.val (.int .i64 0)), (.val (.int .i64 0)), (.val (.string ⟨#[]⟩))] [(0, 1, (.const (.int .i64 1))), (1, 1, (.const (.int .i64 5)))], (some (72, true))⟩,
 ⟨(some 75), .build [(.val (.int .i64 0)), (.val (.int .i64 0)), (.val (.string ⟨#[]⟩))] [(0, 1, (.const (.int .i64 1))), (1, 1, (.const (.int .i64 5)))], (some (72, true))⟩,
 ⟨(some 76), .build [(.val (.int .i64 0)), (.val (.int .i64 0)), (.val (.string ⟨#[]⟩)), (.val (.int .i64 0)), (.val (.int .i64 0)), (.val (.string ⟨#[]⟩)), (.val (.int .i64 0)), (.val (.int .i64 0)), (.val (.string ⟨#[]⟩)), (.val (.int .i64 0)), (.val (.int .i64 0)), (.val (.string ⟨#[]⟩))] [(0, 3, (.tmp 74)), (3, 3, (.tmp 75))], (some (72, true))⟩,
 ⟨(some 77), .call (.func 17) [(.tmp 73), (.tmp 76)] .pure, (some (72, true))⟩,
 ⟨(some 78), .un .not (.tmp 77), (some (72, true))⟩,
 ⟨(some 79), .pick (.tmp 72) (.tmp 78) (.const (.bool false)), none⟩,
 ⟨(some 0), .mov (.tmp 79), none⟩]) (
 .ret)))))))))))
theorem r12 : Runs Tryz.prog 12 m12.strip [.mov (.tmp 0)] 80 := ⟨by kernel_rfl, by kernel_rfl, Tryz.f12, Tryz.f12.body.getD .skip, Tryz.func12, by kernel_rfl, by kernel_rfl, by kernel_rfl, by kernel_rfl, by kernel_rfl⟩

def m13 : MC :=
 .seq (
 .reg [⟨(some 1), .box 28 7 (.tmp 0), none⟩,
 ⟨(some 2), .mov (.const (.bool false)), none⟩]) (
 .trim [1] [1] [] (
 .seq (
 .seq (
 .reg [⟨(some 3), .load (some 7) (.tmp 1), none⟩,
 ⟨(some 4), .call (.func 40) [(.tmp 3), (.const (.int .i64 0))] .pure, none⟩,
 ⟨(some 5), .bin .geq (.tmp 4) (.const (.int .i64 100)), none⟩,
 ⟨(some 6), .mov (.tmp 5), none⟩,
 ⟨(some 7), .load (some 7) (.tmp 1), (some (6, false))⟩,
 ⟨(some 8), .call (.func 41) [(.tmp 7), (.const (.int .i64 0))] .pure, (some (6, false))⟩,
 ⟨(some 9), .bin .geq (.tmp 8) (.const (.int .i64 20)), (some (6, false))⟩,
 ⟨(some 10), .pick (.tmp 6) (.const (.bool true)) (.tmp 9), none⟩]) (
 .trim [1, 10] [1] [] (
 .cond (.tmp 10) (
 .seq (
 .reg [⟨(some 2), .mov (.const (.bool false)), none⟩]) (
 .ret)) (
 .skip)))) (
 .trim [1] [1] [] (
 .seq (
 .reg [⟨(some 11), .load (some 7) (.tmp 1), none⟩,
 ⟨(some 12), .call (.func 42) [(.tmp 11)] .pure, none⟩,
 ⟨(some 2), .mov (.tmp 12), none⟩]) (
 .ret)))))
theorem r13 : Runs Tryz.prog 13 m13.strip [.mov (.tmp 2)] 13 := ⟨by kernel_rfl, by kernel_rfl, Tryz.f13, Tryz.f13.body.getD .skip, Tryz.func13, by kernel_rfl, by kernel_rfl, by kernel_rfl, by kernel_rfl, by kernel_rfl⟩

def m14 : MC :=
 .seq (
 .reg [⟨(some 1), .box 28 7 (.tmp 0), none⟩,
 ⟨(some 2), .nilsl 49 16, none⟩,
 ⟨(some 3), .mov (.const (.int .i64 0)), none⟩]) (
 .trim [1] [1] [] (
 .fzb 1 (
 .seq (
 .seq (
 .reg [⟨(some 6), .load (some 7) (.tmp 1), none⟩,
 ⟨(some 7), .call (.func 43) [(.tmp 6)] .pure, none⟩,
 ⟨(some 8), .un .not (.tmp 7), none⟩]) (
 .trim [1, 8] [1] [] (
 .cond (.tmp 8) (
 .seq (
 .reg [⟨(some 2), .nilsl 49 16, none⟩,
 ⟨(some 3), .mov (.const (.int .i64 2)), none⟩]) (
 .ret)) (
 .skip)))) (
 .trim [1] [1] [] (
 .seq (
 .reg [⟨(some 10), .call (.func 44) [(.tmp 1), (.const (.bool false))] .pure, none⟩,
 ⟨(some 9), .mov (.tmp 10), none⟩,
 ⟨(some 11), .ext (.tmp 9) 0, none⟩,
 ⟨(some 12), .ext (.tmp 9) 1, none⟩,
 ⟨(some 4), .mov (.tmp 11), none⟩,
 ⟨(some 5), .mov (.tmp 12), none⟩]) (
 .trim [4, 5] [] [] (
 .seq (
 .seq (
 .reg [⟨(some 13), .mov (.tmp 5), none⟩,
 ⟨(some 14), .bin .neq (.tmp 13) (.const (.int .i64 0)), none⟩,
 ⟨(some 15), .mov (.tmp 14), none⟩,
 ⟨(some 16), .mov (.tmp 4), (some (15, false))⟩,
 ⟨(some 17), .call (.func 45) [(.tmp 16)] .pure, (some (15, false))⟩,
 ⟨(some 18), .un .not (.tmp 17), (some (15, false))⟩,
 ⟨(some 19), .pick (.tmp 15) (.const (.bool true)) (.tmp 18), none⟩]) (
 .trim [4, 19] [] [] (
 .cond (.tmp 19) (
 .seq (
 .reg [⟨(some 2), .nilsl 49 16, none⟩,
 ⟨(some 3), .mov (.const (.int .i64 4)), none⟩]) (
 .ret)) (
 .skip)))) (
 .trim [4] [] [] (
 .seq (
 .reg [⟨(some 20), .mov (.tmp 4), none⟩,
 ⟨(some 2), .mov (.tmp 20), none⟩,
 ⟨(some 3), .mov (.const (.int .i64 0)), none⟩]) (
 .ret))))))))))
theorem r14 : Runs Tryz.prog 14 m14.strip [.mov (.tmp 2), .mov (.tmp 3)] 21 := ⟨by kernel_rfl, by kernel_rfl, Tryz.f14, Tryz.f14.body.getD .skip, Tryz.func14, by kernel_rfl, by kernel_rfl, by kernel_rfl, by kernel_rfl, by kernel_rfl⟩

def m20 : MC :=
 .seq (
 .reg [⟨(some 2), .alloc 28 [(.val (.int .i64 0)), (.val (.int .i64 0)), (.val (.bool false)), (.sl none []), (.val (.bool false)), (.sl none []), (.sl none [])], none⟩]) (
 .trim [0, 2] [2] [] (
 .seq (
 .reg [⟨(some 3), .mov (.tmp 0), none⟩,
 ⟨(some 4), .call (.func 56) [(.tmp 3)] .pure, none⟩,
 ⟨(some 5), .build [(.val (.int .i64 0)), (.val (.int .i64 0)), (.val (.bool false)), (.sl none []), (.val (.bool false)), (.sl none []), (.sl none [])] [(0, 1, (.const (.int .i64 3))), (6, 1, (.tmp 4))], none⟩,
 ⟨none, .store 7 (.tmp 2) (.tmp 5), none⟩]) (
 .ret)))
theorem r20 : Runs Tryz.prog 20 m20.strip [.load (some 7) (.tmp 2)] 6 := ⟨by kernel_rfl, by kernel_rfl, Tryz.f20, Tryz.f20.body.getD .skip, Tryz.func20, by kernel_rfl, by kernel_rfl, by kernel_rfl, by kernel_rfl, by kernel_rfl⟩

def m21 : MC :=
 .seq (
 .reg [⟨(some 2), .alloc 28 [(.val (.int .i64 0)), (.val (.int .i64 0)), (.val (.bool false)), (.sl none []), (.val (.bool false)), (.sl none []), (.sl none [])], none⟩]) (
 .trim [0, 2] [2] [] (
 .seq (
 .reg [⟨(some 3), .mov (.tmp 0), none⟩,
 ⟨(some 4), .call (.func 56) [(.tmp 3)] .pure, none⟩,
 ⟨(some 5), .build [(.val (.int .i64 0)), (.val (.int .i64 0)), (.val (.bool false)), (.sl none []), (.val (.bool false)), (.sl none []), (.sl none [])] [(0, 1, (.const (.int .i64 2))), (6, 1, (.tmp 4))], none⟩,
 ⟨none, .store 7 (.tmp 2) (.tmp 5), none⟩]) (
 .ret)))
theorem r21 : Runs Tryz.prog 21 m21.strip [.load (some 7) (.tmp 2)] 6 := ⟨by kernel_rfl, by kernel_rfl, Tryz.f21, Tryz.f21.body.getD .skip, Tryz.func21, by kernel_rfl, by kernel_rfl, by kernel_rfl, by kernel_rfl, by kernel_rfl⟩

def m23 : MC :=
 .seq (
 .reg [⟨(some 3), .box 25 4 (.tmp 1), none⟩,
 ⟨(some 4), .alloc 28 [(.val (.int .i64 0)), (.val (.int .i64 0)), (.val (.bool false)), (.sl none []), (.val (.bool false)), (.sl none []), (.sl none [])], none⟩]) (
 .trim [0, 3, 4] [3, 4] [] (
 .seq (
 .reg [⟨(some 5), .mov (.tmp 0), none⟩,
 ⟨(some 6), .load (some 4) (.tmp 3), none⟩,
 ⟨(some 7), .build [(.val (.int .i64 0)), (.val (.int .i64 0)), (.val (.bool false)), (.sl none []), (.val (.bool false)), (.sl none []), (.sl none [])] [(0, 1, (.const (.int .i64 1))), (1, 1, (.tmp 5)), (2, 4, (.tmp 6))], none⟩,
 ⟨none, .store 7 (.tmp 4) (.tmp 7), none⟩]) (
 .ret)))
theorem r23 : Runs Tryz.prog 23 m23.strip [.load (some 7) (.tmp 4)] 8 := ⟨by kernel_rfl, by kernel_rfl, Tryz.f23, Tryz.f23.body.getD .skip, Tryz.func23, by kernel_rfl, by kernel_rfl, by kernel_rfl, by kernel_rfl, by kernel_rfl⟩

def m25 : MC :=
 .seq (
 .reg [⟨(some 1), .box 28 7 (.tmp 0), none⟩,
 ⟨(some 2), .alloc 28 [(.val (.int .i64 0)), (.val (.int .i64 0)), (.val (.bool false)), (.sl none []), (.val (.bool false)), (.sl none []), (.sl none [])], none⟩]) (
 .trim [1, 2] [1, 2] [(4, 28, 7)] (
 .seq (
 .reg [⟨(some 3), .load (some 7) (.tmp 1), none⟩,
 ⟨(some 4), .bslice 28 7 [(.val (.int .i64 0)), (.val (.int .i64 0)), (.val (.bool false)), (.sl none []), (.val (.bool false)), (.sl none []), (.sl none [])] 1 [(0, 7, (.tmp 3))], none⟩,
 ⟨(some 5), .build [(.val (.int .i64 0)), (.val (.int .i64 0)), (.val (.bool false)), (.sl none []), (.val (.bool false)), (.sl none []), (.sl none [])] [(0, 1, (.const (.int .i64 4))), (6, 1, (.tmp 4))], none⟩,
 ⟨none, .store 7 (.tmp 2) (.tmp 5), none⟩]) (
 .ret)))
theorem r25 : Runs Tryz.prog 25 m25.strip [.load (some 7) (.tmp 2)] 6 := ⟨by kernel_rfl, by kernel_rfl, Tryz.f25, Tryz.f25.body.getD .skip, Tryz.func25, by kernel_rfl, by kernel_rfl, by kernel_rfl, by kernel_rfl, by kernel_rfl⟩

def m39 : MC :=
 .seq (
 .reg [⟨(some 2), .alloc 28 [(.val (.int .i64 0)), (.val (.int .i64 0)), (.val (.bool false)), (.sl none []), (.val (.bool false)), (.sl none []), (.sl none [])], none⟩]) (
 .trim [0, 2] [2] [] (
 .seq (
 .reg [⟨(some 3), .mov (.tmp 0), none⟩,
 ⟨(some 4), .build [(.val (.int .i64 0)), (.val (.int .i64 0))] [(0, 1, (.const (.int .i64 5))), (1, 1, (.const (.int .i64 5)))], none⟩,
 ⟨(some 5), .bslice 114 2 [(.val (.int .i64 0)), (.val (.int .i64 0))] 1 [(0, 2, (.tmp 4))], none⟩,
 ⟨(some 6), .build [(.val (.bool false)), (.sl none []), (.val (.bool false)), (.sl none [])] [(1, 1, (.tmp 5))], none⟩,
 ⟨(some 7), .call (.func 23) [(.tmp 3), (.tmp 6)] .pure, none⟩,
 ⟨none, .store 7 (.tmp 2) (.tmp 7), none⟩]) (
 .ret)))
theorem r39 : Runs Tryz.prog 39 m39.strip [.load (some 7) (.tmp 2)] 8 := ⟨by kernel_rfl, by kernel_rfl, Tryz.f39, Tryz.f39.body.getD .skip, Tryz.func39, by kernel_rfl, by kernel_rfl, by kernel_rfl, by kernel_rfl, by kernel_rfl⟩

def m40 : MC :=
 .seq (
 .reg [⟨(some 2), .box 28 7 (.tmp 0), none⟩,
 ⟨(some 4), .mov (.const (.int .i64 0)), none⟩]) (
 .trim [1, 2] [2] [] (
 .seq (
 .reg [⟨(some 5), .mov (.const (.int .i64 1)), none⟩]) (
 .trim [1, 2, 5] [2] [] (
 .seq (
 .seq (
 .reg [⟨(some 7), .mov (.tmp 1), none⟩,
 ⟨(some 8), .bin .gtr (.tmp 7) (.const (.int .i64 20)), none⟩]) (
 .trim [1, 2, 5, 8] [2] [] (
 .cond (.tmp 8) (
 .seq (
 .reg [⟨(some 4), .mov (.const (.int .i64 100)), none⟩]) (
 .ret)) (
 .skip)))) (
 .trim [1, 2, 5] [2] [] (
 .seq (
 .seq (
 .reg [⟨(some 6), .mov (.const (.int .i64 0)), none⟩]) (
 .trim [1, 2, 5, 6] [2] [] (
 .block 0 (
 .loop (
 .trim [1, 2, 5, 6] [2] [] (
 .seq (
 .seq (
 .reg [⟨(some 9), .mov (.tmp 6), none⟩,
 ⟨(some 10), .faddr 6 (.tmp 2), none⟩,
 ⟨(some 11), .load none (.tmp 10), none⟩,
 ⟨(some 12), .lenL (.tmp 11), none⟩,
 ⟨(some 13), .bin .lss (.tmp 9) (.tmp 12), none⟩,
 ⟨(some 14), .mov (.tmp 13), none⟩,
 ⟨(some 15), .mov (.tmp 5), (some (14, true))⟩,
 ⟨(some 16), .bin .lss (.tmp 15) (.const (.int .i64 100)), (some (14, true))⟩,
 ⟨(some 17), .pick (.tmp 14) (.tmp 16) (.const (.bool false)), none⟩]) (
 .trim [1, 2, 5, 6, 17] [2] [] (
 .cond (.tmp 17) (
 .skip) (
 .exit 0)))) (
 .trim [1, 2, 5, 6] [2] [] (
 .seq (
 .block 1 (
 .reg [⟨(some 20), .mov (.tmp 5), none⟩,
 ⟨(some 21), .faddr 6 (.tmp 2), none⟩,
 ⟨(some 22), .load none (.tmp 21), none⟩,
 ⟨(some 23), .mov (.tmp 6), none⟩,
 ⟨(some 24), .iaddrS 7 (.tmp 22) (.tmp 23), none⟩,
 ⟨(some 25), .load (some 7) (.tmp 24), none⟩,
 ⟨(some 26), .mov (.tmp 1), none⟩,
 ⟨(some 27), .bin .add (.tmp 26) (.const (.int .i64 1)), none⟩,
 ⟨(some 28), .call (.func 40) [(.tmp 25), (.tmp 27)] .pure, none⟩,
 ⟨(some 29), .bin .add (.tmp 20) (.tmp 28), none⟩,
 ⟨(some 5), .mov (.tmp 29), none⟩])) (
 .trim [1, 2, 5, 6] [2] [] (
 .reg [⟨(some 18), .mov (.tmp 6), none⟩,
 ⟨(some 19), .bin .add (.tmp 18) (.const (.int .i64 1)), none⟩,
 ⟨(some 6), .mov (.tmp 19), none⟩])))))))))) (
 .trim [5] [] [] (
 .seq (
 .reg [⟨(some 30), .mov (.tmp 5), none⟩,
 ⟨(some 31), .minmax false [(.tmp 30), (.const (.int .i64 100))], none⟩,
 ⟨(some 4), .mov (.tmp 31), none⟩]) (
 .ret)))))))))
theorem r40 : Runs Tryz.prog 40 m40.strip [.mov (.tmp 4)] 32 := ⟨by kernel_rfl, by kernel_rfl, Tryz.f40, Tryz.f40.body.getD .skip, Tryz.func40, by kernel_rfl, by kernel_rfl, by kernel_rfl, by kernel_rfl, by kernel_rfl⟩

def m41 : MC :=
 .seq (
 .reg [⟨(some 2), .box 28 7 (.tmp 0), none⟩,
 ⟨(some 4), .mov (.const (.int .i64 0)), none⟩]) (
 .trim [1, 2] [2] [] (
 .seq (
 .reg [⟨(some 5), .mov (.const (.int .i64 0)), none⟩]) (
 .trim [1, 2, 5] [2] [] (
 .seq (
 .seq (
 .reg [⟨(some 7), .mov (.tmp 1), none⟩,
 ⟨(some 8), .bin .gtr (.tmp 7) (.const (.int .i64 20)), none⟩]) (
 .trim [1, 2, 5, 8] [2] [] (
 .cond (.tmp 8) (
 .seq (
 .reg [⟨(some 4), .mov (.const (.int .i64 20)), none⟩]) (
 .ret)) (
 .skip)))) (
 .trim [1, 2, 5] [2] [] (
 .seq (
 .seq (
 .reg [⟨(some 6), .mov (.const (.int .i64 0)), none⟩]) (
 .trim [1, 2, 5, 6] [2] [] (
 .block 0 (
 .loop (
 .trim [1, 2, 5, 6] [2] [] (
 .seq (
 .seq (
 .reg [⟨(some 9), .mov (.tmp 6), none⟩,
 ⟨(some 10), .faddr 6 (.tmp 2), none⟩,
 ⟨(some 11), .load none (.tmp 10), none⟩,
 ⟨(some 12), .lenL (.tmp 11), none⟩,
 ⟨(some 13), .bin .lss (.tmp 9) (.tmp 12), none⟩,
 ⟨(some 14), .mov (.tmp 13), none⟩,
 ⟨(some 15), .mov (.tmp 6), (some (14, true))⟩,
 ⟨(some 16), .bin .lss (.tmp 15) (.const (.int .i64 100)), (some (14, true))⟩,
 ⟨(some 17), .pick (.tmp 14) (.tmp 16) (.const (.bool false)), none⟩]) (
 .trim [1, 2, 5, 6, 17] [2] [] (
 .cond (.tmp 17) (
 .skip) (
 .exit 0)))) (
 .trim [1, 2, 5, 6] [2] [] (
 .seq (
 .block 1 (
 .reg [⟨(some 20), .mov (.tmp 5), none⟩,
 ⟨(some 21), .faddr 6 (.tmp 2), none⟩,
 ⟨(some 22), .load none (.tmp 21), none⟩,
 ⟨(some 23), .mov (.tmp 6), none⟩,
 ⟨(some 24), .iaddrS 7 (.tmp 22) (.tmp 23), none⟩,
 ⟨(some 25), .load (some 7) (.tmp 24), none⟩,
 ⟨(some 26), .mov (.tmp 1), none⟩,
 ⟨(some 27), .bin .add (.tmp 26) (.const (.int .i64 1)), none⟩,
 ⟨(some 28), .call (.func 41) [(.tmp 25), (.tmp 27)] .pure, none⟩,
 ⟨(some 29), .minmax true [(.tmp 20), (.tmp 28)], none⟩,
 ⟨(some 5), .mov (.tmp 29), none⟩])) (
 .trim [1, 2, 5, 6] [2] [] (
 .reg [⟨(some 18), .mov (.tmp 6), none⟩,
 ⟨(some 19), .bin .add (.tmp 18) (.const (.int .i64 1)), none⟩,
 ⟨(some 6), .mov (.tmp 19), none⟩])))))))))) (
 .trim [5] [] [] (
 .seq (
 .reg [⟨(some 30), .mov (.tmp 5), none⟩,
 ⟨(some 31), .bin .add (.tmp 30) (.const (.int .i64 1)), none⟩,
 ⟨(some 32), .minmax false [(.tmp 31), (.const (.int .i64 20))], none⟩,
 ⟨(some 4), .mov (.tmp 32), none⟩]) (
 .ret)))))))))
theorem r41 : Runs Tryz.prog 41 m41.strip [.mov (.tmp 4)] 33 := ⟨by kernel_rfl, by kernel_rfl, Tryz.f41, Tryz.f41.body.getD .skip, Tryz.func41, by kernel_rfl, by kernel_rfl, by kernel_rfl, by kernel_rfl, by kernel_rfl⟩

def m42 : MC :=
 .seq (
 .reg [⟨(some 1), .box 28 7 (.tmp 0), none⟩,
 ⟨(some 2), .mov (.const (.bool false)), none⟩]) (
 .trim [1] [1] [] (
 .seq (
 .seq (
 .reg [⟨(some 4), .faddr 2 (.tmp 1), none⟩,
 ⟨(some 5), .load (some 4) (.tmp 4), none⟩,
 ⟨(some 6), .bslice 25 4 [(.val (.bool false)), (.sl none []), (.val (.bool false)), (.sl none [])] 1 [(0, 4, (.tmp 5))], none⟩,
 ⟨(some 7), .call (.func 80) [(.tmp 6)] .pure, none⟩,
 ⟨(some 8), .un .not (.tmp 7), none⟩]) (
 .trim [1, 8] [1] [] (
 .cond (.tmp 8) (
 .seq (
 .reg [⟨(some 2), .mov (.const (.bool false)), none⟩]) (
 .ret)) (
 .skip)))) (
 .trim [1] [1] [] (
 .seq (
 .seq (
 .reg [⟨(some 3), .mov (.const (.int .i64 0)), none⟩]) (
 .trim [1, 3] [1] [] (
 .block 0 (
 .loop (
 .trim [1, 3] [1] [] (
 .seq (
 .seq (
 .reg [⟨(some 9), .mov (.tmp 3), none⟩,
 ⟨(some 10), .faddr 6 (.tmp 1), none⟩,
 ⟨(some 11), .load none (.tmp 10), none⟩,
 ⟨(some 12), .lenL (.tmp 11), none⟩,
 ⟨(some 13), .bin .lss (.tmp 9) (.tmp 12), none⟩]) (
 .trim [1, 3, 13] [1] [] (
 .cond (.tmp 13) (
 .skip) (
 .exit 0)))) (
 .trim [1, 3] [1] [] (
 .seq (
 .block 1 (
 .seq (
 .reg [⟨(some 16), .faddr 6 (.tmp 1), none⟩,
 ⟨(some 17), .load none (.tmp 16), none⟩,
 ⟨(some 18), .mov (.tmp 3), none⟩,
 ⟨(some 19), .iaddrS 7 (.tmp 17) (.tmp 18), none⟩,
 ⟨(some 20), .load (some 7) (.tmp 19), none⟩,
 ⟨(some 21), .call (.func 42) [(.tmp 20)] .pure, none⟩,
 ⟨(some 22), .un .not (.tmp 21), none⟩]) (
 .trim [1, 3, 22] [1] [] (
 .cond (.tmp 22) (
 .seq (
 .reg [⟨(some 2), .mov (.const (.bool false)), none⟩]) (
 .ret)) (
 .skip))))) (
 .trim [1, 3] [1] [] (
 .reg [⟨(some 14), .mov (.tmp 3), none⟩,
 ⟨(some 15), .bin .add (.tmp 14) (.const (.int .i64 1)), none⟩,
 ⟨(some 3), .mov (.tmp 15), none⟩])))))))))) (
 .trim [] [] [] (
 .seq (
 .reg [⟨(some 2), .mov (.const (.bool true)), none⟩]) (
 .ret)))))))
theorem r42 : Runs Tryz.prog 42 m42.strip [.mov (.tmp 2)] 23 := ⟨by kernel_rfl, by kernel_rfl, Tryz.f42, Tryz.f42.body.getD .skip, Tryz.func42, by kernel_rfl, by kernel_rfl, by kernel_rfl, by kernel_rfl, by kernel_rfl⟩

def m43 : MC :=
 .seq (
 .reg [⟨(some 1), .box 28 7 (.tmp 0), none⟩,
 ⟨(some 2), .mov (.const (.bool false)), none⟩]) (
 .trim [1] [1] [] (
 .fzb 1 (
 .seq (
 .reg [⟨(some 6), .load (some 7) (.tmp 1), none⟩,
 ⟨(some 7), .call (.func 81) [(.tmp 6)] .pure, none⟩,
 ⟨(some 5), .mov (.tmp 7), none⟩,
 ⟨(some 8), .ext (.tmp 5) 0, none⟩,
 ⟨(some 9), .ext (.tmp 5) 1, none⟩,
 ⟨(some 3), .mov (.tmp 8), none⟩,
 ⟨(some 4), .mov (.tmp 9), none⟩]) (
 .trim [1, 3] [1] [] (
 .seq (
 .reg [⟨(some 10), .mov (.tmp 3), none⟩,
 ⟨(some 11), .bin .gtr (.tmp 10) (.const (.int .i64 0)), none⟩,
 ⟨(some 12), .mov (.tmp 11), none⟩,
 ⟨(some 13), .call (.func 82) [(.tmp 1)] .pure, (some (12, true))⟩,
 ⟨(some 14), .pick (.tmp 12) (.tmp 13) (.const (.bool false)), none⟩,
 ⟨(some 2), .mov (.tmp 14), none⟩]) (
 .ret))))))
theorem r43 : Runs Tryz.prog 43 m43.strip [.mov (.tmp 2)] 15 := ⟨by kernel_rfl, by kernel_rfl, Tryz.f43, Tryz.f43.body.getD .skip, Tryz.func43, by kernel_rfl, by kernel_rfl, by kernel_rfl, by kernel_rfl, by kernel_rfl⟩

def m44 : MC :=
 .seq (
 .reg [⟨(some 4), .nilsl 49 16, none⟩,
 ⟨(some 5), .mov (.const (.int .i64 0)), none⟩]) (
 .trim [0, 1] [] [] (
 .seq (
 .reg [⟨(some 6), .nilsl 49 16, none⟩]) (
 .trim [0, 1, 6] [] [(6, 49, 16), (20, 49, 16)] (
 .seq (
 .seq (
 .reg [⟨(some 11), .mov (.tmp 0), none⟩,
 ⟨(some 12), .nilck (.tmp 11), none⟩,
 ⟨(some 13), .faddr 0 (.tmp 12), none⟩,
 ⟨(some 14), .load none (.tmp 13), none⟩,
 ⟨(some 15), .bin .eql (.tmp 14) (.const (.int .i64 2)), none⟩,
 ⟨(some 16), .mov (.tmp 1), none⟩,
 ⟨(some 17), .binB true (.tmp 15) (.tmp 16), none⟩,
 ⟨(some 7), .mov (.tmp 17), none⟩]) (
 .trim [0, 1, 6, 7] [] [(6, 49, 16), (20, 49, 16)] (
 .block 0 (
 .seq (
 .reg [⟨(some 58), .mov (.tmp 0), none⟩,
 ⟨(some 59), .nilck (.tmp 58), none⟩,
 ⟨(some 60), .faddr 0 (.tmp 59), none⟩,
 ⟨(some 61), .load none (.tmp 60), none⟩,
 ⟨(some 62), .bin .eql (.tmp 61) (.const (.int .i64 1)), none⟩,
 ⟨(some 63), .mov (.tmp 62), none⟩,
 ⟨(some 64), .mov (.tmp 1), (some (63, true))⟩,
 ⟨(some 65), .pick (.tmp 63) (.tmp 64) (.const (.bool false)), none⟩,
 ⟨(some 57), .mov (.tmp 65), none⟩]) (
 .trim [0, 1, 6, 7, 57] [] [(6, 49, 16), (20, 49, 16)] (
 .cond (.tmp 57) (
 .seq (
 .dreg 14 [⟨(some 66), .mov (.tmp 0), none⟩,
 ⟨(some 67), .nilck (.tmp 66), none⟩,
 ⟨(some 68), .faddr 1 (.tmp 67), none⟩,
 ⟨(some 69), .load none (.tmp 68), none⟩,
 ⟨(some 70), .mov (.tmp 0), none⟩,
 ⟨(some 71), .nilck (.tmp 70), none⟩,
 ⟨(some 72), .faddr 2 (.tmp 71), none⟩,
 ⟨(some 73), .load (some 4) (.tmp 72), none⟩,
 ⟨(some 74), .call (.func 85) [(.tmp 73)] .pure, none⟩,
 ⟨(some 75), .call (.func 84) [(.tmp 69), (.tmp 74)] .pure, none⟩,
 ⟨(some 76), .bslice 49 16 [(.val (.bool false)), (.sl none []), (.val (.bool false)), (.sl none []), (.val (.bool false)), (.sl none []), (.val (.bool false)), (.sl none []), (.val (.bool false)), (.sl none []), (.val (.bool false)), (.sl none []), (.val (.bool false)), (.sl none []), (.val (.bool false)), (.sl none [])] 1 [(0, 16, (.tmp 75))], none⟩,
 ⟨(some 77), .call (.func 83) [(.tmp 76)] .pure, none⟩,
 ⟨(some 4), .mov (.tmp 77), none⟩,
 ⟨(some 5), .mov (.const (.int .i64 0)), none⟩]) (
 .ret)) (
 .seq (
 .reg [⟨(some 79), .mov (.tmp 0), none⟩,
 ⟨(some 80), .nilck (.tmp 79), none⟩,
 ⟨(some 81), .faddr 0 (.tmp 80), none⟩,
 ⟨(some 82), .load none (.tmp 81), none⟩,
 ⟨(some 83), .bin .eql (.tmp 82) (.const (.int .i64 1)), none⟩,
 ⟨(some 78), .mov (.tmp 83), none⟩]) (
 .trim [0, 1, 6, 7, 78] [] [(6, 49, 16), (20, 49, 16)] (
 .cond (.tmp 78) (
 .seq (
 .dreg 13 [⟨(some 84), .mov (.tmp 0), none⟩,
 ⟨(some 85), .nilck (.tmp 84), none⟩,
 ⟨(some 86), .faddr 1 (.tmp 85), none⟩,
 ⟨(some 87), .load none (.tmp 86), none⟩,
 ⟨(some 88), .mov (.tmp 0), none⟩,
 ⟨(some 89), .nilck (.tmp 88), none⟩,
 ⟨(some 90), .faddr 2 (.tmp 89), none⟩,
 ⟨(some 91), .load (some 4) (.tmp 90), none⟩,
 ⟨(some 92), .call (.func 84) [(.tmp 87), (.tmp 91)] .pure, none⟩,
 ⟨(some 93), .bslice 49 16 [(.val (.bool false)), (.sl none []), (.val (.bool false)), (.sl none []), (.val (.bool false)), (.sl none []), (.val (.bool false)), (.sl none []), (.val (.bool false)), (.sl none []), (.val (.bool false)), (.sl none []), (.val (.bool false)), (.sl none []), (.val (.bool false)), (.sl none [])] 1 [(0, 16, (.tmp 92))], none⟩,
 ⟨(some 94), .call (.func 83) [(.tmp 93)] .pure, none⟩,
 ⟨(some 4), .mov (.tmp 94), none⟩,
 ⟨(some 5), .mov (.const (.int .i64 0)), none⟩]) (
 .ret)) (
 .seq (
 .reg [⟨(some 96), .mov (.tmp 0), none⟩,
 ⟨(some 97), .nilck (.tmp 96), none⟩,
 ⟨(some 98), .faddr 0 (.tmp 97), none⟩,
 ⟨(some 99), .load none (.tmp 98), none⟩,
 ⟨(some 100), .bin .eql (.tmp 99) (.const (.int .i64 4)), none⟩,
 ⟨(some 95), .mov (.tmp 100), none⟩]) (
 .trim [0, 1, 6, 7, 95] [] [(6, 49, 16), (20, 49, 16)] (
 .cond (.tmp 95) (
 .seq (
 .reg [⟨(some 101), .mov (.tmp 0), none⟩,
 ⟨(some 102), .nilck (.tmp 101), none⟩,
 ⟨(some 103), .faddr 6 (.tmp 102), none⟩,
 ⟨(some 104), .load none (.tmp 103), none⟩,
 ⟨(some 105), .iaddrS 7 (.tmp 104) (.const (.int .i64 0)), none⟩,
 ⟨(some 106), .mov (.tmp 1), none⟩,
 ⟨(some 107), .un .not (.tmp 106), none⟩,
 ⟨(some 108), .call (.func 44) [(.tmp 105), (.tmp 107)] .pure, none⟩,
 ⟨(some 109), .ext (.tmp 108) 0, none⟩,
 ⟨(some 110), .ext (.tmp 108) 1, none⟩,
 ⟨(some 4), .mov (.tmp 109), none⟩,
 ⟨(some 5), .mov (.tmp 110), none⟩]) (
 .ret)) (
 .seq (
 .seq (
 .reg [⟨(some 18), .mov (.tmp 7), none⟩]) (
 .trim [0, 1, 6, 7, 18] [] [(6, 49, 16), (20, 49, 16)] (
 .cond (.tmp 18) (
 .reg [⟨(some 19), .call (.func 86) [] .pure, none⟩,
 ⟨(some 20), .bslice 49 16 [(.val (.bool false)), (.sl none []), (.val (.bool false)), (.sl none []), (.val (.bool false)), (.sl none []), (.val (.bool false)), (.sl none []), (.val (.bool false)), (.sl none []), (.val (.bool false)), (.sl none []), (.val (.bool false)), (.sl none []), (.val (.bool false)), (.sl none [])] 1 [(0, 16, (.tmp 19))], none⟩,
 ⟨(some 6), .mov (.tmp 20), none⟩]) (
 .skip)))) (
 .trim [0, 1, 6, 7] [] [(6, 49, 16), (20, 49, 16)] (
 .seq (
 .reg [⟨(some 21), .mov (.tmp 0), none⟩,
 ⟨(some 22), .nilck (.tmp 21), none⟩,
 ⟨(some 23), .faddr 6 (.tmp 22), none⟩,
 ⟨(some 24), .load none (.tmp 23), none⟩,
 ⟨(some 25), .lenL (.tmp 24), none⟩,
 ⟨(some 26), .mov (.const (.int .i64 0)), none⟩]) (
 .trim [0, 1, 6, 7, 25, 26] [] [(6, 49, 16), (20, 49, 16)] (
 .fz [6] (
 .trim [0, 1, 6, 7, 25, 26] [] [] (
 .block 1 (
 .loop (
 .trim [0, 1, 6, 7, 25, 26] [] [] (
 .seq (
 .reg [⟨(some 27), .bin .lss (.tmp 26) (.tmp 25), none⟩]) (
 .trim [0, 1, 6, 7, 25, 26, 27] [] [] (
 .seq (
 .cond (.tmp 27) (
 .skip) (
 .exit 1)) (
 .trim [0, 1, 6, 7, 25, 26] [] [] (
 .seq (
 .block 2 (
 .seq (
 .reg [⟨(some 28), .mov (.tmp 26), none⟩,
 ⟨(some 8), .mov (.tmp 28), none⟩]) (
 .trim [0, 1, 6, 7, 8, 25, 26] [] [] (
 .seq (
 .reg [⟨(some 30), .mov (.tmp 0), none⟩,
 ⟨(some 31), .nilck (.tmp 30), none⟩,
 ⟨(some 32), .faddr 6 (.tmp 31), none⟩,
 ⟨(some 33), .load none (.tmp 32), none⟩,
 ⟨(some 34), .mov (.tmp 8), none⟩,
 ⟨(some 35), .iaddrS 7 (.tmp 33) (.tmp 34), none⟩,
 ⟨(some 36), .mov (.tmp 1), none⟩,
 ⟨(some 37), .call (.func 44) [(.tmp 35), (.tmp 36)] .pure, none⟩,
 ⟨(some 29), .mov (.tmp 37), none⟩,
 ⟨(some 38), .ext (.tmp 29) 0, none⟩,
 ⟨(some 39), .ext (.tmp 29) 1, none⟩,
 ⟨(some 9), .mov (.tmp 38), none⟩,
 ⟨(some 10), .mov (.tmp 39), none⟩]) (
 .trim [0, 1, 6, 7, 9, 10, 25, 26] [] [] (
 .seq (
 .seq (
 .reg [⟨(some 40), .mov (.tmp 10), none⟩,
 ⟨(some 41), .bin .neq (.tmp 40) (.const (.int .i64 0)), none⟩]) (
 .trim [0, 1, 6, 7, 9, 10, 25, 26, 41] [] [] (
 .cond (.tmp 41) (
 .seq (
 .reg [⟨(some 42), .mov (.tmp 10), none⟩,
 ⟨(some 4), .nilsl 49 16, none⟩,
 ⟨(some 5), .mov (.tmp 42), none⟩]) (
 .ret)) (
 .skip)))) (
 .trim [0, 1, 6, 7, 9, 25, 26] [] [] (
 .seq (
 .seq (
 .reg [⟨(some 43), .mov (.tmp 7), none⟩]) (
 .trim [0, 1, 6, 7, 9, 25, 26, 43] [] [] (
 .cond (.tmp 43) (
 .reg [⟨(some 44), .mov (.tmp 6), none⟩,
 ⟨(some 45), .mov (.tmp 9), none⟩,
 ⟨(some 46), .call (.func 87) [(.tmp 44), (.tmp 45)] .pure, none⟩,
 ⟨(some 47), .call (.func 83) [(.tmp 46)] .pure, none⟩,
 ⟨(some 6), .mov (.tmp 47), none⟩]) (
 .reg [⟨(some 48), .mov (.tmp 6), none⟩,
 ⟨(some 49), .mov (.tmp 9), none⟩,
 ⟨(some 50), .bslice 31 1 [(.sl none [])] 2 [(0, 1, (.tmp 48)), (1, 1, (.tmp 49))], none⟩,
 ⟨(some 51), .call (.func 88) [(.tmp 50)] .pure, none⟩,
 ⟨(some 52), .call (.func 83) [(.tmp 51)] .pure, none⟩,
 ⟨(some 6), .mov (.tmp 52), none⟩])))) (
 .trim [0, 1, 6, 7, 25, 26] [] [] (
 .seq (
 .reg [⟨(some 53), .mov (.tmp 6), none⟩,
 ⟨(some 54), .lenL (.tmp 53), none⟩,
 ⟨(some 55), .bin .gtr (.tmp 54) (.const (.int .i64 16)), none⟩]) (
 .trim [0, 1, 6, 7, 25, 26, 55] [] [] (
 .cond (.tmp 55) (
 .seq (
 .reg [⟨(some 4), .nilsl 49 16, none⟩,
 ⟨(some 5), .mov (.const (.int .i64 4)), none⟩]) (
 .ret)) (
 .skip))))))))))))) (
 .trim [0, 1, 6, 7, 25, 26] [] [] (
 .reg [⟨(some 56), .bin .add (.tmp 26) (.const (.int .i64 1)), none⟩,
 ⟨(some 26), .mov (.tmp 56), none⟩])))))))))))))))))))))))))))) (
 .trim [6] [] [(6, 49, 16), (20, 49, 16)] (
 .seq (
 .reg [⟨(some 111), .mov (.tmp 6), none⟩,
 ⟨(some 4), .mov (.tmp 111), none⟩,
 ⟨(some 5), .mov (.const (.int .i64 0)), none⟩]) (
 .ret)))))))
theorem r44 : Runs Tryz.prog 44 m44.strip [.mov (.tmp 4), .mov (.tmp 5)] 112 := ⟨by kernel_rfl, by kernel_rfl, Tryz.f44, Tryz.f44.body.getD .skip, Tryz.func44, by kernel_rfl, by kernel_rfl, by kernel_rfl, by kernel_rfl, by kernel_rfl⟩

def m46 : MC :=
 .seq (
 .reg [⟨(some 1), .box 28 7 (.tmp 0), none⟩,
 ⟨(some 2), .mov (.const (.bool false)), none⟩]) (
 .trim [1] [1] [] (
 .seq (
 .reg [⟨(some 3), .load (some 7) (.tmp 1), none⟩,
 ⟨(some 4), .call (.func 91) [(.tmp 3)] .pure, none⟩,
 ⟨(some 5), .mov (.tmp 4), none⟩,
 ⟨(some 6), .load (some 7) (.tmp 1), (some (5, true))⟩,
 ⟨(some 7), .call (.func 92) [(.tmp 6)] .pure, (some (5, true))⟩,
 ⟨(some 8), .pick (.tmp 5) (.tmp 7) (.const (.bool false)), none⟩,
 ⟨(some 2), .mov (.tmp 8), none⟩]) (
 .ret)))
theorem r46 : Runs Tryz.prog 46 m46.strip [.mov (.tmp 2)] 9 := ⟨by kernel_rfl, by kernel_rfl, Tryz.f46, Tryz.f46.body.getD .skip, Tryz.func46, by kernel_rfl, by kernel_rfl, by kernel_rfl, by kernel_rfl, by kernel_rfl⟩

def m56 : MC :=
 .seq (
 .reg [⟨(some 2), .nilsl 28 7, none⟩]) (
 .trim [0] [] [] (
 .seq (
 .seq (
 .reg [⟨(some 3), .mov (.tmp 0), none⟩,
 ⟨(some 4), .isnil false (.tmp 3), none⟩]) (
 .trim [0, 4] [] [] (
 .cond (.tmp 4) (
 .seq (
 .reg [⟨(some 2), .nilsl 28 7, none⟩]) (
 .ret)) (
 .skip)))) (
 .trim [0] [] [] (
 .seq (
 .reg [⟨(some 5), .bslice 28 7 [(.val (.int .i64 0)), (.val (.int .i64 0)), (.val (.bool false)), (.sl none []), (.val (.bool false)), (.sl none []), (.sl none [])] 0 [], none⟩,
 ⟨(some 6), .mov (.tmp 0), none⟩,
 ⟨(some 7), .append 28 7 104 (.tmp 5) (.tmp 6), none⟩,
 ⟨(some 2), .mov (.tmp 7), none⟩]) (
 .ret)))))
theorem r56 : Runs Tryz.prog 56 m56.strip [.mov (.tmp 2)] 8 := ⟨by kernel_rfl, by kernel_rfl, Tryz.f56, Tryz.f56.body.getD .skip, Tryz.func56, by kernel_rfl, by kernel_rfl, by kernel_rfl, by kernel_rfl, by kernel_rfl⟩

def m82 : MC :=
 .seq (
 .reg [⟨(some 2), .mov (.const (.bool false)), none⟩]) (
 .trim [0] [] [] (
 .seq (
 .seq (
 .reg [⟨(some 4), .mov (.tmp 0), none⟩,
 ⟨(some 5), .nilck (.tmp 4), none⟩,
 ⟨(some 6), .faddr 6 (.tmp 5), none⟩,
 ⟨(some 7), .load none (.tmp 6), none⟩,
 ⟨(some 8), .lenL (.tmp 7), none⟩,
 ⟨(some 9), .mov (.const (.int .i64 0)), none⟩]) (
 .trim [0, 8, 9] [] [] (
 .block 0 (
 .loop (
 .trim [0, 8, 9] [] [] (
 .seq (
 .reg [⟨(some 10), .bin .lss (.tmp 9) (.tmp 8), none⟩]) (
 .trim [0, 8, 9, 10] [] [] (
 .seq (
 .cond (.tmp 10) (
 .skip) (
 .exit 0)) (
 .trim [0, 8, 9] [] [] (
 .seq (
 .block 1 (
 .seq (
 .reg [⟨(some 11), .mov (.tmp 9), none⟩,
 ⟨(some 3), .mov (.tmp 11), none⟩]) (
 .trim [0, 3, 8, 9] [] [] (
 .seq (
 .reg [⟨(some 12), .mov (.tmp 0), none⟩,
 ⟨(some 13), .nilck (.tmp 12), none⟩,
 ⟨(some 14), .faddr 6 (.tmp 13), none⟩,
 ⟨(some 15), .load none (.tmp 14), none⟩,
 ⟨(some 16), .mov (.tmp 3), none⟩,
 ⟨(some 17), .iaddrS 7 (.tmp 15) (.tmp 16), none⟩,
 ⟨(some 18), .call (.func 82) [(.tmp 17)] .pure, none⟩,
 ⟨(some 19), .un .not (.tmp 18), none⟩]) (
 .trim [0, 8, 9, 19] [] [] (
 .cond (.tmp 19) (
 .seq (
 .reg [⟨(some 2), .mov (.const (.bool false)), none⟩]) (
 .ret)) (
 .skip))))))) (
 .trim [0, 8, 9] [] [] (
 .reg [⟨(some 20), .bin .add (.tmp 9) (.const (.int .i64 1)), none⟩,
 ⟨(some 9), .mov (.tmp 20), none⟩])))))))))))) (
 .trim [0] [] [] (
 .seq (
 .reg [⟨(some 21), .mov (.tmp 0), none⟩,
 ⟨(some 22), .call (.func 121) [(.tmp 21)] .pure, none⟩,
 ⟨(some 2), .mov (.tmp 22), none⟩]) (
 .ret)))))
theorem r82 : Runs Tryz.prog 82 m82.strip [.mov (.tmp 2)] 23 := ⟨by kernel_rfl, by kernel_rfl, Tryz.f82, Tryz.f82.body.getD .skip, Tryz.func82, by kernel_rfl, by kernel_rfl, by kernel_rfl, by kernel_rfl, by kernel_rfl⟩

def m87 : MC :=
 .seq (
 .reg [⟨(some 4), .nilsl 49 16, none⟩]) (
 .trim [0, 1, 4] [] [(4, 49, 16)] (
 .seq (
 .seq (
 .reg [⟨(some 10), .mov (.tmp 0), none⟩,
 ⟨(some 11), .lenL (.tmp 10), none⟩,
 ⟨(some 12), .mov (.const (.int .i64 0)), none⟩]) (
 .trim [1, 4, 10, 11, 12] [] [(4, 49, 16)] (
 .block 0 (
 .loop (
 .trim [1, 4, 10, 11, 12] [] [(4, 49, 16)] (
 .seq (
 .reg [⟨(some 13), .bin .lss (.tmp 12) (.tmp 11), none⟩]) (
 .trim [1, 4, 10, 11, 12, 13] [] [(4, 49, 16)] (
 .seq (
 .cond (.tmp 13) (
 .skip) (
 .exit 0)) (
 .trim [1, 4, 10, 11, 12] [] [(4, 49, 16)] (
 .seq (
 .block 1 (
 .seq (
 .reg [⟨(some 14), .iaddrS 16 (.tmp 10) (.tmp 12), none⟩,
 ⟨(some 15), .load (some 16) (.tmp 14), none⟩,
 ⟨(some 6), .alloc 49 [(.val (.bool false)), (.sl none []), (.val (.bool false)), (.sl none []), (.val (.bool false)), (.sl none []), (.val (.bool false)), (.sl none []), (.val (.bool false)), (.sl none []), (.val (.bool false)), (.sl none []), (.val (.bool false)), (.sl none []), (.val (.bool false)), (.sl none [])], none⟩,
 ⟨none, .store 16 (.tmp 6) (.tmp 15), none⟩]) (
 .trim [1, 4, 6, 10, 11, 12] [6] [(4, 49, 16)] (
 .seq (
 .reg [⟨(some 16), .mov (.tmp 1), none⟩,
 ⟨(some 17), .lenL (.tmp 16), none⟩,
 ⟨(some 18), .mov (.const (.int .i64 0)), none⟩]) (
 .trim [1, 4, 6, 10, 11, 12, 16, 17, 18] [6] [(4, 49, 16)] (
 .block 2 (
 .loop (
 .trim [1, 4, 6, 10, 11, 12, 16, 17, 18] [6] [(4, 49, 16)] (
 .seq (
 .reg [⟨(some 19), .bin .lss (.tmp 18) (.tmp 17), none⟩]) (
 .trim [1, 4, 6, 10, 11, 12, 16, 17, 18, 19] [6] [(4, 49, 16)] (
 .seq (
 .cond (.tmp 19) (
 .skip) (
 .exit 2)) (
 .trim [1, 4, 6, 10, 11, 12, 16, 17, 18] [6] [(4, 49, 16)] (
 .seq (
 .block 3 (
 .seq (
 .reg [⟨(some 20), .iaddrS 16 (.tmp 16) (.tmp 18), none⟩,
 ⟨(some 21), .load (some 16) (.tmp 20), none⟩,
 ⟨(some 8), .alloc 49 [(.val (.bool false)), (.sl none []), (.val (.bool false)), (.sl none []), (.val (.bool false)), (.sl none []), (.val (.bool false)), (.sl none []), (.val (.bool false)), (.sl none []), (.val (.bool false)), (.sl none []), (.val (.bool false)), (.sl none []), (.val (.bool false)), (.sl none [])], none⟩,
 ⟨none, .store 16 (.tmp 8) (.tmp 21), none⟩]) (
 .trim [1, 4, 6, 8, 10, 11, 12, 16, 17, 18] [6, 8] [(4, 49, 16)] (
 .seq (
 .reg [⟨(some 22), .load (some 16) (.tmp 6), none⟩,
 ⟨(some 23), .load (some 16) (.tmp 8), none⟩,
 ⟨(some 24), .call (.func 129) [(.tmp 22), (.tmp 23)] .pure, none⟩,
 ⟨(some 9), .alloc 49 [(.val (.bool false)), (.sl none []), (.val (.bool false)), (.sl none []), (.val (.bool false)), (.sl none []), (.val (.bool false)), (.sl none []), (.val (.bool false)), (.sl none []), (.val (.bool false)), (.sl none []), (.val (.bool false)), (.sl none []), (.val (.bool false)), (.sl none [])], none⟩,
 ⟨none, .store 16 (.tmp 9) (.tmp 24), none⟩]) (
 .trim [1, 4, 6, 9, 10, 11, 12, 16, 17, 18] [6, 9] [(4, 49, 16)] (
 .seq (
 .reg [⟨(some 25), .load (some 16) (.tmp 9), none⟩,
 ⟨(some 26), .call (.func 122) [(.tmp 25)] .pure, none⟩,
 ⟨(some 27), .un .not (.tmp 26), none⟩]) (
 .trim [1, 4, 6, 9, 10, 11, 12, 16, 17, 18, 27] [6, 9] [(4, 49, 16)] (
 .cond (.tmp 27) (
 .reg [⟨(some 28), .mov (.tmp 4), none⟩,
 ⟨(some 29), .load (some 16) (.tmp 9), none⟩,
 ⟨(some 30), .bslice 49 16 [(.val (.bool false)), (.sl none []), (.val (.bool false)), (.sl none []), (.val (.bool false)), (.sl none []), (.val (.bool false)), (.sl none []), (.val (.bool false)), (.sl none []), (.val (.bool false)), (.sl none []), (.val (.bool false)), (.sl none []), (.val (.bool false)), (.sl none [])] 1 [(0, 16, (.tmp 29))], none⟩,
 ⟨(some 31), .append 49 16 256 (.tmp 28) (.tmp 30), none⟩,
 ⟨(some 4), .mov (.tmp 31), none⟩]) (
 .skip))))))))) (
 .trim [1, 4, 6, 10, 11, 12, 16, 17, 18] [6] [(4, 49, 16)] (
 .reg [⟨(some 32), .bin .add (.tmp 18) (.const (.int .i64 1)), none⟩,
 ⟨(some 18), .mov (.tmp 32), none⟩]))))))))))))))) (
 .trim [1, 4, 10, 11, 12] [] [(4, 49, 16)] (
 .reg [⟨(some 33), .bin .add (.tmp 12) (.const (.int .i64 1)), none⟩,
 ⟨(some 12), .mov (.tmp 33), none⟩])))))))))))) (
 .trim [4] [] [(4, 49, 16)] (
 .seq (
 .reg [⟨(some 34), .mov (.tmp 4), none⟩,
 ⟨(some 4), .mov (.tmp 34), none⟩]) (
 .ret)))))
theorem r87 : Runs Tryz.prog 87 m87.strip [.mov (.tmp 4)] 35 := ⟨by kernel_rfl, by kernel_rfl, Tryz.f87, Tryz.f87.body.getD .skip, Tryz.func87, by kernel_rfl, by kernel_rfl, by kernel_rfl, by kernel_rfl, by kernel_rfl⟩

def m88 : MC :=
 .seq (
 .reg [⟨(some 2), .nilsl 49 16, none⟩]) (
 .trim [0] [] [] (
 .seq (
 .reg [⟨(some 3), .mov (.const (.int .i64 0)), none⟩]) (
 .trim [0, 3] [] [] (
 .seq (
 .seq (
 .reg [⟨(some 9), .mov (.tmp 0), none⟩,
 ⟨(some 10), .lenL (.tmp 9), none⟩,
 ⟨(some 11), .mov (.const (.int .i64 0)), none⟩]) (
 .trim [0, 3, 9, 10, 11] [] [] (
 .block 0 (
 .loop (
 .trim [0, 3, 9, 10, 11] [] [] (
 .seq (
 .reg [⟨(some 12), .bin .lss (.tmp 11) (.tmp 10), none⟩]) (
 .trim [0, 3, 9, 10, 11, 12] [] [] (
 .seq (
 .cond (.tmp 12) (
 .skip) (
 .exit 0)) (
 .trim [0, 3, 9, 10, 11] [] [] (
 .seq (
 .block 1 (
 .seq (
 .reg [⟨(some 13), .iaddrS 1 (.tmp 9) (.tmp 11), none⟩,
 ⟨(some 14), .load none (.tmp 13), none⟩,
 ⟨(some 5), .mov (.tmp 14), none⟩]) (
 .trim [0, 3, 5, 9, 10, 11] [] [] (
 .seq (
 .reg [⟨(some 15), .mov (.tmp 3), none⟩,
 ⟨(some 16), .mov (.tmp 5), none⟩,
 ⟨(some 17), .lenL (.tmp 16), none⟩,
 ⟨(some 18), .bin .add (.tmp 15) (.tmp 17), none⟩,
 ⟨(some 3), .mov (.tmp 18), none⟩]) (
 .trim [0, 3, 9, 10, 11] [] [] (
 .seq (
 .reg [⟨(some 19), .mov (.tmp 3), none⟩,
 ⟨(some 20), .bin .lss (.tmp 19) (.const (.int .i64 0)), none⟩]) (
 .trim [0, 3, 9, 10, 11, 20] [] [] (
 .cond (.tmp 20) (
 .reg [⟨(some 21), .bad, none⟩,
 ⟨none, .bad, none⟩]) (
 .skip))))))))) (
 .trim [0, 3, 9, 10, 11] [] [] (
 .reg [⟨(some 22), .bin .add (.tmp 11) (.const (.int .i64 1)), none⟩,
 ⟨(some 11), .mov (.tmp 22), none⟩])))))))))))) (
 .trim [0, 3] [] [] (
 .seq (
 .reg [⟨(some 23), .mov (.tmp 3), none⟩,
 ⟨(some 24), .call (.func 130) [(.const (.slice none 0 0)), (.tmp 23)] (.freshV 49 16), none⟩,
 ⟨(some 6), .mov (.tmp 24), none⟩]) (
 .trim [0, 6] [] [(24, 49, 16)] (
 .seq (
 .seq (
 .reg [⟨(some 25), .mov (.tmp 0), none⟩,
 ⟨(some 26), .lenL (.tmp 25), none⟩,
 ⟨(some 27), .mov (.const (.int .i64 0)), none⟩]) (
 .trim [6, 25, 26, 27] [] [(24, 49, 16)] (
 .block 2 (
 .loop (
 .trim [6, 25, 26, 27] [] [(24, 49, 16)] (
 .seq (
 .reg [⟨(some 28), .bin .lss (.tmp 27) (.tmp 26), none⟩]) (
 .trim [6, 25, 26, 27, 28] [] [(24, 49, 16)] (
 .seq (
 .cond (.tmp 28) (
 .skip) (
 .exit 2)) (
 .trim [6, 25, 26, 27] [] [(24, 49, 16)] (
 .seq (
 .block 3 (
 .seq (
 .reg [⟨(some 29), .iaddrS 1 (.tmp 25) (.tmp 27), none⟩,
 ⟨(some 30), .load none (.tmp 29), none⟩,
 ⟨(some 8), .mov (.tmp 30), none⟩]) (
 .trim [6, 8, 25, 26, 27] [] [(24, 49, 16)] (
 .reg [⟨(some 31), .mov (.tmp 6), none⟩,
 ⟨(some 32), .mov (.tmp 8), none⟩,
 ⟨(some 33), .append 49 16 256 (.tmp 31) (.tmp 32), none⟩,
 ⟨(some 6), .mov (.tmp 33), none⟩])))) (
 .trim [6, 25, 26, 27] [] [(24, 49, 16)] (
 .reg [⟨(some 34), .bin .add (.tmp 27) (.const (.int .i64 1)), none⟩,
 ⟨(some 27), .mov (.tmp 34), none⟩])))))))))))) (
 .trim [6] [] [(24, 49, 16)] (
 .seq (
 .reg [⟨(some 35), .mov (.tmp 6), none⟩,
 ⟨(some 2), .mov (.tmp 35), none⟩]) (
 .ret)))))))))))
theorem r88 : Runs Tryz.prog 88 m88.strip [.mov (.tmp 2)] 36 := ⟨by kernel_rfl, by kernel_rfl, Tryz.f88, Tryz.f88.body.getD .skip, Tryz.func88, by kernel_rfl, by kernel_rfl, by kernel_rfl, by kernel_rfl, by kernel_rfl⟩

def m91 : MC :=
 .seq (
 .reg [⟨(some 1), .box 28 7 (.tmp 0), none⟩,
 ⟨(some 2), .mov (.const (.bool false)), none⟩]) (
 .trim [1] [1] [] (
 .seq (
 .reg [⟨(some 3), .load (some 7) (.tmp 1), none⟩,
 ⟨(some 4), .call (.func 40) [(.tmp 3), (.const (.int .i64 0))] .pure, none⟩,
 ⟨(some 5), .bin .leq (.tmp 4) (.const (.int .i64 40)), none⟩,
 ⟨(some 6), .mov (.tmp 5), none⟩,
 ⟨(some 7), .load (some 7) (.tmp 1), (some (6, true))⟩,
 ⟨(some 8), .call (.func 41) [(.tmp 7), (.const (.int .i64 0))] .pure, (some (6, true))⟩,
 ⟨(some 9), .bin .leq (.tmp 8) (.const (.int .i64 8)), (some (6, true))⟩,
 ⟨(some 10), .pick (.tmp 6) (.tmp 9) (.const (.bool false)), none⟩,
 ⟨(some 2), .mov (.tmp 10), none⟩]) (
 .ret)))
theorem r91 : Runs Tryz.prog 91 m91.strip [.mov (.tmp 2)] 11 := ⟨by kernel_rfl, by kernel_rfl, Tryz.f91, Tryz.f91.body.getD .skip, Tryz.func91, by kernel_rfl, by kernel_rfl, by kernel_rfl, by kernel_rfl, by kernel_rfl⟩

def m92 : MC :=
 .seq (
 .reg [⟨(some 1), .box 28 7 (.tmp 0), none⟩,
 ⟨(some 2), .mov (.const (.bool false)), none⟩]) (
 .trim [1] [1] [] (
 .seq (
 .seq (
 .reg [⟨(some 4), .faddr 0 (.tmp 1), none⟩,
 ⟨(some 5), .load none (.tmp 4), none⟩]) (
 .trim [1, 5] [1] [] (
 .block 0 (
 .seq (
 .reg [⟨(some 7), .bin .eql (.tmp 5) (.const (.int .i64 1)), none⟩,
 ⟨(some 6), .mov (.tmp 7), none⟩]) (
 .trim [1, 5, 6] [1] [] (
 .cond (.tmp 6) (
 .seq (
 .reg [⟨(some 8), .faddr 1 (.tmp 1), none⟩,
 ⟨(some 9), .load none (.tmp 8), none⟩,
 ⟨(some 10), .bin .lss (.tmp 9) (.const (.int .i64 0)), none⟩,
 ⟨(some 11), .mov (.tmp 10), none⟩,
 ⟨(some 12), .faddr 1 (.tmp 1), (some (11, false))⟩,
 ⟨(some 13), .load none (.tmp 12), (some (11, false))⟩,
 ⟨(some 14), .bin .gtr (.tmp 13) (.const (.int .i64 3)), (some (11, false))⟩,
 ⟨(some 15), .pick (.tmp 11) (.const (.bool true)) (.tmp 14), none⟩,
 ⟨(some 16), .mov (.tmp 15), none⟩,
 ⟨(some 17), .faddr 6 (.tmp 1), (some (16, false))⟩,
 ⟨(some 18), .load none (.tmp 17), (some (16, false))⟩,
 ⟨(some 19), .lenL (.tmp 18), (some (16, false))⟩,
 ⟨(some 20), .bin .gtr (.tmp 19) (.const (.int .i64 0)), (some (16, false))⟩,
 ⟨(some 21), .pick (.tmp 16) (.const (.bool true)) (.tmp 20), none⟩,
 ⟨(some 22), .mov (.tmp 21), none⟩,
 ⟨(some 23), .faddr 2 (.tmp 1), (some (22, false))⟩,
 ⟨(some 24), .load (some 4) (.tmp 23), (some (22, false))⟩,
 ⟨(some 25), .call (.func 100) [(.tmp 24)] .pure, (some (22, false))⟩,
 ⟨(some 26), .un .not (.tmp 25), (some (22, false))⟩,
 ⟨(some 27), .pick (.tmp 22) (.const (.bool true)) (.tmp 26), none⟩,
 ⟨(some 28), .mov (.tmp 27), none⟩,
 ⟨(some 29), .faddr 2 (.tmp 1), (some (28, false))⟩,
 ⟨(some 30), .load (some 4) (.tmp 29), (some (28, false))⟩,
 ⟨(some 31), .call (.func 101) [(.tmp 30)] .pure, (some (28, false))⟩,
 ⟨(some 32), .un .not (.tmp 31), (some (28, false))⟩,
 ⟨(some 33), .pick (.tmp 28) (.const (.bool true)) (.tmp 32), none⟩]) (
 .trim [1, 33] [1] [] (
 .cond (.tmp 33) (
 .seq (
 .reg [⟨(some 2), .mov (.const (.bool false)), none⟩]) (
 .ret)) (
 .skip)))) (
 .seq (
 .seq (
 .reg [⟨(some 35), .bin .eql (.tmp 5) (.const (.int .i64 2)), none⟩,
 ⟨(some 34), .mov (.tmp 35), none⟩]) (
 .trim [1, 5, 34] [1] [] (
 .cond (.tmp 34) (
 .skip) (
 .seq (
 .reg [⟨(some 36), .bin .eql (.tmp 5) (.const (.int .i64 3)), none⟩,
 ⟨(some 34), .mov (.tmp 36), none⟩]) (
 .trim [1, 5, 34] [1] [] (
 .cond (.tmp 34) (
 .skip) (
 .reg [⟨(some 37), .bin .eql (.tmp 5) (.const (.int .i64 4)), none⟩,
 ⟨(some 34), .mov (.tmp 37), none⟩]))))))) (
 .trim [1, 34] [1] [] (
 .cond (.tmp 34) (
 .seq (
 .reg [⟨(some 38), .faddr 1 (.tmp 1), none⟩,
 ⟨(some 39), .load none (.tmp 38), none⟩,
 ⟨(some 40), .bin .neq (.tmp 39) (.const (.int .i64 0)), none⟩,
 ⟨(some 41), .mov (.tmp 40), none⟩,
 ⟨(some 42), .faddr 2 (.tmp 1), (some (41, false))⟩,
 ⟨(some 43), .load (some 4) (.tmp 42), (some (41, false))⟩,
 ⟨(some 44), .build [(.val (.bool false)), (.sl none []), (.val (.bool false)), (.sl none [])] [], (some (41, false))⟩,
 ⟨(some 45), .call (.func 96) [(.tmp 43), (.tmp 44)] .pure, (some (41, false))⟩,
 ⟨(some 46), .un .not (.tmp 45), (some (41, false))⟩,
 ⟨(some 47), .pick (.tmp 41) (.const (.bool true)) (.tmp 46), none⟩,
 ⟨(some 48), .mov (.tmp 47), none⟩,
 ⟨(some 49), .faddr 0 (.tmp 1), (some (48, false))⟩,
 ⟨(some 50), .load none (.tmp 49), (some (48, false))⟩,
 ⟨(some 51), .bin .eql (.tmp 50) (.const (.int .i64 4)), (some (48, false))⟩,
 ⟨(some 52), .mov (.tmp 51), (some (48, false))⟩,
 ⟨(some 53), .faddr 6 (.tmp 1), (some (52, true))⟩,
 ⟨(some 54), .load none (.tmp 53), (some (52, true))⟩,
 ⟨(some 55), .lenL (.tmp 54), (some (52, true))⟩,
 ⟨(some 56), .bin .neq (.tmp 55) (.const (.int .i64 1)), (some (52, true))⟩,
 ⟨(some 57), .pick (.tmp 52) (.tmp 56) (.const (.bool false)), (some (48, false))⟩,
 ⟨(some 58), .pick (.tmp 48) (.const (.bool true)) (.tmp 57), none⟩]) (
 .trim [1, 58] [1] [] (
 .cond (.tmp 58) (
 .seq (
 .reg [⟨(some 2), .mov (.const (.bool false)), none⟩]) (
 .ret)) (
 .skip)))) (
 .seq (
 .reg [⟨(some 2), .mov (.const (.bool false)), none⟩]) (
 .ret))))))))))) (
 .trim [1] [1] [] (
 .seq (
 .seq (
 .reg [⟨(some 3), .mov (.const (.int .i64 0)), none⟩]) (
 .trim [1, 3] [1] [] (
 .block 1 (
 .loop (
 .trim [1, 3] [1] [] (
 .seq (
 .seq (
 .reg [⟨(some 59), .mov (.tmp 3), none⟩,
 ⟨(some 60), .faddr 6 (.tmp 1), none⟩,
 ⟨(some 61), .load none (.tmp 60), none⟩,
 ⟨(some 62), .lenL (.tmp 61), none⟩,
 ⟨(some 63), .bin .lss (.tmp 59) (.tmp 62), none⟩]) (
 .trim [1, 3, 63] [1] [] (
 .cond (.tmp 63) (
 .skip) (
 .exit 1)))) (
 .trim [1, 3] [1] [] (
 .seq (
 .block 2 (
 .seq (
 .reg [⟨(some 66), .faddr 6 (.tmp 1), none⟩,
 ⟨(some 67), .load none (.tmp 66), none⟩,
 ⟨(some 68), .mov (.tmp 3), none⟩,
 ⟨(some 69), .iaddrS 7 (.tmp 67) (.tmp 68), none⟩,
 ⟨(some 70), .load (some 7) (.tmp 69), none⟩,
 ⟨(some 71), .call (.func 92) [(.tmp 70)] .pure, none⟩,
 ⟨(some 72), .un .not (.tmp 71), none⟩]) (
 .trim [1, 3, 72] [1] [] (
 .cond (.tmp 72) (
 .seq (
 .reg [⟨(some 2), .mov (.const (.bool false)), none⟩]) (
 .ret)) (
 .skip))))) (
 .trim [1, 3] [1] [] (
 .reg [⟨(some 64), .mov (.tmp 3), none⟩,
 ⟨(some 65), .bin .add (.tmp 64) (.const (.int .i64 1)), none⟩,
 ⟨(some 3), .mov (.tmp 65), none⟩])))))))))) (
 .trim [] [] [] (
 .seq (
 .reg [⟨(some 2), .mov (.const (.bool true)), none⟩]) (
 .ret)))))))
theorem r92 : Runs Tryz.prog 92 m92.strip [.mov (.tmp 2)] 73 := ⟨by kernel_rfl, by kernel_rfl, Tryz.f92, Tryz.f92.body.getD .skip, Tryz.func92, by kernel_rfl, by kernel_rfl, by kernel_rfl, by kernel_rfl, by kernel_rfl⟩

end Go.Proofs

