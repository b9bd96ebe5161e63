/- The functions, as code of the value machine (printed by program). -/
import Derived.Test.YtipppgiimemloaaGreatVm24
import Derived.Test.YtipppgiimemloaaGreatProg
set_option linter.unusedVariables false
set_option maxRecDepth 2000
namespace Go.Proofs
open Go.Vm
def m3 : MC :=
 .seq (
 .reg [⟨(some 1), .box 28 7 (.tmp 0), none⟩,
 ⟨(some 2), .mov (.const (.bool false)), none⟩]) (
 .trim [1] [1] [] (
 .seq (
 .seq (
 .reg [⟨(some 7), .call (.func 12) [] .pure, none⟩,
 ⟨(some 8), .un .not (.tmp 7), none⟩,
 ⟨(some 9), .mov (.tmp 8), none⟩,
 ⟨(some 10), .load (some 7) (.tmp 1), (some (9, false))⟩,
 ⟨(some 11), .call (.func 13) [(.tmp 10)] .pure, (some (9, false))⟩,
 ⟨(some 12), .un .not (.tmp 11), (some (9, false))⟩,
 ⟨(some 13), .pick (.tmp 9) (.const (.bool true)) (.tmp 12), none⟩]) (
 .trim [1, 13] [1] [] (
 .cond (.tmp 13) (
 .seq (
 .reg [⟨(some 14), .call (.func 12) [] .pure, none⟩,
 ⟨(some 2), .mov (.tmp 14), none⟩]) (
 .ret)) (
 .skip)))) (
 .trim [1] [1] [] (
 .seq (
 .reg [⟨(some 16), .load (some 7) (.tmp 1), none⟩,
 ⟨(some 17), .call (.func 14) [(.tmp 16)] .pure, none⟩,
 ⟨(some 15), .mov (.tmp 17), none⟩,
 ⟨(some 18), .ext (.tmp 15) 0, none⟩,
 ⟨(some 19), .ext (.tmp 15) 1, none⟩,
 ⟨(some 3), .mov (.tmp 18), none⟩,
 ⟨(some 4), .mov (.tmp 19), none⟩]) (
 .trim [1, 3, 4] [1] [] (
 .seq (
 .reg [⟨(some 21), .load (some 7) (.tmp 1), none⟩,
 ⟨(some 22), .call (.func 15) [(.tmp 21)] .pure, none⟩,
 ⟨(some 20), .mov (.tmp 22), none⟩,
 ⟨(some 23), .ext (.tmp 20) 0, none⟩,
 ⟨(some 24), .ext (.tmp 20) 1, none⟩,
 ⟨(some 5), .mov (.tmp 23), none⟩,
 ⟨(some 6), .mov (.tmp 24), none⟩]) (
 .trim [3, 4, 5, 6] [] [] (
 .seq (
 .reg [⟨(some 25), .mov (.tmp 3), none⟩,
 ⟨(some 26), .mov (.tmp 5), none⟩,
 ⟨(some 27), .call (.func 16) [(.tmp 25), (.tmp 26)] .pure, none⟩,
 ⟨(some 28), .mov (.tmp 27), none⟩,
 ⟨(some 29), .mov (.tmp 4), (some (28, true))⟩,
 ⟨(some 30), .mov (.tmp 6), (some (28, true))⟩,
 ⟨(some 31), .bin .eql (.tmp 29) (.tmp 30), (some (28, true))⟩,
 ⟨(some 32), .pick (.tmp 28) (.tmp 31) (.const (.bool false)), none⟩,
 ⟨(some 2), .mov (.tmp 32), none⟩]) (
 .ret)))))))))
theorem r3 : Runs Tryz.prog 3 m3.strip [.mov (.tmp 2)] 33 := ⟨by kernel_rfl, by kernel_rfl, Tryz.f3, Tryz.f3.body.getD .skip, Tryz.func3, by kernel_rfl, by kernel_rfl, by kernel_rfl, by kernel_rfl, by kernel_rfl⟩

def m15 : MC :=
 .seq (
 .reg [⟨(some 1), .box 28 7 (.tmp 0), none⟩,
 ⟨(some 2), .nilsl 49 16, none⟩,
 ⟨(some 3), .mov (.const (.int .i64 0)), none⟩]) (
 .trim [1] [1] [] (
 .fzb 1 (
 .seq (
 .seq (
 .reg [⟨(some 6), .load (some 7) (.tmp 1), none⟩,
 ⟨(some 7), .call (.func 46) [(.tmp 6)] .pure, none⟩,
 ⟨(some 8), .un .not (.tmp 7), none⟩]) (
 .trim [1, 8] [1] [] (
 .cond (.tmp 8) (
 .seq (
 .reg [⟨(some 2), .nilsl 49 16, none⟩,
 ⟨(some 3), .mov (.const (.int .i64 2)), none⟩]) (
 .ret)) (
 .skip)))) (
 .trim [1] [1] [] (
 .seq (
 .reg [⟨(some 10), .load (some 7) (.tmp 1), none⟩,
 ⟨(some 11), .call (.func 47) [(.tmp 10), (.const (.bool false))] .pure, none⟩,
 ⟨(some 9), .mov (.tmp 11), none⟩,
 ⟨(some 12), .ext (.tmp 9) 0, none⟩,
 ⟨(some 13), .ext (.tmp 9) 1, none⟩,
 ⟨(some 4), .mov (.tmp 12), none⟩,
 ⟨(some 5), .mov (.tmp 13), none⟩]) (
 .trim [4, 5] [] [] (
 .seq (
 .seq (
 .reg [⟨(some 14), .mov (.tmp 5), none⟩,
 ⟨(some 15), .un .not (.tmp 14), none⟩,
 ⟨(some 16), .mov (.tmp 15), none⟩,
 ⟨(some 17), .mov (.tmp 4), (some (16, false))⟩,
 ⟨(some 18), .call (.func 19) [(.tmp 17)] .pure, (some (16, false))⟩,
 ⟨(some 19), .un .not (.tmp 18), (some (16, false))⟩,
 ⟨(some 20), .pick (.tmp 16) (.const (.bool true)) (.tmp 19), none⟩]) (
 .trim [4, 20] [] [] (
 .cond (.tmp 20) (
 .seq (
 .reg [⟨(some 2), .nilsl 49 16, none⟩,
 ⟨(some 3), .mov (.const (.int .i64 4)), none⟩]) (
 .ret)) (
 .skip)))) (
 .trim [4] [] [] (
 .seq (
 .reg [⟨(some 21), .mov (.tmp 4), none⟩,
 ⟨(some 2), .mov (.tmp 21), none⟩,
 ⟨(some 3), .mov (.const (.int .i64 0)), none⟩]) (
 .ret))))))))))
theorem r15 : Runs Tryz.prog 15 m15.strip [.mov (.tmp 2), .mov (.tmp 3)] 22 := ⟨by kernel_rfl, by kernel_rfl, Tryz.f15, Tryz.f15.body.getD .skip, Tryz.func15, by kernel_rfl, by kernel_rfl, by kernel_rfl, by kernel_rfl, by kernel_rfl⟩

def m47 : MC :=
 .seq (
 .reg [⟨(some 2), .box 28 7 (.tmp 0), none⟩,
 ⟨(some 4), .nilsl 49 16, none⟩,
 ⟨(some 5), .mov (.const (.bool false)), none⟩]) (
 .trim [1, 2] [2] [] (
 .fzb 2 (
 .seq (
 .seq (
 .reg [⟨(some 15), .faddr 0 (.tmp 2), none⟩,
 ⟨(some 16), .load none (.tmp 15), none⟩]) (
 .trim [1, 2, 16] [2] [] (
 .block 0 (
 .seq (
 .reg [⟨(some 18), .bin .eql (.tmp 16) (.const (.int .i64 1)), none⟩,
 ⟨(some 17), .mov (.tmp 18), none⟩]) (
 .trim [1, 2, 16, 17] [2] [] (
 .cond (.tmp 17) (
 .seq (
 .reg [⟨(some 19), .call (.func 93) [] .pure, none⟩,
 ⟨(some 6), .alloc 49 [(.val (.bool false)), (.sl none []), (.val (.bool false)), (.sl none []), (.val (.bool false)), (.sl none []), (.val (.bool false)), (.sl none []), (.val (.bool false)), (.sl none []), (.val (.bool false)), (.sl none []), (.val (.bool false)), (.sl none []), (.val (.bool false)), (.sl none [])], none⟩,
 ⟨none, .store 16 (.tmp 6) (.tmp 19), none⟩]) (
 .trim [1, 2, 6] [2, 6] [] (
 .seq (
 .reg [⟨(some 20), .faddr 1 (.tmp 2), none⟩,
 ⟨(some 21), .load none (.tmp 20), none⟩,
 ⟨(some 22), .faddr 2 (.tmp 2), none⟩,
 ⟨(some 23), .load (some 4) (.tmp 22), none⟩,
 ⟨(some 24), .iaddrA 4 4 (.tmp 6) (.tmp 21), none⟩,
 ⟨none, .store 4 (.tmp 24) (.tmp 23), none⟩]) (
 .trim [1, 2, 6] [2, 6] [] (
 .seq (
 .seq (
 .reg [⟨(some 25), .mov (.tmp 1), none⟩]) (
 .trim [2, 6, 25] [2, 6] [] (
 .cond (.tmp 25) (
 .dreg 6 [⟨(some 26), .faddr 1 (.tmp 2), none⟩,
 ⟨(some 27), .load none (.tmp 26), none⟩,
 ⟨(some 28), .faddr 2 (.tmp 2), none⟩,
 ⟨(some 29), .load (some 4) (.tmp 28), none⟩,
 ⟨(some 30), .call (.func 94) [(.tmp 29)] .pure, none⟩,
 ⟨(some 31), .iaddrA 4 4 (.tmp 6) (.tmp 27), none⟩,
 ⟨none, .store 4 (.tmp 31) (.tmp 30), none⟩]) (
 .skip)))) (
 .trim [6] [6] [] (
 .seq (
 .reg [⟨(some 32), .load (some 16) (.tmp 6), none⟩,
 ⟨(some 33), .bslice 49 16 [(.val (.bool false)), (.sl none []), (.val (.bool false)), (.sl none []), (.val (.bool false)), (.sl none []), (.val (.bool false)), (.sl none []), (.val (.bool false)), (.sl none []), (.val (.bool false)), (.sl none []), (.val (.bool false)), (.sl none []), (.val (.bool false)), (.sl none [])] 1 [(0, 16, (.tmp 32))], none⟩,
 ⟨(some 34), .call (.func 55) [(.tmp 33)] .pure, none⟩,
 ⟨(some 4), .mov (.tmp 34), none⟩,
 ⟨(some 5), .mov (.const (.bool true)), none⟩]) (
 .ret)))))))) (
 .seq (
 .reg [⟨(some 36), .bin .eql (.tmp 16) (.const (.int .i64 4)), none⟩,
 ⟨(some 35), .mov (.tmp 36), none⟩]) (
 .trim [1, 2, 35] [2] [] (
 .cond (.tmp 35) (
 .seq (
 .reg [⟨(some 37), .faddr 6 (.tmp 2), none⟩,
 ⟨(some 38), .load none (.tmp 37), none⟩,
 ⟨(some 39), .iaddrS 7 (.tmp 38) (.const (.int .i64 0)), none⟩,
 ⟨(some 40), .load (some 7) (.tmp 39), none⟩,
 ⟨(some 41), .mov (.tmp 1), none⟩,
 ⟨(some 42), .un .not (.tmp 41), none⟩,
 ⟨(some 43), .call (.func 47) [(.tmp 40), (.tmp 42)] .pure, none⟩,
 ⟨(some 44), .ext (.tmp 43) 0, none⟩,
 ⟨(some 45), .ext (.tmp 43) 1, none⟩,
 ⟨(some 4), .mov (.tmp 44), none⟩,
 ⟨(some 5), .mov (.tmp 45), none⟩]) (
 .ret)) (
 .skip)))))))))) (
 .trim [1, 2] [2] [] (
 .seq (
 .reg [⟨(some 7), .nilsl 49 16, none⟩]) (
 .trim [1, 2, 7] [2] [(7, 49, 16), (63, 49, 16), (12, 49, 16), (109, 49, 16)] (
 .seq (
 .reg [⟨(some 46), .faddr 0 (.tmp 2), none⟩,
 ⟨(some 47), .load none (.tmp 46), none⟩,
 ⟨(some 48), .bin .eql (.tmp 47) (.const (.int .i64 2)), none⟩,
 ⟨(some 49), .mov (.tmp 48), none⟩,
 ⟨(some 50), .mov (.tmp 1), (some (49, true))⟩,
 ⟨(some 51), .un .not (.tmp 50), (some (49, true))⟩,
 ⟨(some 52), .pick (.tmp 49) (.tmp 51) (.const (.bool false)), none⟩,
 ⟨(some 53), .mov (.tmp 52), none⟩,
 ⟨(some 54), .faddr 0 (.tmp 2), (some (53, false))⟩,
 ⟨(some 55), .load none (.tmp 54), (some (53, false))⟩,
 ⟨(some 56), .bin .eql (.tmp 55) (.const (.int .i64 3)), (some (53, false))⟩,
 ⟨(some 57), .mov (.tmp 56), (some (53, false))⟩,
 ⟨(some 58), .mov (.tmp 1), (some (57, true))⟩,
 ⟨(some 59), .pick (.tmp 57) (.tmp 58) (.const (.bool false)), (some (53, false))⟩,
 ⟨(some 60), .pick (.tmp 53) (.const (.bool true)) (.tmp 59), none⟩,
 ⟨(some 8), .mov (.tmp 60), none⟩]) (
 .trim [1, 2, 7, 8] [2] [(7, 49, 16), (63, 49, 16), (12, 49, 16), (109, 49, 16)] (
 .seq (
 .seq (
 .reg [⟨(some 61), .mov (.tmp 8), none⟩]) (
 .trim [1, 2, 7, 8, 61] [2] [(7, 49, 16), (63, 49, 16), (12, 49, 16), (109, 49, 16)] (
 .cond (.tmp 61) (
 .reg [⟨(some 62), .call (.func 93) [] .pure, none⟩,
 ⟨(some 63), .bslice 49 16 [(.val (.bool false)), (.sl none []), (.val (.bool false)), (.sl none []), (.val (.bool false)), (.sl none []), (.val (.bool false)), (.sl none []), (.val (.bool false)), (.sl none []), (.val (.bool false)), (.sl none []), (.val (.bool false)), (.sl none []), (.val (.bool false)), (.sl none [])] 1 [(0, 16, (.tmp 62))], none⟩,
 ⟨(some 7), .mov (.tmp 63), none⟩]) (
 .skip)))) (
 .trim [1, 2, 7, 8] [2] [(7, 49, 16), (63, 49, 16), (12, 49, 16), (109, 49, 16)] (
 .seq (
 .seq (
 .reg [⟨(some 9), .mov (.const (.int .i64 0)), none⟩]) (
 .trim [1, 2, 7, 8, 9] [2] [(7, 49, 16), (63, 49, 16), (12, 49, 16), (109, 49, 16)] (
 .fz [7] (
 .trim [1, 2, 7, 8, 9] [2] [] (
 .block 1 (
 .loop (
 .trim [1, 2, 7, 8, 9] [2] [] (
 .seq (
 .seq (
 .reg [⟨(some 64), .mov (.tmp 9), none⟩,
 ⟨(some 65), .faddr 6 (.tmp 2), none⟩,
 ⟨(some 66), .load none (.tmp 65), none⟩,
 ⟨(some 67), .lenL (.tmp 66), none⟩,
 ⟨(some 68), .bin .lss (.tmp 64) (.tmp 67), none⟩]) (
 .trim [1, 2, 7, 8, 9, 68] [2] [(12, 49, 16), (109, 49, 16)] (
 .cond (.tmp 68) (
 .skip) (
 .exit 1)))) (
 .trim [1, 2, 7, 8, 9] [2] [(12, 49, 16), (109, 49, 16)] (
 .seq (
 .block 2 (
 .seq (
 .reg [⟨(some 72), .faddr 6 (.tmp 2), none⟩,
 ⟨(some 73), .load none (.tmp 72), none⟩,
 ⟨(some 74), .mov (.tmp 9), none⟩,
 ⟨(some 75), .iaddrS 7 (.tmp 73) (.tmp 74), none⟩,
 ⟨(some 76), .load (some 7) (.tmp 75), none⟩,
 ⟨(some 77), .mov (.tmp 1), none⟩,
 ⟨(some 78), .call (.func 47) [(.tmp 76), (.tmp 77)] .pure, none⟩,
 ⟨(some 71), .mov (.tmp 78), none⟩,
 ⟨(some 79), .ext (.tmp 71) 0, none⟩,
 ⟨(some 80), .ext (.tmp 71) 1, none⟩,
 ⟨(some 10), .mov (.tmp 79), none⟩,
 ⟨(some 11), .mov (.tmp 80), none⟩]) (
 .trim [1, 2, 7, 8, 9, 10, 11] [2] [(12, 49, 16), (109, 49, 16)] (
 .seq (
 .seq (
 .reg [⟨(some 81), .mov (.tmp 11), none⟩,
 ⟨(some 82), .un .not (.tmp 81), none⟩]) (
 .trim [1, 2, 7, 8, 9, 10, 82] [2] [(12, 49, 16), (109, 49, 16)] (
 .cond (.tmp 82) (
 .seq (
 .reg [⟨(some 4), .nilsl 49 16, none⟩,
 ⟨(some 5), .mov (.const (.bool false)), none⟩]) (
 .ret)) (
 .skip)))) (
 .trim [1, 2, 7, 8, 9, 10] [2] [(12, 49, 16), (109, 49, 16)] (
 .seq (
 .seq (
 .reg [⟨(some 83), .mov (.tmp 8), none⟩]) (
 .trim [1, 2, 7, 8, 9, 10, 83] [2] [(12, 49, 16), (109, 49, 16)] (
 .cond (.tmp 83) (
 .seq (
 .reg [⟨(some 12), .nilsl 49 16, none⟩]) (
 .trim [1, 2, 7, 8, 9, 10, 12] [2] [(109, 49, 16), (12, 49, 16)] (
 .seq (
 .seq (
 .reg [⟨(some 13), .mov (.const (.int .i64 0)), none⟩]) (
 .trim [1, 2, 7, 8, 9, 10, 12, 13] [2] [(109, 49, 16), (12, 49, 16)] (
 .block 3 (
 .loop (
 .trim [1, 2, 7, 8, 9, 10, 12, 13] [2] [(109, 49, 16), (12, 49, 16)] (
 .seq (
 .seq (
 .reg [⟨(some 84), .mov (.tmp 13), none⟩,
 ⟨(some 85), .mov (.tmp 7), none⟩,
 ⟨(some 86), .lenL (.tmp 85), none⟩,
 ⟨(some 87), .bin .lss (.tmp 84) (.tmp 86), none⟩]) (
 .trim [1, 2, 7, 8, 9, 10, 12, 13, 87] [2] [(109, 49, 16), (12, 49, 16)] (
 .cond (.tmp 87) (
 .skip) (
 .exit 3)))) (
 .trim [1, 2, 7, 8, 9, 10, 12, 13] [2] [(109, 49, 16), (12, 49, 16)] (
 .seq (
 .block 4 (
 .seq (
 .reg [⟨(some 14), .mov (.const (.int .i64 0)), none⟩]) (
 .trim [1, 2, 7, 8, 9, 10, 12, 13, 14] [2] [(109, 49, 16), (12, 49, 16)] (
 .block 5 (
 .loop (
 .trim [1, 2, 7, 8, 9, 10, 12, 13, 14] [2] [(109, 49, 16), (12, 49, 16)] (
 .seq (
 .seq (
 .reg [⟨(some 90), .mov (.tmp 14), none⟩,
 ⟨(some 91), .mov (.tmp 10), none⟩,
 ⟨(some 92), .lenL (.tmp 91), none⟩,
 ⟨(some 93), .bin .lss (.tmp 90) (.tmp 92), none⟩]) (
 .trim [1, 2, 7, 8, 9, 10, 12, 13, 14, 93] [2] [(109, 49, 16), (12, 49, 16)] (
 .cond (.tmp 93) (
 .skip) (
 .exit 5)))) (
 .trim [1, 2, 7, 8, 9, 10, 12, 13, 14] [2] [(109, 49, 16), (12, 49, 16)] (
 .seq (
 .block 6 (
 .dreg 11 [⟨(some 96), .mov (.tmp 12), none⟩,
 ⟨(some 97), .mov (.tmp 7), none⟩,
 ⟨(some 98), .mov (.tmp 13), none⟩,
 ⟨(some 99), .iaddrS 16 (.tmp 97) (.tmp 98), none⟩,
 ⟨(some 100), .load (some 16) (.tmp 99), none⟩,
 ⟨(some 101), .mov (.tmp 10), none⟩,
 ⟨(some 102), .mov (.tmp 14), none⟩,
 ⟨(some 103), .iaddrS 16 (.tmp 101) (.tmp 102), none⟩,
 ⟨(some 104), .load (some 16) (.tmp 103), none⟩,
 ⟨(some 105), .call (.func 95) [(.tmp 100), (.tmp 104)] .pure, none⟩,
 ⟨(some 106), .bslice 49 16 [(.val (.bool false)), (.sl none []), (.val (.bool false)), (.sl none []), (.val (.bool false)), (.sl none []), (.val (.bool false)), (.sl none []), (.val (.bool false)), (.sl none []), (.val (.bool false)), (.sl none []), (.val (.bool false)), (.sl none []), (.val (.bool false)), (.sl none [])] 1 [(0, 16, (.tmp 105))], none⟩,
 ⟨(some 107), .append 49 16 256 (.tmp 96) (.tmp 106), none⟩,
 ⟨(some 12), .mov (.tmp 107), none⟩])) (
 .trim [1, 2, 7, 8, 9, 10, 12, 13, 14] [2] [(109, 49, 16), (12, 49, 16)] (
 .reg [⟨(some 94), .mov (.tmp 14), none⟩,
 ⟨(some 95), .bin .add (.tmp 94) (.const (.int .i64 1)), none⟩,
 ⟨(some 14), .mov (.tmp 95), none⟩]))))))))))) (
 .trim [1, 2, 7, 8, 9, 10, 12, 13] [2] [(109, 49, 16), (12, 49, 16)] (
 .reg [⟨(some 88), .mov (.tmp 13), none⟩,
 ⟨(some 89), .bin .add (.tmp 88) (.const (.int .i64 1)), none⟩,
 ⟨(some 13), .mov (.tmp 89), none⟩])))))))))) (
 .trim [1, 2, 8, 9, 12] [2] [(12, 49, 16)] (
 .reg [⟨(some 108), .mov (.tmp 12), none⟩,
 ⟨(some 7), .mov (.tmp 108), none⟩]))))) (
 .reg [⟨(some 109), .bslice 49 16 [(.val (.bool false)), (.sl none []), (.val (.bool false)), (.sl none []), (.val (.bool false)), (.sl none []), (.val (.bool false)), (.sl none []), (.val (.bool false)), (.sl none []), (.val (.bool false)), (.sl none []), (.val (.bool false)), (.sl none []), (.val (.bool false)), (.sl none [])] 0 [], none⟩,
 ⟨(some 110), .mov (.tmp 7), none⟩,
 ⟨(some 111), .append 49 16 256 (.tmp 109) (.tmp 110), none⟩,
 ⟨(some 112), .mov (.tmp 10), none⟩,
 ⟨(some 113), .append 49 16 256 (.tmp 111) (.tmp 112), none⟩,
 ⟨(some 7), .mov (.tmp 113), none⟩])))) (
 .trim [1, 2, 7, 8, 9] [2] [(12, 49, 16), (109, 49, 16)] (
 .seq (
 .reg [⟨(some 114), .mov (.tmp 7), none⟩,
 ⟨(some 115), .call (.func 55) [(.tmp 114)] .pure, none⟩,
 ⟨(some 7), .mov (.tmp 115), none⟩]) (
 .trim [1, 2, 7, 8, 9] [2] [(12, 49, 16), (109, 49, 16)] (
 .seq (
 .reg [⟨(some 116), .mov (.tmp 7), none⟩,
 ⟨(some 117), .lenL (.tmp 116), none⟩,
 ⟨(some 118), .bin .gtr (.tmp 117) (.const (.int .i64 16)), none⟩]) (
 .trim [1, 2, 7, 8, 9, 118] [2] [(12, 49, 16), (109, 49, 16)] (
 .cond (.tmp 118) (
 .seq (
 .reg [⟨(some 4), .nilsl 49 16, none⟩,
 ⟨(some 5), .mov (.const (.bool false)), none⟩]) (
 .ret)) (
 .skip))))))))))))) (
 .trim [1, 2, 7, 8, 9] [2] [(12, 49, 16), (109, 49, 16)] (
 .reg [⟨(some 69), .mov (.tmp 9), none⟩,
 ⟨(some 70), .bin .add (.tmp 69) (.const (.int .i64 1)), none⟩,
 ⟨(some 9), .mov (.tmp 70), none⟩])))))))))))) (
 .trim [7] [] [(7, 49, 16), (63, 49, 16), (12, 49, 16), (109, 49, 16)] (
 .seq (
 .reg [⟨(some 119), .mov (.tmp 7), none⟩,
 ⟨(some 4), .mov (.tmp 119), none⟩,
 ⟨(some 5), .mov (.const (.bool true)), none⟩]) (
 .ret))))))))))))))
theorem r47 : Runs Tryz.prog 47 m47.strip [.mov (.tmp 4), .mov (.tmp 5)] 120 := ⟨by kernel_rfl, by kernel_rfl, Tryz.f47, Tryz.f47.body.getD .skip, Tryz.func47, by kernel_rfl, by kernel_rfl, by kernel_rfl, by kernel_rfl, by kernel_rfl⟩

def m93 : MC :=
 .seq (
 .reg [⟨(some 0), .alloc 49 [(.val (.bool false)), (.sl none []), (.val (.bool false)), (.sl none []), (.val (.bool false)), (.sl none []), (.val (.bool false)), (.sl none []), (.val (.bool false)), (.sl none []), (.val (.bool false)), (.sl none []), (.val (.bool false)), (.sl none []), (.val (.bool false)), (.sl none [])], none⟩]) (
 .trim [0] [0] [(3, 114, 2)] (
 .seq (
 .reg [⟨(some 2), .build [(.val (.int .i64 0)), (.val (.int .i64 0))] [(0, 1, (.const (.int .i64 (-9223372036854775808)))), (1, 1, (.const (.int .i64 9223372036854775807)))], none⟩,
 ⟨(some 3), .bslice 114 2 [(.val (.int .i64 0)), (.val (.int .i64 0))] 1 [(0, 2, (.tmp 2))], none⟩,
 ⟨(some 4), .build [(.val (.bool false)), (.sl none []), (.val (.bool false)), (.sl none [])] [(0, 1, (.const (.bool true))), (1, 1, (.tmp 3)), (2, 1, (.const (.bool true)))], none⟩,
 ⟨(some 1), .alloc 25 [(.val (.bool false)), (.sl none []), (.val (.bool false)), (.sl none [])], none⟩,
 ⟨none, .store 4 (.tmp 1) (.tmp 4), none⟩]) (
 .trim [0, 1] [0, 1] [(3, 114, 2)] (
 .seq (
 .reg [⟨(some 5), .load (some 4) (.tmp 1), none⟩,
 ⟨(some 6), .load (some 4) (.tmp 1), none⟩,
 ⟨(some 7), .load (some 4) (.tmp 1), none⟩,
 ⟨(some 8), .load (some 4) (.tmp 1), none⟩,
 ⟨(some 9), .build [(.val (.bool false)), (.sl none []), (.val (.bool false)), (.sl none []), (.val (.bool false)), (.sl none []), (.val (.bool false)), (.sl none []), (.val (.bool false)), (.sl none []), (.val (.bool false)), (.sl none []), (.val (.bool false)), (.sl none []), (.val (.bool false)), (.sl none [])] [(0, 4, (.tmp 5)), (4, 4, (.tmp 6)), (8, 4, (.tmp 7)), (12, 4, (.tmp 8))], none⟩,
 ⟨none, .store 16 (.tmp 0) (.tmp 9), none⟩]) (
 .ret)))))
theorem r93 : Runs Tryz.prog 93 m93.strip [.load (some 16) (.tmp 0)] 10 := ⟨by kernel_rfl, by kernel_rfl, Tryz.f93, Tryz.f93.body.getD .skip, Tryz.func93, by kernel_rfl, by kernel_rfl, by kernel_rfl, by kernel_rfl, by kernel_rfl⟩

def m94 : MC :=
 .seq (
 .reg [⟨(some 1), .box 25 4 (.tmp 0), none⟩,
 ⟨(some 2), .alloc 25 [(.val (.bool false)), (.sl none []), (.val (.bool false)), (.sl none [])], none⟩]) (
 .trim [1, 2] [1, 2] [(13, 9, 1)] (
 .seq (
 .dreg2 [(⟨(some 7), .faddr 0 (.tmp 1), none⟩, .q),
 (⟨(some 8), .load none (.tmp 7), none⟩, .q),
 (⟨(some 9), .un .not (.tmp 8), none⟩, .q),
 (⟨(some 10), .faddr 2 (.tmp 1), none⟩, .q),
 (⟨(some 11), .load none (.tmp 10), none⟩, .q),
 (⟨(some 12), .un .not (.tmp 11), none⟩, .q),
 (⟨(some 13), .bslice 9 1 [(.val (.string ⟨#[]⟩))] 0 [], none⟩, .s),
 (⟨(some 14), .faddr 3 (.tmp 1), none⟩, .q),
 (⟨(some 15), .load none (.tmp 14), none⟩, .q),
 (⟨(some 16), .append 9 1 16 (.tmp 13) (.tmp 15), none⟩, .s),
 (⟨(some 17), .build [(.val (.bool false)), (.val (.slice none 0 0)), (.val (.bool false)), (.sl none [])] [(0, 1, (.tmp 9)), (2, 1, (.tmp 12)), (3, 1, (.tmp 16))], none⟩, .s),
 (⟨(some 3), .alloc 25 [(.val (.bool false)), (.val (.slice none 0 0)), (.val (.bool false)), (.sl none [])], none⟩, .a),
 (⟨none, .store 4 (.tmp 3) (.tmp 17), none⟩, .h)]) (
 .trim [1, 2, 3] [1, 2, 3] [(13, 9, 1)] (
 .own 3 [(1, (3, 114, 2))] (
 .seq (
 .reg [⟨(some 4), .mov (.const (.int .i64 (-9223372036854775808))), none⟩]) (
 .trim [1, 2, 3, 4] [1, 2, 3] [(13, 9, 1), (3, 114, 2)] (
 .seq (
 .reg [⟨(some 5), .mov (.const (.bool true)), none⟩]) (
 .trim [1, 2, 3, 4, 5] [1, 2, 3] [(13, 9, 1), (3, 114, 2)] (
 .seq (
 .seq (
 .reg [⟨(some 6), .mov (.const (.int .i64 0)), none⟩]) (
 .trim [1, 2, 3, 4, 5, 6] [1, 2, 3] [(13, 9, 1), (3, 114, 2)] (
 .block 0 (
 .loop (
 .trim [1, 2, 3, 4, 5, 6] [1, 2, 3] [(13, 9, 1), (3, 114, 2)] (
 .seq (
 .seq (
 .reg [⟨(some 18), .mov (.tmp 6), none⟩,
 ⟨(some 19), .faddr 1 (.tmp 1), none⟩,
 ⟨(some 20), .load none (.tmp 19), none⟩,
 ⟨(some 21), .lenL (.tmp 20), none⟩,
 ⟨(some 22), .bin .lss (.tmp 18) (.tmp 21), none⟩]) (
 .trim [1, 2, 3, 4, 5, 6, 22] [1, 2, 3] [(13, 9, 1), (3, 114, 2)] (
 .cond (.tmp 22) (
 .skip) (
 .exit 0)))) (
 .trim [1, 2, 3, 4, 5, 6] [1, 2, 3] [(13, 9, 1), (3, 114, 2)] (
 .seq (
 .block 1 (
 .seq (
 .seq (
 .reg [⟨(some 25), .faddr 1 (.tmp 1), none⟩,
 ⟨(some 26), .load none (.tmp 25), none⟩,
 ⟨(some 27), .mov (.tmp 6), none⟩,
 ⟨(some 28), .iaddrS 2 (.tmp 26) (.tmp 27), none⟩,
 ⟨(some 29), .faddr 0 (.tmp 28), none⟩,
 ⟨(some 30), .load none (.tmp 29), none⟩,
 ⟨(some 31), .mov (.tmp 4), none⟩,
 ⟨(some 32), .bin .gtr (.tmp 30) (.tmp 31), none⟩]) (
 .trim [1, 2, 3, 4, 5, 6, 32] [1, 2, 3] [(13, 9, 1), (3, 114, 2)] (
 .cond (.tmp 32) (
 .dreg 12 [⟨(some 33), .faddr 1 (.tmp 3), none⟩,
 ⟨(some 34), .load none (.tmp 33), none⟩,
 ⟨(some 35), .mov (.tmp 4), none⟩,
 ⟨(some 36), .faddr 1 (.tmp 1), none⟩,
 ⟨(some 37), .load none (.tmp 36), none⟩,
 ⟨(some 38), .mov (.tmp 6), none⟩,
 ⟨(some 39), .iaddrS 2 (.tmp 37) (.tmp 38), none⟩,
 ⟨(some 40), .faddr 0 (.tmp 39), none⟩,
 ⟨(some 41), .load none (.tmp 40), none⟩,
 ⟨(some 42), .bin .sub (.tmp 41) (.const (.int .i64 1)), none⟩,
 ⟨(some 43), .build [(.val (.int .i64 0)), (.val (.int .i64 0))] [(0, 1, (.tmp 35)), (1, 1, (.tmp 42))], none⟩,
 ⟨(some 44), .bslice 114 2 [(.val (.int .i64 0)), (.val (.int .i64 0))] 1 [(0, 2, (.tmp 43))], none⟩,
 ⟨(some 45), .append 114 2 16 (.tmp 34) (.tmp 44), none⟩,
 ⟨(some 46), .faddr 1 (.tmp 3), none⟩,
 ⟨none, .store 1 (.tmp 46) (.tmp 45), none⟩]) (
 .skip)))) (
 .trim [1, 2, 3, 4, 5, 6] [1, 2, 3] [(13, 9, 1), (3, 114, 2)] (
 .seq (
 .reg [⟨(some 47), .faddr 1 (.tmp 1), none⟩,
 ⟨(some 48), .load none (.tmp 47), none⟩,
 ⟨(some 49), .mov (.tmp 6), none⟩,
 ⟨(some 50), .iaddrS 2 (.tmp 48) (.tmp 49), none⟩,
 ⟨(some 51), .faddr 1 (.tmp 50), none⟩,
 ⟨(some 52), .load none (.tmp 51), none⟩,
 ⟨(some 53), .bin .eql (.tmp 52) (.const (.int .i64 9223372036854775807)), none⟩]) (
 .trim [1, 2, 3, 4, 5, 6, 53] [1, 2, 3] [(13, 9, 1), (3, 114, 2)] (
 .cond (.tmp 53) (
 .reg [⟨(some 5), .mov (.const (.bool false)), none⟩]) (
 .reg [⟨(some 54), .faddr 1 (.tmp 1), none⟩,
 ⟨(some 55), .load none (.tmp 54), none⟩,
 ⟨(some 56), .mov (.tmp 6), none⟩,
 ⟨(some 57), .iaddrS 2 (.tmp 55) (.tmp 56), none⟩,
 ⟨(some 58), .faddr 1 (.tmp 57), none⟩,
 ⟨(some 59), .load none (.tmp 58), none⟩,
 ⟨(some 60), .bin .add (.tmp 59) (.const (.int .i64 1)), none⟩,
 ⟨(some 4), .mov (.tmp 60), none⟩]))))))) (
 .trim [1, 2, 3, 4, 5, 6] [1, 2, 3] [(13, 9, 1), (3, 114, 2)] (
 .reg [⟨(some 23), .mov (.tmp 6), none⟩,
 ⟨(some 24), .bin .add (.tmp 23) (.const (.int .i64 1)), none⟩,
 ⟨(some 6), .mov (.tmp 24), none⟩])))))))))) (
 .trim [2, 3, 4, 5] [2, 3] [(13, 9, 1), (3, 114, 2)] (
 .seq (
 .seq (
 .reg [⟨(some 61), .mov (.tmp 5), none⟩]) (
 .trim [2, 3, 4, 61] [2, 3] [(13, 9, 1), (3, 114, 2)] (
 .cond (.tmp 61) (
 .reg [⟨(some 62), .faddr 1 (.tmp 3), none⟩,
 ⟨(some 63), .load none (.tmp 62), none⟩,
 ⟨(some 64), .mov (.tmp 4), none⟩,
 ⟨(some 65), .build [(.val (.int .i64 0)), (.val (.int .i64 0))] [(0, 1, (.tmp 64)), (1, 1, (.const (.int .i64 9223372036854775807)))], none⟩,
 ⟨(some 66), .bslice 114 2 [(.val (.int .i64 0)), (.val (.int .i64 0))] 1 [(0, 2, (.tmp 65))], none⟩,
 ⟨(some 67), .append 114 2 16 (.tmp 63) (.tmp 66), none⟩,
 ⟨(some 68), .faddr 1 (.tmp 3), none⟩,
 ⟨none, .store 1 (.tmp 68) (.tmp 67), none⟩]) (
 .skip)))) (
 .trim [2, 3] [2, 3] [(13, 9, 1), (3, 114, 2)] (
 .seq (
 .reg [⟨(some 69), .load (some 4) (.tmp 3), none⟩,
 ⟨none, .store 4 (.tmp 2) (.tmp 69), none⟩]) (
 .fzb 2 (
 .ret)))))))))))))))
theorem r94 : Runs Tryz.prog 94 m94.strip [.load (some 4) (.tmp 2)] 70 := ⟨by kernel_rfl, by kernel_rfl, Tryz.f94, Tryz.f94.body.getD .skip, Tryz.func94, by kernel_rfl, by kernel_rfl, by kernel_rfl, by kernel_rfl, by kernel_rfl⟩

def m95 : MC :=
 .seq (
 .reg [⟨(some 2), .box 49 16 (.tmp 0), none⟩,
 ⟨(some 3), .box 49 16 (.tmp 1), none⟩,
 ⟨(some 4), .alloc 49 [(.val (.bool false)), (.sl none []), (.val (.bool false)), (.sl none []), (.val (.bool false)), (.sl none []), (.val (.bool false)), (.sl none []), (.val (.bool false)), (.sl none []), (.val (.bool false)), (.sl none []), (.val (.bool false)), (.sl none []), (.val (.bool false)), (.sl none [])], none⟩]) (
 .trim [2, 3, 4] [2, 3, 4] [] (
 .seq (
 .seq (
 .reg [⟨(some 5), .mov (.const (.int .i64 0)), none⟩]) (
 .trim [2, 3, 4, 5] [2, 3, 4] [] (
 .block 0 (
 .loop (
 .trim [2, 3, 4, 5] [2, 3, 4] [] (
 .seq (
 .seq (
 .reg [⟨(some 6), .mov (.tmp 5), none⟩,
 ⟨(some 7), .bin .lss (.tmp 6) (.const (.int .i64 4)), none⟩]) (
 .trim [2, 3, 4, 5, 7] [2, 3, 4] [] (
 .cond (.tmp 7) (
 .skip) (
 .exit 0)))) (
 .trim [2, 3, 4, 5] [2, 3, 4] [] (
 .seq (
 .block 1 (
 .dreg 9 [⟨(some 10), .mov (.tmp 5), none⟩,
 ⟨(some 11), .mov (.tmp 5), none⟩,
 ⟨(some 12), .iaddrA 4 4 (.tmp 2) (.tmp 11), none⟩,
 ⟨(some 13), .load (some 4) (.tmp 12), none⟩,
 ⟨(some 14), .mov (.tmp 5), none⟩,
 ⟨(some 15), .iaddrA 4 4 (.tmp 3) (.tmp 14), none⟩,
 ⟨(some 16), .load (some 4) (.tmp 15), none⟩,
 ⟨(some 17), .call (.func 133) [(.tmp 13), (.tmp 16)] .pure, none⟩,
 ⟨(some 18), .iaddrA 4 4 (.tmp 2) (.tmp 10), none⟩,
 ⟨none, .store 4 (.tmp 18) (.tmp 17), none⟩])) (
 .trim [2, 3, 4, 5] [2, 3, 4] [] (
 .reg [⟨(some 8), .mov (.tmp 5), none⟩,
 ⟨(some 9), .bin .add (.tmp 8) (.const (.int .i64 1)), none⟩,
 ⟨(some 5), .mov (.tmp 9), none⟩])))))))))) (
 .trim [2, 4] [2, 4] [] (
 .seq (
 .reg [⟨(some 19), .load (some 16) (.tmp 2), none⟩,
 ⟨none, .store 16 (.tmp 4) (.tmp 19), none⟩]) (
 .ret)))))
theorem r95 : Runs Tryz.prog 95 m95.strip [.load (some 16) (.tmp 4)] 20 := ⟨by kernel_rfl, by kernel_rfl, Tryz.f95, Tryz.f95.body.getD .skip, Tryz.func95, by kernel_rfl, by kernel_rfl, by kernel_rfl, by kernel_rfl, by kernel_rfl⟩

def m133 : MC :=
 .seq (
 .reg [⟨(some 2), .box 25 4 (.tmp 0), none⟩,
 ⟨(some 3), .box 25 4 (.tmp 1), none⟩,
 ⟨(some 4), .alloc 25 [(.val (.bool false)), (.sl none []), (.val (.bool false)), (.sl none [])], none⟩]) (
 .trim [2, 3, 4] [2, 3, 4] [] (
 .seq (
 .reg [⟨(some 13), .faddr 0 (.tmp 2), none⟩,
 ⟨(some 14), .load none (.tmp 13), none⟩,
 ⟨(some 15), .mov (.tmp 14), none⟩,
 ⟨(some 16), .faddr 0 (.tmp 3), (some (15, true))⟩,
 ⟨(some 17), .load none (.tmp 16), (some (15, true))⟩,
 ⟨(some 18), .pick (.tmp 15) (.tmp 17) (.const (.bool false)), none⟩,
 ⟨(some 19), .faddr 2 (.tmp 2), none⟩,
 ⟨(some 20), .load none (.tmp 19), none⟩,
 ⟨(some 21), .mov (.tmp 20), none⟩,
 ⟨(some 22), .faddr 2 (.tmp 3), (some (21, true))⟩,
 ⟨(some 23), .load none (.tmp 22), (some (21, true))⟩,
 ⟨(some 24), .pick (.tmp 21) (.tmp 23) (.const (.bool false)), none⟩,
 ⟨(some 25), .build [(.val (.bool false)), (.val (.slice none 0 0)), (.val (.bool false)), (.val (.slice none 0 0))] [(0, 1, (.tmp 18)), (2, 1, (.tmp 24))], none⟩,
 ⟨(some 5), .alloc 25 [(.val (.bool false)), (.val (.slice none 0 0)), (.val (.bool false)), (.val (.slice none 0 0))], none⟩,
 ⟨none, .store 4 (.tmp 5) (.tmp 25), none⟩]) (
 .trim [2, 3, 4, 5] [2, 3, 4, 5] [] (
 .own 5 [(1, (5, 114, 2)), (3, (5, 9, 1))] (
 .seq (
 .seq (
 .reg [⟨(some 6), .mov (.const (.int .i64 0)), none⟩]) (
 .trim [2, 3, 4, 5, 6] [2, 3, 4, 5] [(5, 114, 2), (5, 9, 1)] (
 .block 0 (
 .loop (
 .trim [2, 3, 4, 5, 6] [2, 3, 4, 5] [(5, 114, 2), (5, 9, 1)] (
 .seq (
 .seq (
 .reg [⟨(some 26), .mov (.tmp 6), none⟩,
 ⟨(some 27), .faddr 1 (.tmp 2), none⟩,
 ⟨(some 28), .load none (.tmp 27), none⟩,
 ⟨(some 29), .lenL (.tmp 28), none⟩,
 ⟨(some 30), .bin .lss (.tmp 26) (.tmp 29), none⟩]) (
 .trim [2, 3, 4, 5, 6, 30] [2, 3, 4, 5] [(5, 114, 2), (5, 9, 1)] (
 .cond (.tmp 30) (
 .skip) (
 .exit 0)))) (
 .trim [2, 3, 4, 5, 6] [2, 3, 4, 5] [(5, 114, 2), (5, 9, 1)] (
 .seq (
 .block 1 (
 .seq (
 .reg [⟨(some 7), .mov (.const (.int .i64 0)), none⟩]) (
 .trim [2, 3, 4, 5, 6, 7] [2, 3, 4, 5] [(5, 114, 2), (5, 9, 1)] (
 .block 2 (
 .loop (
 .trim [2, 3, 4, 5, 6, 7] [2, 3, 4, 5] [(5, 114, 2), (5, 9, 1)] (
 .seq (
 .seq (
 .reg [⟨(some 33), .mov (.tmp 7), none⟩,
 ⟨(some 34), .faddr 1 (.tmp 3), none⟩,
 ⟨(some 35), .load none (.tmp 34), none⟩,
 ⟨(some 36), .lenL (.tmp 35), none⟩,
 ⟨(some 37), .bin .lss (.tmp 33) (.tmp 36), none⟩]) (
 .trim [2, 3, 4, 5, 6, 7, 37] [2, 3, 4, 5] [(5, 114, 2), (5, 9, 1)] (
 .cond (.tmp 37) (
 .skip) (
 .exit 2)))) (
 .trim [2, 3, 4, 5, 6, 7] [2, 3, 4, 5] [(5, 114, 2), (5, 9, 1)] (
 .seq (
 .block 3 (
 .seq (
 .dreg 28 [⟨(some 40), .faddr 1 (.tmp 2), none⟩,
 ⟨(some 41), .load none (.tmp 40), none⟩,
 ⟨(some 42), .mov (.tmp 6), none⟩,
 ⟨(some 43), .iaddrS 2 (.tmp 41) (.tmp 42), none⟩,
 ⟨(some 44), .faddr 0 (.tmp 43), none⟩,
 ⟨(some 45), .load none (.tmp 44), none⟩,
 ⟨(some 46), .faddr 1 (.tmp 3), none⟩,
 ⟨(some 47), .load none (.tmp 46), none⟩,
 ⟨(some 48), .mov (.tmp 7), none⟩,
 ⟨(some 49), .iaddrS 2 (.tmp 47) (.tmp 48), none⟩,
 ⟨(some 50), .faddr 0 (.tmp 49), none⟩,
 ⟨(some 51), .load none (.tmp 50), none⟩,
 ⟨(some 52), .minmax true [(.tmp 45), (.tmp 51)], none⟩,
 ⟨(some 53), .faddr 1 (.tmp 2), none⟩,
 ⟨(some 54), .load none (.tmp 53), none⟩,
 ⟨(some 55), .mov (.tmp 6), none⟩,
 ⟨(some 56), .iaddrS 2 (.tmp 54) (.tmp 55), none⟩,
 ⟨(some 57), .faddr 1 (.tmp 56), none⟩,
 ⟨(some 58), .load none (.tmp 57), none⟩,
 ⟨(some 59), .faddr 1 (.tmp 3), none⟩,
 ⟨(some 60), .load none (.tmp 59), none⟩,
 ⟨(some 61), .mov (.tmp 7), none⟩,
 ⟨(some 62), .iaddrS 2 (.tmp 60) (.tmp 61), none⟩,
 ⟨(some 63), .faddr 1 (.tmp 62), none⟩,
 ⟨(some 64), .load none (.tmp 63), none⟩,
 ⟨(some 65), .minmax false [(.tmp 58), (.tmp 64)], none⟩,
 ⟨(some 8), .mov (.tmp 52), none⟩,
 ⟨(some 9), .mov (.tmp 65), none⟩]) (
 .trim [2, 3, 4, 5, 6, 7, 8, 9] [2, 3, 4, 5] [(5, 114, 2), (5, 9, 1)] (
 .seq (
 .reg [⟨(some 66), .mov (.tmp 8), none⟩,
 ⟨(some 67), .mov (.tmp 9), none⟩,
 ⟨(some 68), .bin .leq (.tmp 66) (.tmp 67), none⟩]) (
 .trim [2, 3, 4, 5, 6, 7, 8, 9, 68] [2, 3, 4, 5] [(5, 114, 2), (5, 9, 1)] (
 .cond (.tmp 68) (
 .reg [⟨(some 69), .faddr 1 (.tmp 5), none⟩,
 ⟨(some 70), .load none (.tmp 69), none⟩,
 ⟨(some 71), .mov (.tmp 8), none⟩,
 ⟨(some 72), .mov (.tmp 9), none⟩,
 ⟨(some 73), .build [(.val (.int .i64 0)), (.val (.int .i64 0))] [(0, 1, (.tmp 71)), (1, 1, (.tmp 72))], none⟩,
 ⟨(some 74), .bslice 114 2 [(.val (.int .i64 0)), (.val (.int .i64 0))] 1 [(0, 2, (.tmp 73))], none⟩,
 ⟨(some 75), .append 114 2 16 (.tmp 70) (.tmp 74), none⟩,
 ⟨(some 76), .faddr 1 (.tmp 5), none⟩,
 ⟨none, .store 1 (.tmp 76) (.tmp 75), none⟩]) (
 .skip))))))) (
 .trim [2, 3, 4, 5, 6, 7] [2, 3, 4, 5] [(5, 114, 2), (5, 9, 1)] (
 .reg [⟨(some 38), .mov (.tmp 7), none⟩,
 ⟨(some 39), .bin .add (.tmp 38) (.const (.int .i64 1)), none⟩,
 ⟨(some 7), .mov (.tmp 39), none⟩]))))))))))) (
 .trim [2, 3, 4, 5, 6] [2, 3, 4, 5] [(5, 114, 2), (5, 9, 1)] (
 .reg [⟨(some 31), .mov (.tmp 6), none⟩,
 ⟨(some 32), .bin .add (.tmp 31) (.const (.int .i64 1)), none⟩,
 ⟨(some 6), .mov (.tmp 32), none⟩])))))))))) (
 .trim [2, 3, 4, 5] [2, 3, 4, 5] [(5, 114, 2), (5, 9, 1)] (
 .seq (
 .reg [⟨(some 77), .faddr 3 (.tmp 2), none⟩,
 ⟨(some 78), .load none (.tmp 77), none⟩,
 ⟨(some 79), .faddr 3 (.tmp 3), none⟩,
 ⟨(some 80), .load none (.tmp 79), none⟩,
 ⟨(some 81), .call (.func 153) [(.tmp 78), (.tmp 80)] .pure, none⟩,
 ⟨(some 10), .mov (.tmp 81), none⟩]) (
 .trim [2, 3, 4, 5, 10] [2, 3, 4, 5] [(5, 114, 2), (5, 9, 1)] (
 .seq (
 .seq (
 .reg [⟨(some 11), .mov (.const (.int .i64 0)), none⟩]) (
 .trim [2, 3, 4, 5, 10, 11] [2, 3, 4, 5] [(5, 114, 2), (5, 9, 1)] (
 .block 4 (
 .loop (
 .trim [2, 3, 4, 5, 10, 11] [2, 3, 4, 5] [(5, 114, 2), (5, 9, 1)] (
 .seq (
 .seq (
 .reg [⟨(some 82), .mov (.tmp 11), none⟩,
 ⟨(some 83), .mov (.tmp 10), none⟩,
 ⟨(some 84), .lenL (.tmp 83), none⟩,
 ⟨(some 85), .bin .lss (.tmp 82) (.tmp 84), none⟩]) (
 .trim [2, 3, 4, 5, 10, 11, 85] [2, 3, 4, 5] [(5, 114, 2), (5, 9, 1)] (
 .cond (.tmp 85) (
 .skip) (
 .exit 4)))) (
 .trim [2, 3, 4, 5, 10, 11] [2, 3, 4, 5] [(5, 114, 2), (5, 9, 1)] (
 .seq (
 .block 5 (
 .seq (
 .dreg 23 [⟨(some 88), .faddr 3 (.tmp 2), none⟩,
 ⟨(some 89), .load none (.tmp 88), none⟩,
 ⟨(some 90), .mov (.tmp 10), none⟩,
 ⟨(some 91), .mov (.tmp 11), none⟩,
 ⟨(some 92), .iaddrS 1 (.tmp 90) (.tmp 91), none⟩,
 ⟨(some 93), .load none (.tmp 92), none⟩,
 ⟨(some 94), .call (.func 138) [(.tmp 89), (.tmp 93)] .pure, none⟩,
 ⟨(some 95), .faddr 2 (.tmp 2), none⟩,
 ⟨(some 96), .load none (.tmp 95), none⟩,
 ⟨(some 97), .binB true (.tmp 94) (.tmp 96), none⟩,
 ⟨(some 98), .mov (.tmp 97), none⟩,
 ⟨(some 99), .faddr 3 (.tmp 3), (some (98, true))⟩,
 ⟨(some 100), .load none (.tmp 99), (some (98, true))⟩,
 ⟨(some 101), .mov (.tmp 10), (some (98, true))⟩,
 ⟨(some 102), .mov (.tmp 11), (some (98, true))⟩,
 ⟨(some 103), .iaddrS 1 (.tmp 101) (.tmp 102), (some (98, true))⟩,
 ⟨(some 104), .load none (.tmp 103), (some (98, true))⟩,
 ⟨(some 105), .call (.func 138) [(.tmp 100), (.tmp 104)] .pure, (some (98, true))⟩,
 ⟨(some 106), .faddr 2 (.tmp 3), (some (98, true))⟩,
 ⟨(some 107), .load none (.tmp 106), (some (98, true))⟩,
 ⟨(some 108), .binB true (.tmp 105) (.tmp 107), (some (98, true))⟩,
 ⟨(some 109), .pick (.tmp 98) (.tmp 108) (.const (.bool false)), none⟩,
 ⟨(some 12), .mov (.tmp 109), none⟩]) (
 .trim [2, 3, 4, 5, 10, 11, 12] [2, 3, 4, 5] [(5, 114, 2), (5, 9, 1)] (
 .seq (
 .reg [⟨(some 110), .mov (.tmp 12), none⟩,
 ⟨(some 111), .faddr 2 (.tmp 5), none⟩,
 ⟨(some 112), .load none (.tmp 111), none⟩,
 ⟨(some 113), .binB true (.tmp 110) (.tmp 112), none⟩]) (
 .trim [2, 3, 4, 5, 10, 11, 113] [2, 3, 4, 5] [(5, 114, 2), (5, 9, 1)] (
 .cond (.tmp 113) (
 .dreg 7 [⟨(some 114), .faddr 3 (.tmp 5), none⟩,
 ⟨(some 115), .load none (.tmp 114), none⟩,
 ⟨(some 116), .mov (.tmp 10), none⟩,
 ⟨(some 117), .mov (.tmp 11), none⟩,
 ⟨(some 118), .iaddrS 1 (.tmp 116) (.tmp 117), none⟩,
 ⟨(some 119), .load none (.tmp 118), none⟩,
 ⟨(some 120), .bslice 9 1 [(.val (.string ⟨#[]⟩))] 1 [(0, 1, (.tmp 119))], none⟩,
 ⟨(some 121), .append 9 1 16 (.tmp 115) (.tmp 120), none⟩,
 ⟨(some 122), .faddr 3 (.tmp 5), none⟩,
 ⟨none, .store 1 (.tmp 122) (.tmp 121), none⟩]) (
 .skip))))))) (
 .trim [2, 3, 4, 5, 10, 11] [2, 3, 4, 5] [(5, 114, 2), (5, 9, 1)] (
 .reg [⟨(some 86), .mov (.tmp 11), none⟩,
 ⟨(some 87), .bin .add (.tmp 86) (.const (.int .i64 1)), none⟩,
 ⟨(some 11), .mov (.tmp 87), none⟩])))))))))) (
 .trim [4, 5] [4, 5] [(5, 114, 2), (5, 9, 1)] (
 .seq (
 .reg [⟨(some 123), .load (some 4) (.tmp 5), none⟩,
 ⟨none, .store 4 (.tmp 4) (.tmp 123), none⟩]) (
 .fzb 4 (
 .ret)))))))))))))
theorem r133 : Runs Tryz.prog 133 m133.strip [.load (some 4) (.tmp 4)] 124 := ⟨by kernel_rfl, by kernel_rfl, Tryz.f133, Tryz.f133.body.getD .skip, Tryz.func133, by kernel_rfl, by kernel_rfl, by kernel_rfl, by kernel_rfl, by kernel_rfl⟩

def m153 : MC :=
 .seq (
 .reg [⟨(some 4), .nilsl 9 1, none⟩]) (
 .trim [0, 1] [] [] (
 .seq (
 .reg [⟨(some 5), .nilsl 9 1, none⟩]) (
 .trim [0, 1, 5] [] [(5, 9, 1)] (
 .seq (
 .reg [⟨(some 6), .mov (.const (.int .i64 0)), none⟩,
 ⟨(some 7), .mov (.const (.int .i64 0)), none⟩]) (
 .trim [0, 1, 5, 6, 7] [] [(5, 9, 1)] (
 .seq (
 .block 0 (
 .loop (
 .trim [0, 1, 5, 6, 7] [] [(5, 9, 1)] (
 .seq (
 .seq (
 .reg [⟨(some 8), .mov (.tmp 6), none⟩,
 ⟨(some 9), .mov (.tmp 0), none⟩,
 ⟨(some 10), .lenL (.tmp 9), none⟩,
 ⟨(some 11), .bin .lss (.tmp 8) (.tmp 10), none⟩,
 ⟨(some 12), .mov (.tmp 11), none⟩,
 ⟨(some 13), .mov (.tmp 7), (some (12, false))⟩,
 ⟨(some 14), .mov (.tmp 1), (some (12, false))⟩,
 ⟨(some 15), .lenL (.tmp 14), (some (12, false))⟩,
 ⟨(some 16), .bin .lss (.tmp 13) (.tmp 15), (some (12, false))⟩,
 ⟨(some 17), .pick (.tmp 12) (.const (.bool true)) (.tmp 16), none⟩]) (
 .trim [0, 1, 5, 6, 7, 17] [] [(5, 9, 1)] (
 .cond (.tmp 17) (
 .skip) (
 .exit 0)))) (
 .trim [0, 1, 5, 6, 7] [] [(5, 9, 1)] (
 .block 1 (
 .seq (
 .dreg 21 [⟨(some 18), .mov (.tmp 7), none⟩,
 ⟨(some 19), .mov (.tmp 1), none⟩,
 ⟨(some 20), .lenL (.tmp 19), none⟩,
 ⟨(some 21), .bin .eql (.tmp 18) (.tmp 20), none⟩,
 ⟨(some 22), .mov (.tmp 21), none⟩,
 ⟨(some 23), .mov (.tmp 6), (some (22, false))⟩,
 ⟨(some 24), .mov (.tmp 0), (some (22, false))⟩,
 ⟨(some 25), .lenL (.tmp 24), (some (22, false))⟩,
 ⟨(some 26), .bin .lss (.tmp 23) (.tmp 25), (some (22, false))⟩,
 ⟨(some 27), .mov (.tmp 26), (some (22, false))⟩,
 ⟨(some 28), .mov (.tmp 0), (some (27, true))⟩,
 ⟨(some 29), .mov (.tmp 6), (some (27, true))⟩,
 ⟨(some 30), .iaddrS 1 (.tmp 28) (.tmp 29), (some (27, true))⟩,
 ⟨(some 31), .load none (.tmp 30), (some (27, true))⟩,
 ⟨(some 32), .mov (.tmp 1), (some (27, true))⟩,
 ⟨(some 33), .mov (.tmp 7), (some (27, true))⟩,
 ⟨(some 34), .iaddrS 1 (.tmp 32) (.tmp 33), (some (27, true))⟩,
 ⟨(some 35), .load none (.tmp 34), (some (27, true))⟩,
 ⟨(some 36), .bin .lss (.tmp 31) (.tmp 35), (some (27, true))⟩,
 ⟨(some 37), .pick (.tmp 27) (.tmp 36) (.const (.bool false)), (some (22, false))⟩,
 ⟨(some 38), .pick (.tmp 22) (.const (.bool true)) (.tmp 37), none⟩]) (
 .trim [0, 1, 5, 6, 7, 38] [] [(5, 9, 1)] (
 .cond (.tmp 38) (
 .seq (
 .reg [⟨(some 39), .mov (.tmp 5), none⟩,
 ⟨(some 40), .mov (.tmp 0), none⟩,
 ⟨(some 41), .mov (.tmp 6), none⟩,
 ⟨(some 42), .iaddrS 1 (.tmp 40) (.tmp 41), none⟩,
 ⟨(some 43), .load none (.tmp 42), none⟩,
 ⟨(some 44), .bslice 9 1 [(.val (.string ⟨#[]⟩))] 1 [(0, 1, (.tmp 43))], none⟩,
 ⟨(some 45), .append 9 1 16 (.tmp 39) (.tmp 44), none⟩,
 ⟨(some 5), .mov (.tmp 45), none⟩]) (
 .trim [0, 1, 5, 6, 7] [] [(5, 9, 1)] (
 .reg [⟨(some 46), .mov (.tmp 6), none⟩,
 ⟨(some 47), .bin .add (.tmp 46) (.const (.int .i64 1)), none⟩,
 ⟨(some 6), .mov (.tmp 47), none⟩]))) (
 .seq (
 .dreg 15 [⟨(some 48), .mov (.tmp 6), none⟩,
 ⟨(some 49), .mov (.tmp 0), none⟩,
 ⟨(some 50), .lenL (.tmp 49), none⟩,
 ⟨(some 51), .bin .eql (.tmp 48) (.tmp 50), none⟩,
 ⟨(some 52), .mov (.tmp 51), none⟩,
 ⟨(some 53), .mov (.tmp 1), (some (52, false))⟩,
 ⟨(some 54), .mov (.tmp 7), (some (52, false))⟩,
 ⟨(some 55), .iaddrS 1 (.tmp 53) (.tmp 54), (some (52, false))⟩,
 ⟨(some 56), .load none (.tmp 55), (some (52, false))⟩,
 ⟨(some 57), .mov (.tmp 0), (some (52, false))⟩,
 ⟨(some 58), .mov (.tmp 6), (some (52, false))⟩,
 ⟨(some 59), .iaddrS 1 (.tmp 57) (.tmp 58), (some (52, false))⟩,
 ⟨(some 60), .load none (.tmp 59), (some (52, false))⟩,
 ⟨(some 61), .bin .lss (.tmp 56) (.tmp 60), (some (52, false))⟩,
 ⟨(some 62), .pick (.tmp 52) (.const (.bool true)) (.tmp 61), none⟩]) (
 .trim [0, 1, 5, 6, 7, 62] [] [(5, 9, 1)] (
 .cond (.tmp 62) (
 .seq (
 .reg [⟨(some 63), .mov (.tmp 5), none⟩,
 ⟨(some 64), .mov (.tmp 1), none⟩,
 ⟨(some 65), .mov (.tmp 7), none⟩,
 ⟨(some 66), .iaddrS 1 (.tmp 64) (.tmp 65), none⟩,
 ⟨(some 67), .load none (.tmp 66), none⟩,
 ⟨(some 68), .bslice 9 1 [(.val (.string ⟨#[]⟩))] 1 [(0, 1, (.tmp 67))], none⟩,
 ⟨(some 69), .append 9 1 16 (.tmp 63) (.tmp 68), none⟩,
 ⟨(some 5), .mov (.tmp 69), none⟩]) (
 .trim [0, 1, 5, 6, 7] [] [(5, 9, 1)] (
 .reg [⟨(some 70), .mov (.tmp 7), none⟩,
 ⟨(some 71), .bin .add (.tmp 70) (.const (.int .i64 1)), none⟩,
 ⟨(some 7), .mov (.tmp 71), none⟩]))) (
 .seq (
 .reg [⟨(some 72), .mov (.tmp 5), none⟩,
 ⟨(some 73), .mov (.tmp 0), none⟩,
 ⟨(some 74), .mov (.tmp 6), none⟩,
 ⟨(some 75), .iaddrS 1 (.tmp 73) (.tmp 74), none⟩,
 ⟨(some 76), .load none (.tmp 75), none⟩,
 ⟨(some 77), .bslice 9 1 [(.val (.string ⟨#[]⟩))] 1 [(0, 1, (.tmp 76))], none⟩,
 ⟨(some 78), .append 9 1 16 (.tmp 72) (.tmp 77), none⟩,
 ⟨(some 5), .mov (.tmp 78), none⟩]) (
 .trim [0, 1, 5, 6, 7] [] [(5, 9, 1)] (
 .seq (
 .reg [⟨(some 79), .mov (.tmp 6), none⟩,
 ⟨(some 80), .bin .add (.tmp 79) (.const (.int .i64 1)), none⟩,
 ⟨(some 6), .mov (.tmp 80), none⟩]) (
 .trim [0, 1, 5, 6, 7] [] [(5, 9, 1)] (
 .reg [⟨(some 81), .mov (.tmp 7), none⟩,
 ⟨(some 82), .bin .add (.tmp 81) (.const (.int .i64 1)), none⟩,
 ⟨(some 7), .mov (.tmp 82), none⟩]))))))))))))))))) (
 .trim [5] [] [(5, 9, 1)] (
 .seq (
 .reg [⟨(some 83), .mov (.tmp 5), none⟩,
 ⟨(some 4), .mov (.tmp 83), none⟩]) (
 .ret)))))))))
theorem r153 : Runs Tryz.prog 153 m153.strip [.mov (.tmp 4)] 84 := ⟨by kernel_rfl, by kernel_rfl, Tryz.f153, Tryz.f153.body.getD .skip, Tryz.func153, by kernel_rfl, by kernel_rfl, by kernel_rfl, by kernel_rfl, by kernel_rfl⟩

end Go.Proofs

