/- The functions, as code of the value machine (printed by program). -/
import Derived.Test.YtipppgiimemloaaGreatVm24
import Derived.Test.YtipppgiimemloaaGreatProg
set_option linter.unusedVariables false
set_option maxRecDepth 2000
namespace Go.Proofs
open Go.Vm
def m10 : MC :=
 .seq (
 .reg [⟨(some 1), .box 42 12 (.tmp 0), none⟩,
 ⟨(some 2), .mov (.const (.bool false)), none⟩]) (
 .trim [1] [1] [] (
 .seq (
 .seq (
 .reg [⟨(some 7), .call (.func 27) [] .pure, none⟩,
 ⟨(some 8), .un .not (.tmp 7), none⟩,
 ⟨(some 9), .mov (.tmp 8), none⟩,
 ⟨(some 10), .iaddrA 4 3 (.tmp 1) (.const (.int .i64 0)), (some (9, false))⟩,
 ⟨(some 11), .faddr 2 (.tmp 10), (some (9, false))⟩,
 ⟨(some 12), .load none (.tmp 11), (some (9, false))⟩,
 ⟨(some 13), .lenS (.tmp 12), (some (9, false))⟩,
 ⟨(some 14), .iaddrA 4 3 (.tmp 1) (.const (.int .i64 1)), (some (9, false))⟩,
 ⟨(some 15), .faddr 2 (.tmp 14), (some (9, false))⟩,
 ⟨(some 16), .load none (.tmp 15), (some (9, false))⟩,
 ⟨(some 17), .lenS (.tmp 16), (some (9, false))⟩,
 ⟨(some 18), .bin .add (.tmp 13) (.tmp 17), (some (9, false))⟩,
 ⟨(some 19), .iaddrA 4 3 (.tmp 1) (.const (.int .i64 2)), (some (9, false))⟩,
 ⟨(some 20), .faddr 2 (.tmp 19), (some (9, false))⟩,
 ⟨(some 21), .load none (.tmp 20), (some (9, false))⟩,
 ⟨(some 22), .lenS (.tmp 21), (some (9, false))⟩,
 ⟨(some 23), .bin .add (.tmp 18) (.tmp 22), (some (9, false))⟩,
 ⟨(some 24), .iaddrA 4 3 (.tmp 1) (.const (.int .i64 3)), (some (9, false))⟩,
 ⟨(some 25), .faddr 2 (.tmp 24), (some (9, false))⟩,
 ⟨(some 26), .load none (.tmp 25), (some (9, false))⟩,
 ⟨(some 27), .lenS (.tmp 26), (some (9, false))⟩,
 ⟨(some 28), .bin .add (.tmp 23) (.tmp 27), (some (9, false))⟩,
 ⟨(some 29), .bin .gtr (.tmp 28) (.const (.int .i64 300)), (some (9, false))⟩,
 ⟨(some 30), .pick (.tmp 9) (.const (.bool true)) (.tmp 29), none⟩]) (
 .trim [1, 30] [1] [] (
 .cond (.tmp 30) (
 .seq (
 .reg [⟨(some 31), .call (.func 27) [] .pure, none⟩,
 ⟨(some 2), .mov (.tmp 31), none⟩]) (
 .ret)) (
 .skip)))) (
 .trim [1] [1] [] (
 .seq (
 .reg [⟨(some 33), .load (some 12) (.tmp 1), none⟩,
 ⟨(some 34), .call (.func 36) [(.tmp 33)] .pure, none⟩,
 ⟨(some 32), .mov (.tmp 34), none⟩,
 ⟨(some 35), .ext (.tmp 32) 0, none⟩,
 ⟨(some 36), .ext (.tmp 32) 1, none⟩,
 ⟨(some 3), .mov (.tmp 35), none⟩,
 ⟨(some 4), .mov (.tmp 36), none⟩]) (
 .trim [1, 3, 4] [1] [] (
 .seq (
 .seq (
 .reg [⟨(some 37), .load (some 12) (.tmp 1), none⟩,
 ⟨(some 38), .call (.func 37) [(.tmp 37)] .pure, none⟩,
 ⟨(some 39), .un .not (.tmp 38), none⟩]) (
 .trim [1, 3, 4, 39] [1] [] (
 .cond (.tmp 39) (
 .seq (
 .reg [⟨(some 40), .mov (.tmp 3), none⟩,
 ⟨(some 41), .bin .eql (.tmp 40) (.const (.string ⟨#[]⟩)), none⟩,
 ⟨(some 42), .mov (.tmp 41), none⟩,
 ⟨(some 43), .mov (.tmp 4), (some (42, true))⟩,
 ⟨(some 44), .bin .eql (.tmp 43) (.const (.int .i64 1)), (some (42, true))⟩,
 ⟨(some 45), .pick (.tmp 42) (.tmp 44) (.const (.bool false)), none⟩,
 ⟨(some 2), .mov (.tmp 45), none⟩]) (
 .ret)) (
 .skip)))) (
 .trim [1, 3, 4] [1] [] (
 .seq (
 .reg [⟨(some 47), .mov (.tmp 3), none⟩,
 ⟨(some 48), .call (.func 33) [(.tmp 47)] .pure, none⟩,
 ⟨(some 46), .mov (.tmp 48), none⟩,
 ⟨(some 49), .ext (.tmp 46) 0, none⟩,
 ⟨(some 50), .ext (.tmp 46) 1, none⟩,
 ⟨(some 5), .alloc 42 [(.val (.int .i64 0)), (.val (.int .i64 0)), (.val (.string ⟨#[]⟩)), (.val (.int .i64 0)), (.val (.int .i64 0)), (.val (.string ⟨#[]⟩)), (.val (.int .i64 0)), (.val (.int .i64 0)), (.val (.string ⟨#[]⟩)), (.val (.int .i64 0)), (.val (.int .i64 0)), (.val (.string ⟨#[]⟩))], none⟩,
 ⟨none, .store 12 (.tmp 5) (.tmp 49), none⟩,
 ⟨(some 6), .mov (.tmp 50), none⟩]) (
 .trim [1, 3, 4, 5, 6] [1, 5] [] (
 .seq (
 .reg [⟨(some 51), .mov (.tmp 4), none⟩,
 ⟨(some 52), .bin .eql (.tmp 51) (.const (.int .i64 0)), none⟩,
 ⟨(some 53), .mov (.tmp 52), none⟩,
 ⟨(some 54), .mov (.tmp 3), (some (53, true))⟩,
 ⟨(some 55), .load (some 12) (.tmp 1), (some (53, true))⟩,
 ⟨(some 56), .call (.func 38) [(.tmp 55)] .pure, (some (53, true))⟩,
 ⟨(some 57), .bin .eql (.tmp 54) (.tmp 56), (some (53, true))⟩,
 ⟨(some 58), .pick (.tmp 53) (.tmp 57) (.const (.bool false)), none⟩,
 ⟨(some 59), .mov (.tmp 58), none⟩,
 ⟨(some 60), .mov (.tmp 6), (some (59, true))⟩,
 ⟨(some 61), .bin .eql (.tmp 60) (.const (.int .i64 0)), (some (59, true))⟩,
 ⟨(some 62), .pick (.tmp 59) (.tmp 61) (.const (.bool false)), none⟩,
 ⟨(some 63), .mov (.tmp 62), none⟩,
 ⟨(some 64), .load (some 12) (.tmp 5), (some (63, true))⟩,
 ⟨(some 65), .load (some 12) (.tmp 1), (some (63, true))⟩,
 ⟨(some 66), .eqs false [.i, .i, .s, .i, .i, .s, .i, .i, .s, .i, .i, .s] (.tmp 64) (.tmp 65), (some (63, true))⟩,
 ⟨(some 67), .pick (.tmp 63) (.tmp 66) (.const (.bool false)), none⟩,
 ⟨(some 2), .mov (.tmp 67), none⟩]) (
 .ret)))))))))))
theorem r10 : Runs Tryz.prog 10 m10.strip [.mov (.tmp 2)] 68 := ⟨by kernel_rfl, by kernel_rfl, Tryz.f10, Tryz.f10.body.getD .skip, Tryz.func10, by kernel_rfl, by kernel_rfl, by kernel_rfl, by kernel_rfl, by kernel_rfl⟩

def m27 : MC :=
 .seq (
 .reg [⟨(some 0), .mov (.const (.bool false)), none⟩]) (
 .trim [] [] [] (
 .seq (
 .reg [⟨(some 12), .call (.func 28) [(.const (.slice none 0 0))] .pure, none⟩,
 ⟨(some 11), .mov (.tmp 12), none⟩,
 ⟨(some 13), .ext (.tmp 11) 0, none⟩,
 ⟨(some 14), .ext (.tmp 11) 1, none⟩,
 ⟨(some 1), .mov (.tmp 13), none⟩,
 ⟨(some 2), .mov (.tmp 14), none⟩]) (
 .trim [1, 2] [] [] (
 .seq (
 .reg [⟨(some 16), .build [(.val (.int .i64 0)), (.val (.int .i64 0)), (.val (.string ⟨#[]⟩))] [(0, 1, (.const (.int .i64 1))), (1, 1, (.const (.int .i64 1)))], none⟩,
 ⟨(some 17), .build [(.val (.int .i64 0)), (.val (.int .i64 0)), (.val (.string ⟨#[]⟩)), (.val (.int .i64 0)), (.val (.int .i64 0)), (.val (.string ⟨#[]⟩)), (.val (.int .i64 0)), (.val (.int .i64 0)), (.val (.string ⟨#[]⟩)), (.val (.int .i64 0)), (.val (.int .i64 0)), (.val (.string ⟨#[]⟩))] [(0, 3, (.tmp 16))], none⟩,
 ⟨(some 18), .call (.func 36) [(.tmp 17)] .pure, none⟩,
 ⟨(some 15), .mov (.tmp 18), none⟩,
 ⟨(some 19), .ext (.tmp 15) 0, none⟩,
 ⟨(some 20), .ext (.tmp 15) 1, none⟩,
 ⟨(some 3), .mov (.tmp 19), none⟩,
 ⟨(some 4), .mov (.tmp 20), none⟩]) (
 .trim [1, 2, 3, 4] [] [] (
 .seq (
 .reg [⟨(some 22), .build [(.val (.int .i64 0)), (.val (.int .i64 0)), (.val (.string ⟨#[]⟩))] [(0, 1, (.const (.int .i64 3)))], none⟩,
 ⟨(some 23), .build [(.val (.int .i64 0)), (.val (.int .i64 0)), (.val (.string ⟨#[]⟩)), (.val (.int .i64 0)), (.val (.int .i64 0)), (.val (.string ⟨#[]⟩)), (.val (.int .i64 0)), (.val (.int .i64 0)), (.val (.string ⟨#[]⟩)), (.val (.int .i64 0)), (.val (.int .i64 0)), (.val (.string ⟨#[]⟩))] [(0, 3, (.tmp 22))], none⟩,
 ⟨(some 24), .call (.func 36) [(.tmp 23)] .pure, none⟩,
 ⟨(some 21), .mov (.tmp 24), none⟩,
 ⟨(some 25), .ext (.tmp 21) 0, none⟩,
 ⟨(some 26), .ext (.tmp 21) 1, none⟩,
 ⟨(some 5), .mov (.tmp 25), none⟩,
 ⟨(some 6), .mov (.tmp 26), none⟩]) (
 .trim [1, 2, 3, 4, 6] [] [] (
 .seq (
 .reg [⟨(some 28), .call (.func 29) [(.const (.string ⟨#[1]⟩))] .pure, none⟩,
 ⟨(some 27), .mov (.tmp 28), none⟩,
 ⟨(some 29), .ext (.tmp 27) 0, none⟩,
 ⟨(some 30), .ext (.tmp 27) 1, none⟩,
 ⟨(some 7), .mov (.tmp 29), none⟩,
 ⟨(some 8), .mov (.tmp 30), none⟩]) (
 .trim [1, 2, 3, 4, 6, 8] [] [] (
 .seq (
 .reg [⟨(some 32), .mov (.tmp 3), none⟩,
 ⟨(some 33), .call (.func 33) [(.tmp 32)] .pure, none⟩,
 ⟨(some 31), .mov (.tmp 33), none⟩,
 ⟨(some 34), .ext (.tmp 31) 0, none⟩,
 ⟨(some 35), .ext (.tmp 31) 1, none⟩,
 ⟨(some 9), .alloc 42 [(.val (.int .i64 0)), (.val (.int .i64 0)), (.val (.string ⟨#[]⟩)), (.val (.int .i64 0)), (.val (.int .i64 0)), (.val (.string ⟨#[]⟩)), (.val (.int .i64 0)), (.val (.int .i64 0)), (.val (.string ⟨#[]⟩)), (.val (.int .i64 0)), (.val (.int .i64 0)), (.val (.string ⟨#[]⟩))], none⟩,
 ⟨none, .store 12 (.tmp 9) (.tmp 34), none⟩,
 ⟨(some 10), .mov (.tmp 35), none⟩]) (
 .trim [1, 2, 3, 4, 6, 8, 9, 10] [9] [] (
 .seq (
 .reg [⟨(some 36), .mov (.tmp 1), none⟩,
 ⟨(some 37), .bin .eql (.tmp 36) (.const (.string ⟨#[0]⟩)), none⟩,
 ⟨(some 38), .mov (.tmp 37), none⟩,
 ⟨(some 39), .mov (.tmp 2), (some (38, true))⟩,
 ⟨(some 40), .bin .eql (.tmp 39) (.const (.int .i64 0)), (some (38, true))⟩,
 ⟨(some 41), .pick (.tmp 38) (.tmp 40) (.const (.bool false)), none⟩,
 ⟨(some 42), .mov (.tmp 41), none⟩,
 ⟨(some 43), .mov (.tmp 3), (some (42, true))⟩,
 ⟨(some 44), .bin .eql (.tmp 43) (.const (.string ⟨#[1, 2, 0, 0, 0]⟩)), (some (42, true))⟩,
 ⟨(some 45), .pick (.tmp 42) (.tmp 44) (.const (.bool false)), none⟩,
 ⟨(some 46), .mov (.tmp 45), none⟩,
 ⟨(some 47), .mov (.tmp 4), (some (46, true))⟩,
 ⟨(some 48), .bin .eql (.tmp 47) (.const (.int .i64 0)), (some (46, true))⟩,
 ⟨(some 49), .pick (.tmp 46) (.tmp 48) (.const (.bool false)), none⟩,
 ⟨(some 50), .mov (.tmp 49), none⟩,
 ⟨(some 51), .mov (.tmp 6), (some (50, true))⟩,
 ⟨(some 52), .bin .eql (.tmp 51) (.const (.int .i64 1)), (some (50, true))⟩,
 ⟨(some 53), .pick (.tmp 50) (.tmp 52) (.const (.bool false)), none⟩,
 ⟨(some 54), .mov (.tmp 53), none⟩,
 ⟨(some 55), .mov (.tmp 8), (some (54, true))⟩,
 ⟨(some 56), .bin .eql (.tmp 55) (.const (.int .i64 2)), (some (54, true))⟩,
 ⟨(some 57), .pick (.tmp 54) (.tmp 56) (.const (.bool false)), none⟩,
 ⟨(some 58), .mov (.tmp 57), none⟩,
 ⟨(some 59), .iaddrA 4 3 (.tmp 9) (.const (.int .i64 0)), (some (58, true))⟩,
 ⟨(some 60), .faddr 1 (.tmp 59), (some (58, true))⟩,
 ⟨(some 61), .load none (.tmp 60), (some (58, true))⟩,
 ⟨(some 62), .bin .eql (.tmp 61) (.const (.int .i64 1)), (some (58, true))⟩,
 ⟨(some 63), .pick (.tmp 58) (.tmp 62) (.const (.bool false)), none⟩,
 ⟨(some 64), .mov (.tmp 63), none⟩,
 ⟨(some 65), .mov (.tmp 10), (some (64, true))⟩,
 ⟨(some 66), .bin .eql (.tmp 65) (.const (.int .i64 0)), (some (64, true))⟩,
 ⟨(some 67), .pick (.tmp 64) (.tmp 66) (.const (.bool false)), none⟩,
 ⟨(some 0), .mov (.tmp 67), none⟩]) (
 .ret)))))))))))))
theorem r27 : Runs Tryz.prog 27 m27.strip [.mov (.tmp 0)] 68 := ⟨by kernel_rfl, by kernel_rfl, Tryz.f27, Tryz.f27.body.getD .skip, Tryz.func27, by kernel_rfl, by kernel_rfl, by kernel_rfl, by kernel_rfl, by kernel_rfl⟩

def m38 : MC :=
 .seq (
 .reg [⟨(some 1), .box 42 12 (.tmp 0), none⟩,
 ⟨(some 2), .mov (.const (.string ⟨#[]⟩)), none⟩]) (
 .trim [1] [1] [] (
 .seq (
 .reg [⟨(some 3), .mov (.const (.string ⟨#[]⟩)), none⟩]) (
 .trim [1, 3] [1] [] (
 .seq (
 .seq (
 .reg [⟨(some 4), .mov (.const (.int .i64 0)), none⟩]) (
 .trim [1, 3, 4] [1] [] (
 .block 0 (
 .loop (
 .trim [1, 3, 4] [1] [] (
 .seq (
 .seq (
 .reg [⟨(some 5), .mov (.tmp 4), none⟩,
 ⟨(some 6), .bin .lss (.tmp 5) (.const (.int .i64 4)), none⟩]) (
 .trim [1, 3, 4, 6] [1] [] (
 .cond (.tmp 6) (
 .skip) (
 .exit 0)))) (
 .trim [1, 3, 4] [1] [] (
 .seq (
 .block 1 (
 .seq (
 .reg [⟨(some 9), .mov (.tmp 3), none⟩,
 ⟨(some 10), .mov (.tmp 4), none⟩,
 ⟨(some 11), .iaddrA 4 3 (.tmp 1) (.tmp 10), none⟩,
 ⟨(some 12), .faddr 0 (.tmp 11), none⟩,
 ⟨(some 13), .load none (.tmp 12), none⟩,
 ⟨(some 14), .conv .u8 (.tmp 13), none⟩,
 ⟨(some 15), .bslice 5 1 [(.val (.int .u8 0))] 1 [(0, 1, (.tmp 14))], none⟩,
 ⟨(some 16), .b2s (.tmp 15), none⟩,
 ⟨(some 17), .bin .add (.tmp 9) (.tmp 16), none⟩,
 ⟨(some 3), .mov (.tmp 17), none⟩]) (
 .trim [1, 3, 4] [1] [] (
 .seq (
 .seq (
 .reg [⟨(some 18), .mov (.tmp 4), none⟩,
 ⟨(some 19), .iaddrA 4 3 (.tmp 1) (.tmp 18), none⟩,
 ⟨(some 20), .faddr 0 (.tmp 19), none⟩,
 ⟨(some 21), .load none (.tmp 20), none⟩,
 ⟨(some 22), .bin .eql (.tmp 21) (.const (.int .i64 1)), none⟩]) (
 .trim [1, 3, 4, 22] [1] [] (
 .cond (.tmp 22) (
 .reg [⟨(some 23), .mov (.tmp 3), none⟩,
 ⟨(some 24), .mov (.tmp 4), none⟩,
 ⟨(some 25), .iaddrA 4 3 (.tmp 1) (.tmp 24), none⟩,
 ⟨(some 26), .faddr 1 (.tmp 25), none⟩,
 ⟨(some 27), .load none (.tmp 26), none⟩,
 ⟨(some 28), .call (.func 78) [(.tmp 27)] .pure, none⟩,
 ⟨(some 29), .bin .add (.tmp 23) (.tmp 28), none⟩,
 ⟨(some 3), .mov (.tmp 29), none⟩]) (
 .skip)))) (
 .trim [1, 3, 4] [1] [] (
 .seq (
 .reg [⟨(some 30), .mov (.tmp 4), none⟩,
 ⟨(some 31), .iaddrA 4 3 (.tmp 1) (.tmp 30), none⟩,
 ⟨(some 32), .faddr 0 (.tmp 31), none⟩,
 ⟨(some 33), .load none (.tmp 32), none⟩,
 ⟨(some 34), .bin .eql (.tmp 33) (.const (.int .i64 2)), none⟩]) (
 .trim [1, 3, 4, 34] [1] [] (
 .cond (.tmp 34) (
 .reg [⟨(some 35), .mov (.tmp 3), none⟩,
 ⟨(some 36), .mov (.tmp 4), none⟩,
 ⟨(some 37), .iaddrA 4 3 (.tmp 1) (.tmp 36), none⟩,
 ⟨(some 38), .faddr 2 (.tmp 37), none⟩,
 ⟨(some 39), .load none (.tmp 38), none⟩,
 ⟨(some 40), .call (.func 79) [(.tmp 39)] .pure, none⟩,
 ⟨(some 41), .bin .add (.tmp 35) (.tmp 40), none⟩,
 ⟨(some 3), .mov (.tmp 41), none⟩]) (
 .skip))))))))) (
 .trim [1, 3, 4] [1] [] (
 .reg [⟨(some 7), .mov (.tmp 4), none⟩,
 ⟨(some 8), .bin .add (.tmp 7) (.const (.int .i64 1)), none⟩,
 ⟨(some 4), .mov (.tmp 8), none⟩])))))))))) (
 .trim [3] [] [] (
 .seq (
 .reg [⟨(some 42), .mov (.tmp 3), none⟩,
 ⟨(some 2), .mov (.tmp 42), none⟩]) (
 .ret)))))))
theorem r38 : Runs Tryz.prog 38 m38.strip [.mov (.tmp 2)] 43 := ⟨by kernel_rfl, by kernel_rfl, Tryz.f38, Tryz.f38.body.getD .skip, Tryz.func38, by kernel_rfl, by kernel_rfl, by kernel_rfl, by kernel_rfl, by kernel_rfl⟩

def m65 : MC :=
 .seq (
 .reg [⟨(some 2), .mov (.const (.string ⟨#[]⟩)), none⟩]) (
 .trim [0] [] [] (
 .seq (
 .reg [⟨(some 5), .mov (.tmp 0), none⟩,
 ⟨(some 6), .call (.func 108) [(.tmp 5)] (.fresh 5 1), none⟩,
 ⟨(some 3), .mov (.tmp 6), none⟩]) (
 .trim [3] [] [(6, 5, 1)] (
 .seq (
 .seq (
 .reg [⟨(some 4), .mov (.const (.int .i64 0)), none⟩]) (
 .trim [3, 4] [] [(6, 5, 1)] (
 .block 0 (
 .loop (
 .trim [3, 4] [] [(6, 5, 1)] (
 .seq (
 .seq (
 .reg [⟨(some 7), .mov (.tmp 4), none⟩,
 ⟨(some 8), .mov (.tmp 3), none⟩,
 ⟨(some 9), .lenL (.tmp 8), none⟩,
 ⟨(some 10), .bin .sub (.tmp 9) (.const (.int .i64 1)), none⟩,
 ⟨(some 11), .bin .lss (.tmp 7) (.tmp 10), none⟩]) (
 .trim [3, 4, 11] [] [(6, 5, 1)] (
 .cond (.tmp 11) (
 .skip) (
 .exit 0)))) (
 .trim [3, 4] [] [(6, 5, 1)] (
 .seq (
 .block 1 (
 .reg [⟨(some 14), .mov (.tmp 3), none⟩,
 ⟨(some 15), .mov (.tmp 4), none⟩,
 ⟨(some 16), .iaddrS 1 (.tmp 14) (.tmp 15), none⟩,
 ⟨(some 17), .load none (.tmp 16), none⟩,
 ⟨(some 18), .bin .add (.tmp 17) (.const (.int .u8 128)), none⟩,
 ⟨(some 19), .iaddrS 1 (.tmp 14) (.tmp 15), none⟩,
 ⟨none, .store 1 (.tmp 19) (.tmp 18), none⟩])) (
 .trim [3, 4] [] [(6, 5, 1)] (
 .reg [⟨(some 12), .mov (.tmp 4), none⟩,
 ⟨(some 13), .bin .add (.tmp 12) (.const (.int .i64 1)), none⟩,
 ⟨(some 4), .mov (.tmp 13), none⟩])))))))))) (
 .trim [3] [] [(6, 5, 1)] (
 .seq (
 .reg [⟨(some 20), .mov (.tmp 3), none⟩,
 ⟨(some 21), .b2s (.tmp 20), none⟩,
 ⟨(some 2), .mov (.tmp 21), none⟩]) (
 .ret)))))))
theorem r65 : Runs Tryz.prog 65 m65.strip [.mov (.tmp 2)] 22 := ⟨by kernel_rfl, by kernel_rfl, Tryz.f65, Tryz.f65.body.getD .skip, Tryz.func65, by kernel_rfl, by kernel_rfl, by kernel_rfl, by kernel_rfl, by kernel_rfl⟩

def m78 : MC :=
 .seq (
 .reg [⟨(some 2), .mov (.const (.string ⟨#[]⟩)), none⟩]) (
 .trim [0] [] [] (
 .seq (
 .seq (
 .reg [⟨(some 3), .mov (.tmp 0), none⟩,
 ⟨(some 4), .bin .geq (.tmp 3) (.const (.int .i64 0)), none⟩]) (
 .trim [0, 4] [] [] (
 .cond (.tmp 4) (
 .seq (
 .reg [⟨(some 5), .mov (.tmp 0), none⟩,
 ⟨(some 6), .conv .u64 (.tmp 5), none⟩,
 ⟨(some 7), .bin .mul (.const (.int .u64 2)) (.tmp 6), none⟩,
 ⟨(some 8), .call (.func 65) [(.tmp 7)] .pure, none⟩,
 ⟨(some 2), .mov (.tmp 8), none⟩]) (
 .ret)) (
 .skip)))) (
 .trim [0] [] [] (
 .seq (
 .reg [⟨(some 9), .mov (.tmp 0), none⟩,
 ⟨(some 10), .bin .sub (.const (.int .i64 (-1))) (.tmp 9), none⟩,
 ⟨(some 11), .conv .u64 (.tmp 10), none⟩,
 ⟨(some 12), .bin .mul (.const (.int .u64 2)) (.tmp 11), none⟩,
 ⟨(some 13), .bin .add (.tmp 12) (.const (.int .u64 1)), none⟩,
 ⟨(some 14), .call (.func 65) [(.tmp 13)] .pure, none⟩,
 ⟨(some 2), .mov (.tmp 14), none⟩]) (
 .ret)))))
theorem r78 : Runs Tryz.prog 78 m78.strip [.mov (.tmp 2)] 15 := ⟨by kernel_rfl, by kernel_rfl, Tryz.f78, Tryz.f78.body.getD .skip, Tryz.func78, by kernel_rfl, by kernel_rfl, by kernel_rfl, by kernel_rfl, by kernel_rfl⟩

def m79 : MC :=
 .seq (
 .reg [⟨(some 2), .mov (.const (.string ⟨#[]⟩)), none⟩]) (
 .trim [0] [] [] (
 .seq (
 .reg [⟨(some 3), .mov (.tmp 0), none⟩,
 ⟨(some 4), .lenS (.tmp 3), none⟩,
 ⟨(some 5), .conv .u64 (.tmp 4), none⟩,
 ⟨(some 6), .call (.func 65) [(.tmp 5)] .pure, none⟩,
 ⟨(some 7), .mov (.tmp 0), none⟩,
 ⟨(some 8), .bin .add (.tmp 6) (.tmp 7), none⟩,
 ⟨(some 2), .mov (.tmp 8), none⟩]) (
 .ret)))
theorem r79 : Runs Tryz.prog 79 m79.strip [.mov (.tmp 2)] 9 := ⟨by kernel_rfl, by kernel_rfl, Tryz.f79, Tryz.f79.body.getD .skip, Tryz.func79, by kernel_rfl, by kernel_rfl, by kernel_rfl, by kernel_rfl, by kernel_rfl⟩

def m108 : MC :=
 .seq (
 .reg [⟨(some 2), .nilsl 5 1, none⟩]) (
 .trim [0] [] [] (
 .seq (
 .seq (
 .reg [⟨(some 3), .mov (.tmp 0), none⟩,
 ⟨(some 4), .bin .lss (.tmp 3) (.const (.int .u64 128)), none⟩]) (
 .trim [0, 4] [] [] (
 .cond (.tmp 4) (
 .seq (
 .reg [⟨(some 5), .mov (.tmp 0), none⟩,
 ⟨(some 6), .conv .u8 (.tmp 5), none⟩,
 ⟨(some 7), .bslice 5 1 [(.val (.int .u8 0))] 1 [(0, 1, (.tmp 6))], none⟩,
 ⟨(some 2), .mov (.tmp 7), none⟩]) (
 .ret)) (
 .skip)))) (
 .trim [0] [] [] (
 .seq (
 .reg [⟨(some 8), .mov (.tmp 0), none⟩,
 ⟨(some 9), .bin .quo (.tmp 8) (.const (.int .u64 128)), none⟩,
 ⟨(some 10), .call (.func 108) [(.tmp 9)] (.fresh 5 1), none⟩,
 ⟨(some 11), .mov (.tmp 0), none⟩,
 ⟨(some 12), .bin .rem (.tmp 11) (.const (.int .u64 128)), none⟩,
 ⟨(some 13), .conv .u8 (.tmp 12), none⟩,
 ⟨(some 14), .bslice 5 1 [(.val (.int .u8 0))] 1 [(0, 1, (.tmp 13))], none⟩,
 ⟨(some 15), .append 5 1 1 (.tmp 10) (.tmp 14), none⟩,
 ⟨(some 2), .mov (.tmp 15), none⟩]) (
 .ret)))))
theorem r108 : Runs Tryz.prog 108 m108.strip [.mov (.tmp 2)] 16 := ⟨by kernel_rfl, by kernel_rfl, Tryz.f108, Tryz.f108.body.getD .skip, Tryz.func108, by kernel_rfl, by kernel_rfl, by kernel_rfl, by kernel_rfl, by kernel_rfl⟩

end Go.Proofs

