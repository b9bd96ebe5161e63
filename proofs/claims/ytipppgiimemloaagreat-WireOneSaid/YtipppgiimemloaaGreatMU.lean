/- The functions, as code of the value machine (printed by program). -/
import Derived.Test.YtipppgiimemloaaGreatVm24
import Derived.Test.YtipppgiimemloaaGreatProg
set_option linter.unusedVariables false
set_option maxRecDepth 2000
namespace Go.Proofs
open Go.Vm
def m11 : MC :=
 .seq (
 .reg [⟨(some 6), .box 42 12 (.tmp 2), none⟩,
 ⟨(some 7), .box 42 12 (.tmp 3), none⟩,
 ⟨(some 8), .mov (.const (.bool false)), none⟩]) (
 .trim [0, 1, 6, 7] [6, 7] [] (
 .seq (
 .seq (
 .reg [⟨(some 14), .call (.func 27) [] .pure, none⟩,
 ⟨(some 15), .un .not (.tmp 14), none⟩,
 ⟨(some 16), .mov (.tmp 15), none⟩,
 ⟨(some 17), .mov (.tmp 0), (some (16, false))⟩,
 ⟨(some 18), .call (.func 22) [(.tmp 17)] .pure, (some (16, false))⟩,
 ⟨(some 19), .un .not (.tmp 18), (some (16, false))⟩,
 ⟨(some 20), .pick (.tmp 16) (.const (.bool true)) (.tmp 19), none⟩,
 ⟨(some 21), .mov (.tmp 20), none⟩,
 ⟨(some 22), .mov (.tmp 1), (some (21, false))⟩,
 ⟨(some 23), .call (.func 22) [(.tmp 22)] .pure, (some (21, false))⟩,
 ⟨(some 24), .un .not (.tmp 23), (some (21, false))⟩,
 ⟨(some 25), .pick (.tmp 21) (.const (.bool true)) (.tmp 24), none⟩,
 ⟨(some 26), .mov (.tmp 25), none⟩,
 ⟨(some 27), .mov (.tmp 0), (some (26, false))⟩,
 ⟨(some 28), .call (.func 19) [(.tmp 27)] .pure, (some (26, false))⟩,
 ⟨(some 29), .un .not (.tmp 28), (some (26, false))⟩,
 ⟨(some 30), .pick (.tmp 26) (.const (.bool true)) (.tmp 29), none⟩,
 ⟨(some 31), .mov (.tmp 30), none⟩,
 ⟨(some 32), .mov (.tmp 1), (some (31, false))⟩,
 ⟨(some 33), .call (.func 19) [(.tmp 32)] .pure, (some (31, false))⟩,
 ⟨(some 34), .un .not (.tmp 33), (some (31, false))⟩,
 ⟨(some 35), .pick (.tmp 31) (.const (.bool true)) (.tmp 34), none⟩,
 ⟨(some 36), .mov (.tmp 35), none⟩,
 ⟨(some 37), .load (some 12) (.tmp 6), (some (36, false))⟩,
 ⟨(some 38), .call (.func 37) [(.tmp 37)] .pure, (some (36, false))⟩,
 ⟨(some 39), .un .not (.tmp 38), (some (36, false))⟩,
 ⟨(some 40), .pick (.tmp 36) (.const (.bool true)) (.tmp 39), none⟩,
 ⟨(some 41), .mov (.tmp 40), none⟩,
 ⟨(some 42), .load (some 12) (.tmp 7), (some (41, false))⟩,
 ⟨(some 43), .call (.func 37) [(.tmp 42)] .pure, (some (41, false))⟩,
 ⟨(some 44), .un .not (.tmp 43), (some (41, false))⟩,
 ⟨(some 45), .pick (.tmp 41) (.const (.bool true)) (.tmp 44), none⟩]) (
 .trim [0, 1, 6, 7, 45] [6, 7] [] (
 .cond (.tmp 45) (
 .seq (
 .reg [⟨(some 46), .call (.func 27) [] .pure, none⟩,
 ⟨(some 8), .mov (.tmp 46), none⟩]) (
 .ret)) (
 .skip)))) (
 .trim [0, 1, 6, 7] [6, 7] [] (
 .seq (
 .reg [⟨(some 47), .mov (.tmp 0), none⟩,
 ⟨(some 48), .call (.func 31) [(.tmp 47)] .pure, none⟩,
 ⟨(some 49), .mov (.tmp 1), none⟩,
 ⟨(some 50), .call (.func 31) [(.tmp 49)] .pure, none⟩,
 ⟨(some 9), .mov (.tmp 48), none⟩,
 ⟨(some 10), .mov (.tmp 50), none⟩]) (
 .trim [0, 1, 6, 7, 9, 10] [6, 7] [] (
 .seq (
 .dreg 6 [⟨(some 51), .load (some 12) (.tmp 6), none⟩,
 ⟨(some 52), .call (.func 35) [(.tmp 51)] .pure, none⟩,
 ⟨(some 53), .load (some 12) (.tmp 7), none⟩,
 ⟨(some 54), .call (.func 35) [(.tmp 53)] .pure, none⟩,
 ⟨(some 11), .mov (.tmp 52), none⟩,
 ⟨(some 12), .mov (.tmp 54), none⟩]) (
 .trim [0, 1, 6, 7, 9, 10, 11, 12] [6, 7] [] (
 .seq (
 .reg [⟨(some 55), .mov (.tmp 0), none⟩,
 ⟨(some 56), .mov (.tmp 1), none⟩,
 ⟨(some 57), .call (.func 16) [(.tmp 55), (.tmp 56)] .pure, none⟩,
 ⟨(some 13), .mov (.tmp 57), none⟩]) (
 .trim [6, 7, 9, 10, 11, 12, 13] [6, 7] [] (
 .seq (
 .reg [⟨(some 58), .mov (.tmp 9), none⟩,
 ⟨(some 59), .mov (.tmp 10), none⟩,
 ⟨(some 60), .bin .eql (.tmp 58) (.tmp 59), none⟩,
 ⟨(some 61), .mov (.tmp 13), none⟩,
 ⟨(some 62), .binB false (.tmp 60) (.tmp 61), none⟩,
 ⟨(some 63), .mov (.tmp 62), none⟩,
 ⟨(some 64), .mov (.tmp 13), (some (63, true))⟩,
 ⟨(some 65), .mov (.tmp 64), (some (63, true))⟩,
 ⟨(some 66), .mov (.tmp 9), (some (65, false))⟩,
 ⟨(some 67), .lenS (.tmp 66), (some (65, false))⟩,
 ⟨(some 68), .mov (.tmp 10), (some (65, false))⟩,
 ⟨(some 69), .lenS (.tmp 68), (some (65, false))⟩,
 ⟨(some 70), .bin .gtr (.tmp 67) (.tmp 69), (some (65, false))⟩,
 ⟨(some 71), .pick (.tmp 65) (.const (.bool true)) (.tmp 70), (some (63, true))⟩,
 ⟨(some 72), .mov (.tmp 71), (some (63, true))⟩,
 ⟨(some 73), .mov (.tmp 10), (some (72, false))⟩,
 ⟨(some 74), .mov (.tmp 9), (some (72, false))⟩,
 ⟨(some 75), .lenS (.tmp 74), (some (72, false))⟩,
 ⟨(some 76), .slcS (.tmp 73) none (some (.tmp 75)), (some (72, false))⟩,
 ⟨(some 77), .mov (.tmp 9), (some (72, false))⟩,
 ⟨(some 78), .bin .neq (.tmp 76) (.tmp 77), (some (72, false))⟩,
 ⟨(some 79), .pick (.tmp 72) (.const (.bool true)) (.tmp 78), (some (63, true))⟩,
 ⟨(some 80), .pick (.tmp 63) (.tmp 79) (.const (.bool false)), none⟩,
 ⟨(some 81), .mov (.tmp 80), none⟩,
 ⟨(some 82), .mov (.tmp 11), (some (81, true))⟩,
 ⟨(some 83), .mov (.tmp 12), (some (81, true))⟩,
 ⟨(some 84), .bin .eql (.tmp 82) (.tmp 83), (some (81, true))⟩,
 ⟨(some 85), .load (some 12) (.tmp 6), (some (81, true))⟩,
 ⟨(some 86), .load (some 12) (.tmp 7), (some (81, true))⟩,
 ⟨(some 87), .eqs false [.i, .i, .s, .i, .i, .s, .i, .i, .s, .i, .i, .s] (.tmp 85) (.tmp 86), (some (81, true))⟩,
 ⟨(some 88), .binB false (.tmp 84) (.tmp 87), (some (81, true))⟩,
 ⟨(some 89), .pick (.tmp 81) (.tmp 88) (.const (.bool false)), none⟩,
 ⟨(some 90), .mov (.tmp 89), none⟩,
 ⟨(some 91), .load (some 12) (.tmp 6), (some (90, true))⟩,
 ⟨(some 92), .load (some 12) (.tmp 7), (some (90, true))⟩,
 ⟨(some 93), .eqs false [.i, .i, .s, .i, .i, .s, .i, .i, .s, .i, .i, .s] (.tmp 91) (.tmp 92), (some (90, true))⟩,
 ⟨(some 94), .mov (.tmp 93), (some (90, true))⟩,
 ⟨(some 95), .mov (.tmp 11), (some (94, false))⟩,
 ⟨(some 96), .lenS (.tmp 95), (some (94, false))⟩,
 ⟨(some 97), .mov (.tmp 12), (some (94, false))⟩,
 ⟨(some 98), .lenS (.tmp 97), (some (94, false))⟩,
 ⟨(some 99), .bin .gtr (.tmp 96) (.tmp 98), (some (94, false))⟩,
 ⟨(some 100), .pick (.tmp 94) (.const (.bool true)) (.tmp 99), (some (90, true))⟩,
 ⟨(some 101), .mov (.tmp 100), (some (90, true))⟩,
 ⟨(some 102), .mov (.tmp 12), (some (101, false))⟩,
 ⟨(some 103), .mov (.tmp 11), (some (101, false))⟩,
 ⟨(some 104), .lenS (.tmp 103), (some (101, false))⟩,
 ⟨(some 105), .slcS (.tmp 102) none (some (.tmp 104)), (some (101, false))⟩,
 ⟨(some 106), .mov (.tmp 11), (some (101, false))⟩,
 ⟨(some 107), .bin .neq (.tmp 105) (.tmp 106), (some (101, false))⟩,
 ⟨(some 108), .pick (.tmp 101) (.const (.bool true)) (.tmp 107), (some (90, true))⟩,
 ⟨(some 109), .pick (.tmp 90) (.tmp 108) (.const (.bool false)), none⟩,
 ⟨(some 8), .mov (.tmp 109), none⟩]) (
 .ret)))))))))))
theorem r11 : Runs Tryz.prog 11 m11.strip [.mov (.tmp 8)] 110 := ⟨by kernel_rfl, by kernel_rfl, Tryz.f11, Tryz.f11.body.getD .skip, Tryz.func11, by kernel_rfl, by kernel_rfl, by kernel_rfl, by kernel_rfl, by kernel_rfl⟩

def m27 : MC :=
 .seq (
 .reg [⟨(some 0), .mov (.const (.bool false)), none⟩]) (
 .trim [] [] [] (
 .seq (
 .reg [⟨(some 12), .call (.func 28) [(.const (.slice none 0 0))] .pure, none⟩,
 ⟨(some 11), .mov (.tmp 12), none⟩,
 ⟨(some 13), .ext (.tmp 11) 0, none⟩,
 ⟨(some 14), .ext (.tmp 11) 1, none⟩,
 ⟨(some 1), .mov (.tmp 13), none⟩,
 ⟨(some 2), .mov (.tmp 14), none⟩]) (
 .trim [1, 2] [] [] (
 .seq (
 .reg [⟨(some 16), .build [(.val (.int .i64 0)), (.val (.int .i64 0)), (.val (.string ⟨#[]⟩))] [(0, 1, (.const (.int .i64 1))), (1, 1, (.const (.int .i64 1)))], none⟩,
 ⟨(some 17), .build [(.val (.int .i64 0)), (.val (.int .i64 0)), (.val (.string ⟨#[]⟩)), (.val (.int .i64 0)), (.val (.int .i64 0)), (.val (.string ⟨#[]⟩)), (.val (.int .i64 0)), (.val (.int .i64 0)), (.val (.string ⟨#[]⟩)), (.val (.int .i64 0)), (.val (.int .i64 0)), (.val (.string ⟨#[]⟩))] [(0, 3, (.tmp 16))], none⟩,
 ⟨(some 18), .call (.func 36) [(.tmp 17)] .pure, none⟩,
 ⟨(some 15), .mov (.tmp 18), none⟩,
 ⟨(some 19), .ext (.tmp 15) 0, none⟩,
 ⟨(some 20), .ext (.tmp 15) 1, none⟩,
 ⟨(some 3), .mov (.tmp 19), none⟩,
 ⟨(some 4), .mov (.tmp 20), none⟩]) (
 .trim [1, 2, 3, 4] [] [] (
 .seq (
 .reg [⟨(some 22), .build [(.val (.int .i64 0)), (.val (.int .i64 0)), (.val (.string ⟨#[]⟩))] [(0, 1, (.const (.int .i64 3)))], none⟩,
 ⟨(some 23), .build [(.val (.int .i64 0)), (.val (.int .i64 0)), (.val (.string ⟨#[]⟩)), (.val (.int .i64 0)), (.val (.int .i64 0)), (.val (.string ⟨#[]⟩)), (.val (.int .i64 0)), (.val (.int .i64 0)), (.val (.string ⟨#[]⟩)), (.val (.int .i64 0)), (.val (.int .i64 0)), (.val (.string ⟨#[]⟩))] [(0, 3, (.tmp 22))], none⟩,
 ⟨(some 24), .call (.func 36) [(.tmp 23)] .pure, none⟩,
 ⟨(some 21), .mov (.tmp 24), none⟩,
 ⟨(some 25), .ext (.tmp 21) 0, none⟩,
 ⟨(some 26), .ext (.tmp 21) 1, none⟩,
 ⟨(some 5), .mov (.tmp 25), none⟩,
 ⟨(some 6), .mov (.tmp 26), none⟩]) (
 .trim [1, 2, 3, 4, 6] [] [] (
 .seq (
 .reg [⟨(some 28), .call (.func 29) [(.const (.string ⟨#[1]⟩))] .pure, none⟩,
 ⟨(some 27), .mov (.tmp 28), none⟩,
 ⟨(some 29), .ext (.tmp 27) 0, none⟩,
 ⟨(some 30), .ext (.tmp 27) 1, none⟩,
 ⟨(some 7), .mov (.tmp 29), none⟩,
 ⟨(some 8), .mov (.tmp 30), none⟩]) (
 .trim [1, 2, 3, 4, 6, 8] [] [] (
 .seq (
 .reg [⟨(some 32), .mov (.tmp 3), none⟩,
 ⟨(some 33), .call (.func 33) [(.tmp 32)] .pure, none⟩,
 ⟨(some 31), .mov (.tmp 33), none⟩,
 ⟨(some 34), .ext (.tmp 31) 0, none⟩,
 ⟨(some 35), .ext (.tmp 31) 1, none⟩,
 ⟨(some 9), .alloc 42 [(.val (.int .i64 0)), (.val (.int .i64 0)), (.val (.string ⟨#[]⟩)), (.val (.int .i64 0)), (.val (.int .i64 0)), (.val (.string ⟨#[]⟩)), (.val (.int .i64 0)), (.val (.int .i64 0)), (.val (.string ⟨#[]⟩)), (.val (.int .i64 0)), (.val (.int .i64 0)), (.val (.string ⟨#[]⟩))], none⟩,
 ⟨none, .store 12 (.tmp 9) (.tmp 34), none⟩,
 ⟨(some 10), .mov (.tmp 35), none⟩]) (
 .trim [1, 2, 3, 4, 6, 8, 9, 10] [9] [] (
 .seq (
 .reg [⟨(some 36), .mov (.tmp 1), none⟩,
 ⟨(some 37), .bin .eql (.tmp 36) (.const (.string ⟨#[0]⟩)), none⟩,
 ⟨(some 38), .mov (.tmp 37), none⟩,
 ⟨(some 39), .mov (.tmp 2), (some (38, true))⟩,
 ⟨(some 40), .bin .eql (.tmp 39) (.const (.int .i64 0)), (some (38, true))⟩,
 ⟨(some 41), .pick (.tmp 38) (.tmp 40) (.const (.bool false)), none⟩,
 ⟨(some 42), .mov (.tmp 41), none⟩,
 ⟨(some 43), .mov (.tmp 3), (some (42, true))⟩,
 ⟨(some 44), .bin .eql (.tmp 43) (.const (.string ⟨#[1, 2, 0, 0, 0]⟩)), (some (42, true))⟩,
 ⟨(some 45), .pick (.tmp 42) (.tmp 44) (.const (.bool false)), none⟩,
 ⟨(some 46), .mov (.tmp 45), none⟩,
 ⟨(some 47), .mov (.tmp 4), (some (46, true))⟩,
 ⟨(some 48), .bin .eql (.tmp 47) (.const (.int .i64 0)), (some (46, true))⟩,
 ⟨(some 49), .pick (.tmp 46) (.tmp 48) (.const (.bool false)), none⟩,
 ⟨(some 50), .mov (.tmp 49), none⟩,
 ⟨(some 51), .mov (.tmp 6), (some (50, true))⟩,
 ⟨(some 52), .bin .eql (.tmp 51) (.const (.int .i64 1)), (some (50, true))⟩,
 ⟨(some 53), .pick (.tmp 50) (.tmp 52) (.const (.bool false)), none⟩,
 ⟨(some 54), .mov (.tmp 53), none⟩,
 ⟨(some 55), .mov (.tmp 8), (some (54, true))⟩,
 ⟨(some 56), .bin .eql (.tmp 55) (.const (.int .i64 2)), (some (54, true))⟩,
 ⟨(some 57), .pick (.tmp 54) (.tmp 56) (.const (.bool false)), none⟩,
 ⟨(some 58), .mov (.tmp 57), none⟩,
 ⟨(some 59), .iaddrA 4 3 (.tmp 9) (.const (.int .i64 0)), (some (58, true))⟩,
 ⟨(some 60), .faddr 1 (.tmp 59), (some (58, true))⟩,
 ⟨(some 61), .load none (.tmp 60), (some (58, true))⟩,
 ⟨(some 62), .bin .eql (.tmp 61) (.const (.int .i64 1)), (some (58, true))⟩,
 ⟨(some 63), .pick (.tmp 58) (.tmp 62) (.const (.bool false)), none⟩,
 ⟨(some 64), .mov (.tmp 63), none⟩,
 ⟨(some 65), .mov (.tmp 10), (some (64, true))⟩,
 ⟨(some 66), .bin .eql (.tmp 65) (.const (.int .i64 0)), (some (64, true))⟩,
 ⟨(some 67), .pick (.tmp 64) (.tmp 66) (.const (.bool false)), none⟩,
 ⟨(some 0), .mov (.tmp 67), none⟩]) (
 .ret)))))))))))))
theorem r27 : Runs Tryz.prog 27 m27.strip [.mov (.tmp 0)] 68 := ⟨by kernel_rfl, by kernel_rfl, Tryz.f27, Tryz.f27.body.getD .skip, Tryz.func27, by kernel_rfl, by kernel_rfl, by kernel_rfl, by kernel_rfl, by kernel_rfl⟩

end Go.Proofs

