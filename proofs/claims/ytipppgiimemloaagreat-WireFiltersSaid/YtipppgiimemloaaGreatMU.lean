/- The functions, as code of the value machine (printed by program). -/
import Derived.Test.YtipppgiimemloaaGreatVm24
import Derived.Test.YtipppgiimemloaaGreatProg
set_option linter.unusedVariables false
set_option maxRecDepth 2000
namespace Go.Proofs
open Go.Vm
def m8 : MC :=
 .seq (
 .reg [⟨(some 2), .mov (.const (.bool false)), none⟩]) (
 .trim [0] [] [] (
 .seq (
 .seq (
 .reg [⟨(some 7), .call (.func 27) [] .pure, none⟩,
 ⟨(some 8), .un .not (.tmp 7), none⟩,
 ⟨(some 9), .mov (.tmp 8), none⟩,
 ⟨(some 10), .mov (.tmp 0), (some (9, false))⟩,
 ⟨(some 11), .call (.func 22) [(.tmp 10)] .pure, (some (9, false))⟩,
 ⟨(some 12), .un .not (.tmp 11), (some (9, false))⟩,
 ⟨(some 13), .pick (.tmp 9) (.const (.bool true)) (.tmp 12), none⟩]) (
 .trim [0, 13] [] [] (
 .cond (.tmp 13) (
 .seq (
 .reg [⟨(some 14), .call (.func 27) [] .pure, none⟩,
 ⟨(some 2), .mov (.tmp 14), none⟩]) (
 .ret)) (
 .skip)))) (
 .trim [0] [] [] (
 .seq (
 .reg [⟨(some 16), .mov (.tmp 0), none⟩,
 ⟨(some 17), .call (.func 28) [(.tmp 16)] .pure, none⟩,
 ⟨(some 15), .mov (.tmp 17), none⟩,
 ⟨(some 18), .ext (.tmp 15) 0, none⟩,
 ⟨(some 19), .ext (.tmp 15) 1, none⟩,
 ⟨(some 3), .mov (.tmp 18), none⟩,
 ⟨(some 4), .mov (.tmp 19), none⟩]) (
 .trim [0, 3, 4] [] [] (
 .seq (
 .seq (
 .reg [⟨(some 20), .mov (.tmp 0), none⟩,
 ⟨(some 21), .call (.func 19) [(.tmp 20)] .pure, none⟩,
 ⟨(some 22), .un .not (.tmp 21), none⟩]) (
 .trim [0, 3, 4, 22] [] [] (
 .cond (.tmp 22) (
 .seq (
 .reg [⟨(some 23), .mov (.tmp 3), none⟩,
 ⟨(some 24), .bin .eql (.tmp 23) (.const (.string ⟨#[]⟩)), none⟩,
 ⟨(some 25), .mov (.tmp 24), none⟩,
 ⟨(some 26), .mov (.tmp 4), (some (25, true))⟩,
 ⟨(some 27), .bin .eql (.tmp 26) (.const (.int .i64 1)), (some (25, true))⟩,
 ⟨(some 28), .pick (.tmp 25) (.tmp 27) (.const (.bool false)), none⟩,
 ⟨(some 2), .mov (.tmp 28), none⟩]) (
 .ret)) (
 .skip)))) (
 .trim [0, 3, 4] [] [] (
 .seq (
 .reg [⟨(some 30), .mov (.tmp 3), none⟩,
 ⟨(some 31), .call (.func 29) [(.tmp 30)] .pure, none⟩,
 ⟨(some 29), .mov (.tmp 31), none⟩,
 ⟨(some 32), .ext (.tmp 29) 0, none⟩,
 ⟨(some 33), .ext (.tmp 29) 1, none⟩,
 ⟨(some 5), .mov (.tmp 32), none⟩,
 ⟨(some 6), .mov (.tmp 33), none⟩]) (
 .trim [0, 3, 4, 5, 6] [] [] (
 .seq (
 .reg [⟨(some 34), .mov (.tmp 4), none⟩,
 ⟨(some 35), .bin .eql (.tmp 34) (.const (.int .i64 0)), none⟩,
 ⟨(some 36), .mov (.tmp 35), none⟩,
 ⟨(some 37), .mov (.tmp 3), (some (36, true))⟩,
 ⟨(some 38), .mov (.tmp 0), (some (36, true))⟩,
 ⟨(some 39), .call (.func 30) [(.tmp 38)] .pure, (some (36, true))⟩,
 ⟨(some 40), .bin .eql (.tmp 37) (.tmp 39), (some (36, true))⟩,
 ⟨(some 41), .pick (.tmp 36) (.tmp 40) (.const (.bool false)), none⟩,
 ⟨(some 42), .mov (.tmp 41), none⟩,
 ⟨(some 43), .mov (.tmp 0), (some (42, true))⟩,
 ⟨(some 44), .call (.func 31) [(.tmp 43)] .pure, (some (42, true))⟩,
 ⟨(some 45), .mov (.tmp 3), (some (42, true))⟩,
 ⟨(some 46), .bin .eql (.tmp 44) (.tmp 45), (some (42, true))⟩,
 ⟨(some 47), .pick (.tmp 42) (.tmp 46) (.const (.bool false)), none⟩,
 ⟨(some 48), .mov (.tmp 47), none⟩,
 ⟨(some 49), .mov (.tmp 6), (some (48, true))⟩,
 ⟨(some 50), .bin .eql (.tmp 49) (.const (.int .i64 0)), (some (48, true))⟩,
 ⟨(some 51), .pick (.tmp 48) (.tmp 50) (.const (.bool false)), none⟩,
 ⟨(some 52), .mov (.tmp 51), none⟩,
 ⟨(some 53), .mov (.tmp 0), (some (52, true))⟩,
 ⟨(some 54), .mov (.tmp 5), (some (52, true))⟩,
 ⟨(some 55), .call (.func 16) [(.tmp 53), (.tmp 54)] .pure, (some (52, true))⟩,
 ⟨(some 56), .pick (.tmp 52) (.tmp 55) (.const (.bool false)), none⟩,
 ⟨(some 2), .mov (.tmp 56), none⟩]) (
 .ret)))))))))))
theorem r8 : Runs Tryz.prog 8 m8.strip [.mov (.tmp 2)] 57 := ⟨by kernel_rfl, by kernel_rfl, Tryz.f8, Tryz.f8.body.getD .skip, Tryz.func8, by kernel_rfl, by kernel_rfl, by kernel_rfl, by kernel_rfl, by kernel_rfl⟩

def m27 : MC :=
 .seq (
 .reg [⟨(some 0), .mov (.const (.bool false)), none⟩]) (
 .trim [] [] [] (
 .seq (
 .reg [⟨(some 12), .call (.func 28) [(.const (.slice none 0 0))] .pure, none⟩,
 ⟨(some 11), .mov (.tmp 12), none⟩,
 ⟨(some 13), .ext (.tmp 11) 0, none⟩,
 ⟨(some 14), .ext (.tmp 11) 1, none⟩,
 ⟨(some 1), .mov (.tmp 13), none⟩,
 ⟨(some 2), .mov (.tmp 14), none⟩]) (
 .trim [1, 2] [] [] (
 .seq (
 .reg [⟨(some 16), .build [(.val (.int .i64 0)), (.val (.int .i64 0)), (.val (.string ⟨#[]⟩))] [(0, 1, (.const (.int .i64 1))), (1, 1, (.const (.int .i64 1)))], none⟩,
 ⟨(some 17), .build [(.val (.int .i64 0)), (.val (.int .i64 0)), (.val (.string ⟨#[]⟩)), (.val (.int .i64 0)), (.val (.int .i64 0)), (.val (.string ⟨#[]⟩)), (.val (.int .i64 0)), (.val (.int .i64 0)), (.val (.string ⟨#[]⟩)), (.val (.int .i64 0)), (.val (.int .i64 0)), (.val (.string ⟨#[]⟩))] [(0, 3, (.tmp 16))], none⟩,
 ⟨(some 18), .call (.func 36) [(.tmp 17)] .pure, none⟩,
 ⟨(some 15), .mov (.tmp 18), none⟩,
 ⟨(some 19), .ext (.tmp 15) 0, none⟩,
 ⟨(some 20), .ext (.tmp 15) 1, none⟩,
 ⟨(some 3), .mov (.tmp 19), none⟩,
 ⟨(some 4), .mov (.tmp 20), none⟩]) (
 .trim [1, 2, 3, 4] [] [] (
 .seq (
 .reg [⟨(some 22), .build [(.val (.int .i64 0)), (.val (.int .i64 0)), (.val (.string ⟨#[]⟩))] [(0, 1, (.const (.int .i64 3)))], none⟩,
 ⟨(some 23), .build [(.val (.int .i64 0)), (.val (.int .i64 0)), (.val (.string ⟨#[]⟩)), (.val (.int .i64 0)), (.val (.int .i64 0)), (.val (.string ⟨#[]⟩)), (.val (.int .i64 0)), (.val (.int .i64 0)), (.val (.string ⟨#[]⟩)), (.val (.int .i64 0)), (.val (.int .i64 0)), (.val (.string ⟨#[]⟩))] [(0, 3, (.tmp 22))], none⟩,
 ⟨(some 24), .call (.func 36) [(.tmp 23)] .pure, none⟩,
 ⟨(some 21), .mov (.tmp 24), none⟩,
 ⟨(some 25), .ext (.tmp 21) 0, none⟩,
 ⟨(some 26), .ext (.tmp 21) 1, none⟩,
 ⟨(some 5), .mov (.tmp 25), none⟩,
 ⟨(some 6), .mov (.tmp 26), none⟩]) (
 .trim [1, 2, 3, 4, 6] [] [] (
 .seq (
 .reg [⟨(some 28), .call (.func 29) [(.const (.string ⟨#[1]⟩))] .pure, none⟩,
 ⟨(some 27), .mov (.tmp 28), none⟩,
 ⟨(some 29), .ext (.tmp 27) 0, none⟩,
 ⟨(some 30), .ext (.tmp 27) 1, none⟩,
 ⟨(some 7), .mov (.tmp 29), none⟩,
 ⟨(some 8), .mov (.tmp 30), none⟩]) (
 .trim [1, 2, 3, 4, 6, 8] [] [] (
 .seq (
 .reg [⟨(some 32), .mov (.tmp 3), none⟩,
 ⟨(some 33), .call (.func 33) [(.tmp 32)] .pure, none⟩,
 ⟨(some 31), .mov (.tmp 33), none⟩,
 ⟨(some 34), .ext (.tmp 31) 0, none⟩,
 ⟨(some 35), .ext (.tmp 31) 1, none⟩,
 ⟨(some 9), .alloc 42 [(.val (.int .i64 0)), (.val (.int .i64 0)), (.val (.string ⟨#[]⟩)), (.val (.int .i64 0)), (.val (.int .i64 0)), (.val (.string ⟨#[]⟩)), (.val (.int .i64 0)), (.val (.int .i64 0)), (.val (.string ⟨#[]⟩)), (.val (.int .i64 0)), (.val (.int .i64 0)), (.val (.string ⟨#[]⟩))], none⟩,
 ⟨none, .store 12 (.tmp 9) (.tmp 34), none⟩,
 ⟨(some 10), .mov (.tmp 35), none⟩]) (
 .trim [1, 2, 3, 4, 6, 8, 9, 10] [9] [] (
 .seq (
 .reg [⟨(some 36), .mov (.tmp 1), none⟩,
 ⟨(some 37), .bin .eql (.tmp 36) (.const (.string ⟨#[0]⟩)), none⟩,
 ⟨(some 38), .mov (.tmp 37), none⟩,
 ⟨(some 39), .mov (.tmp 2), (some (38, true))⟩,
 ⟨(some 40), .bin .eql (.tmp 39) (.const (.int .i64 0)), (some (38, true))⟩,
 ⟨(some 41), .pick (.tmp 38) (.tmp 40) (.const (.bool false)), none⟩,
 ⟨(some 42), .mov (.tmp 41), none⟩,
 ⟨(some 43), .mov (.tmp 3), (some (42, true))⟩,
 ⟨(some 44), .bin .eql (.tmp 43) (.const (.string ⟨#[1, 2, 0, 0, 0]⟩)), (some (42, true))⟩,
 ⟨(some 45), .pick (.tmp 42) (.tmp 44) (.const (.bool false)), none⟩,
 ⟨(some 46), .mov (.tmp 45), none⟩,
 ⟨(some 47), .mov (.tmp 4), (some (46, true))⟩,
 ⟨(some 48), .bin .eql (.tmp 47) (.const (.int .i64 0)), (some (46, true))⟩,
 ⟨(some 49), .pick (.tmp 46) (.tmp 48) (.const (.bool false)), none⟩,
 ⟨(some 50), .mov (.tmp 49), none⟩,
 ⟨(some 51), .mov (.tmp 6), (some (50, true))⟩,
 ⟨(some 52), .bin .eql (.tmp 51) (.const (.int .i64 1)), (some (50, true))⟩,
 ⟨(some 53), .pick (.tmp 50) (.tmp 52) (.const (.bool false)), none⟩,
 ⟨(some 54), .mov (.tmp 53), none⟩,
 ⟨(some 55), .mov (.tmp 8), (some (54, true))⟩,
 ⟨(some 56), .bin .eql (.tmp 55) (.const (.int .i64 2)), (some (54, true))⟩,
 ⟨(some 57), .pick (.tmp 54) (.tmp 56) (.const (.bool false)), none⟩,
 ⟨(some 58), .mov (.tmp 57), none⟩,
 ⟨(some 59), .iaddrA 4 3 (.tmp 9) (.const (.int .i64 0)), (some (58, true))⟩,
 ⟨(some 60), .faddr 1 (.tmp 59), (some (58, true))⟩,
 ⟨(some 61), .load none (.tmp 60), (some (58, true))⟩,
 ⟨(some 62), .bin .eql (.tmp 61) (.const (.int .i64 1)), (some (58, true))⟩,
 ⟨(some 63), .pick (.tmp 58) (.tmp 62) (.const (.bool false)), none⟩,
 ⟨(some 64), .mov (.tmp 63), none⟩,
 ⟨(some 65), .mov (.tmp 10), (some (64, true))⟩,
 ⟨(some 66), .bin .eql (.tmp 65) (.const (.int .i64 0)), (some (64, true))⟩,
 ⟨(some 67), .pick (.tmp 64) (.tmp 66) (.const (.bool false)), none⟩,
 ⟨(some 0), .mov (.tmp 67), none⟩]) (
 .ret)))))))))))))
theorem r27 : Runs Tryz.prog 27 m27.strip [.mov (.tmp 0)] 68 := ⟨by kernel_rfl, by kernel_rfl, Tryz.f27, Tryz.f27.body.getD .skip, Tryz.func27, by kernel_rfl, by kernel_rfl, by kernel_rfl, by kernel_rfl, by kernel_rfl⟩

def m30 : MC :=
 .seq (
 .reg [⟨(some 2), .mov (.const (.string ⟨#[]⟩)), none⟩]) (
 .trim [0] [] [] (
 .seq (
 .reg [⟨(some 6), .mov (.tmp 0), none⟩,
 ⟨(some 7), .lenL (.tmp 6), none⟩,
 ⟨(some 8), .conv .u64 (.tmp 7), none⟩,
 ⟨(some 9), .call (.func 65) [(.tmp 8)] .pure, none⟩,
 ⟨(some 3), .mov (.tmp 9), none⟩]) (
 .trim [0, 3] [] [] (
 .seq (
 .seq (
 .reg [⟨(some 4), .mov (.const (.int .i64 0)), none⟩]) (
 .trim [0, 3, 4] [] [] (
 .block 0 (
 .loop (
 .trim [0, 3, 4] [] [] (
 .seq (
 .seq (
 .reg [⟨(some 10), .mov (.tmp 4), none⟩,
 ⟨(some 11), .mov (.tmp 0), none⟩,
 ⟨(some 12), .lenL (.tmp 11), none⟩,
 ⟨(some 13), .bin .lss (.tmp 10) (.tmp 12), none⟩]) (
 .trim [0, 3, 4, 13] [] [] (
 .cond (.tmp 13) (
 .skip) (
 .exit 0)))) (
 .trim [0, 3, 4] [] [] (
 .seq (
 .block 1 (
 .seq (
 .reg [⟨(some 5), .mov (.const (.int .i64 0)), none⟩]) (
 .trim [0, 3, 4, 5] [] [] (
 .block 2 (
 .loop (
 .trim [0, 3, 4, 5] [] [] (
 .seq (
 .seq (
 .reg [⟨(some 16), .mov (.tmp 5), none⟩,
 ⟨(some 17), .bin .lss (.tmp 16) (.const (.int .i64 4)), none⟩]) (
 .trim [0, 3, 4, 5, 17] [] [] (
 .cond (.tmp 17) (
 .skip) (
 .exit 2)))) (
 .trim [0, 3, 4, 5] [] [] (
 .seq (
 .block 3 (
 .reg [⟨(some 20), .mov (.tmp 3), none⟩,
 ⟨(some 21), .mov (.tmp 0), none⟩,
 ⟨(some 22), .mov (.tmp 4), none⟩,
 ⟨(some 23), .mov (.tmp 5), none⟩,
 ⟨(some 24), .iaddrS 16 (.tmp 21) (.tmp 22), none⟩,
 ⟨(some 25), .iaddrA 4 4 (.tmp 24) (.tmp 23), none⟩,
 ⟨(some 26), .load (some 4) (.tmp 25), none⟩,
 ⟨(some 27), .call (.func 66) [(.tmp 26)] .pure, none⟩,
 ⟨(some 28), .bin .add (.tmp 20) (.tmp 27), none⟩,
 ⟨(some 3), .mov (.tmp 28), none⟩])) (
 .trim [0, 3, 4, 5] [] [] (
 .reg [⟨(some 18), .mov (.tmp 5), none⟩,
 ⟨(some 19), .bin .add (.tmp 18) (.const (.int .i64 1)), none⟩,
 ⟨(some 5), .mov (.tmp 19), none⟩]))))))))))) (
 .trim [0, 3, 4] [] [] (
 .reg [⟨(some 14), .mov (.tmp 4), none⟩,
 ⟨(some 15), .bin .add (.tmp 14) (.const (.int .i64 1)), none⟩,
 ⟨(some 4), .mov (.tmp 15), none⟩])))))))))) (
 .trim [3] [] [] (
 .seq (
 .reg [⟨(some 29), .mov (.tmp 3), none⟩,
 ⟨(some 2), .mov (.tmp 29), none⟩]) (
 .ret)))))))
theorem r30 : Runs Tryz.prog 30 m30.strip [.mov (.tmp 2)] 30 := ⟨by kernel_rfl, by kernel_rfl, Tryz.f30, Tryz.f30.body.getD .skip, Tryz.func30, by kernel_rfl, by kernel_rfl, by kernel_rfl, by kernel_rfl, by kernel_rfl⟩

def m65 : MC :=
 .seq (
 .reg [⟨(some 2), .mov (.const (.string ⟨#[]⟩)), none⟩]) (
 .trim [0] [] [] (
 .seq (
 .reg [⟨(some 5), .mov (.tmp 0), none⟩,
 ⟨(some 6), .call (.func 108) [(.tmp 5)] (.fresh 5 1), none⟩,
 ⟨(some 3), .mov (.tmp 6), none⟩]) (
 .trim [3] [] [(6, 5, 1)] (
 .seq (
 .seq (
 .reg [⟨(some 4), .mov (.const (.int .i64 0)), none⟩]) (
 .trim [3, 4] [] [(6, 5, 1)] (
 .block 0 (
 .loop (
 .trim [3, 4] [] [(6, 5, 1)] (
 .seq (
 .seq (
 .reg [⟨(some 7), .mov (.tmp 4), none⟩,
 ⟨(some 8), .mov (.tmp 3), none⟩,
 ⟨(some 9), .lenL (.tmp 8), none⟩,
 ⟨(some 10), .bin .sub (.tmp 9) (.const (.int .i64 1)), none⟩,
 ⟨(some 11), .bin .lss (.tmp 7) (.tmp 10), none⟩]) (
 .trim [3, 4, 11] [] [(6, 5, 1)] (
 .cond (.tmp 11) (
 .skip) (
 .exit 0)))) (
 .trim [3, 4] [] [(6, 5, 1)] (
 .seq (
 .block 1 (
 .reg [⟨(some 14), .mov (.tmp 3), none⟩,
 ⟨(some 15), .mov (.tmp 4), none⟩,
 ⟨(some 16), .iaddrS 1 (.tmp 14) (.tmp 15), none⟩,
 ⟨(some 17), .load none (.tmp 16), none⟩,
 ⟨(some 18), .bin .add (.tmp 17) (.const (.int .u8 128)), none⟩,
 ⟨(some 19), .iaddrS 1 (.tmp 14) (.tmp 15), none⟩,
 ⟨none, .store 1 (.tmp 19) (.tmp 18), none⟩])) (
 .trim [3, 4] [] [(6, 5, 1)] (
 .reg [⟨(some 12), .mov (.tmp 4), none⟩,
 ⟨(some 13), .bin .add (.tmp 12) (.const (.int .i64 1)), none⟩,
 ⟨(some 4), .mov (.tmp 13), none⟩])))))))))) (
 .trim [3] [] [(6, 5, 1)] (
 .seq (
 .reg [⟨(some 20), .mov (.tmp 3), none⟩,
 ⟨(some 21), .b2s (.tmp 20), none⟩,
 ⟨(some 2), .mov (.tmp 21), none⟩]) (
 .ret)))))))
theorem r65 : Runs Tryz.prog 65 m65.strip [.mov (.tmp 2)] 22 := ⟨by kernel_rfl, by kernel_rfl, Tryz.f65, Tryz.f65.body.getD .skip, Tryz.func65, by kernel_rfl, by kernel_rfl, by kernel_rfl, by kernel_rfl, by kernel_rfl⟩

def m66 : MC :=
 .seq (
 .reg [⟨(some 1), .box 25 4 (.tmp 0), none⟩,
 ⟨(some 2), .mov (.const (.string ⟨#[]⟩)), none⟩]) (
 .trim [1] [1] [] (
 .seq (
 .reg [⟨(some 3), .mov (.const (.int .i64 0)), none⟩]) (
 .trim [1, 3] [1] [] (
 .seq (
 .seq (
 .reg [⟨(some 7), .faddr 0 (.tmp 1), none⟩,
 ⟨(some 8), .load none (.tmp 7), none⟩]) (
 .trim [1, 3, 8] [1] [] (
 .cond (.tmp 8) (
 .reg [⟨(some 9), .mov (.tmp 3), none⟩,
 ⟨(some 10), .bin .add (.tmp 9) (.const (.int .i64 1)), none⟩,
 ⟨(some 3), .mov (.tmp 10), none⟩]) (
 .skip)))) (
 .trim [1, 3] [1] [] (
 .seq (
 .seq (
 .reg [⟨(some 11), .faddr 2 (.tmp 1), none⟩,
 ⟨(some 12), .load none (.tmp 11), none⟩]) (
 .trim [1, 3, 12] [1] [] (
 .cond (.tmp 12) (
 .reg [⟨(some 13), .mov (.tmp 3), none⟩,
 ⟨(some 14), .bin .add (.tmp 13) (.const (.int .i64 2)), none⟩,
 ⟨(some 3), .mov (.tmp 14), none⟩]) (
 .skip)))) (
 .trim [1, 3] [1] [] (
 .seq (
 .dreg 11 [⟨(some 15), .mov (.tmp 3), none⟩,
 ⟨(some 16), .conv .u8 (.tmp 15), none⟩,
 ⟨(some 17), .bslice 5 1 [(.val (.int .u8 0))] 1 [(0, 1, (.tmp 16))], none⟩,
 ⟨(some 18), .b2s (.tmp 17), none⟩,
 ⟨(some 19), .faddr 1 (.tmp 1), none⟩,
 ⟨(some 20), .load none (.tmp 19), none⟩,
 ⟨(some 21), .lenL (.tmp 20), none⟩,
 ⟨(some 22), .conv .u64 (.tmp 21), none⟩,
 ⟨(some 23), .call (.func 65) [(.tmp 22)] .pure, none⟩,
 ⟨(some 24), .bin .add (.tmp 18) (.tmp 23), none⟩,
 ⟨(some 4), .mov (.tmp 24), none⟩]) (
 .trim [1, 4] [1] [] (
 .seq (
 .seq (
 .reg [⟨(some 5), .mov (.const (.int .i64 0)), none⟩]) (
 .trim [1, 4, 5] [1] [] (
 .block 0 (
 .loop (
 .trim [1, 4, 5] [1] [] (
 .seq (
 .seq (
 .reg [⟨(some 25), .mov (.tmp 5), none⟩,
 ⟨(some 26), .faddr 1 (.tmp 1), none⟩,
 ⟨(some 27), .load none (.tmp 26), none⟩,
 ⟨(some 28), .lenL (.tmp 27), none⟩,
 ⟨(some 29), .bin .lss (.tmp 25) (.tmp 28), none⟩]) (
 .trim [1, 4, 5, 29] [1] [] (
 .cond (.tmp 29) (
 .skip) (
 .exit 0)))) (
 .trim [1, 4, 5] [1] [] (
 .seq (
 .block 1 (
 .dreg 18 [⟨(some 32), .mov (.tmp 4), none⟩,
 ⟨(some 33), .faddr 1 (.tmp 1), none⟩,
 ⟨(some 34), .load none (.tmp 33), none⟩,
 ⟨(some 35), .mov (.tmp 5), none⟩,
 ⟨(some 36), .iaddrS 2 (.tmp 34) (.tmp 35), none⟩,
 ⟨(some 37), .faddr 0 (.tmp 36), none⟩,
 ⟨(some 38), .load none (.tmp 37), none⟩,
 ⟨(some 39), .call (.func 78) [(.tmp 38)] .pure, none⟩,
 ⟨(some 40), .faddr 1 (.tmp 1), none⟩,
 ⟨(some 41), .load none (.tmp 40), none⟩,
 ⟨(some 42), .mov (.tmp 5), none⟩,
 ⟨(some 43), .iaddrS 2 (.tmp 41) (.tmp 42), none⟩,
 ⟨(some 44), .faddr 1 (.tmp 43), none⟩,
 ⟨(some 45), .load none (.tmp 44), none⟩,
 ⟨(some 46), .call (.func 78) [(.tmp 45)] .pure, none⟩,
 ⟨(some 47), .bin .add (.tmp 39) (.tmp 46), none⟩,
 ⟨(some 48), .bin .add (.tmp 32) (.tmp 47), none⟩,
 ⟨(some 4), .mov (.tmp 48), none⟩])) (
 .trim [1, 4, 5] [1] [] (
 .reg [⟨(some 30), .mov (.tmp 5), none⟩,
 ⟨(some 31), .bin .add (.tmp 30) (.const (.int .i64 1)), none⟩,
 ⟨(some 5), .mov (.tmp 31), none⟩])))))))))) (
 .trim [1, 4] [1] [] (
 .seq (
 .reg [⟨(some 49), .mov (.tmp 4), none⟩,
 ⟨(some 50), .faddr 3 (.tmp 1), none⟩,
 ⟨(some 51), .load none (.tmp 50), none⟩,
 ⟨(some 52), .lenL (.tmp 51), none⟩,
 ⟨(some 53), .conv .u64 (.tmp 52), none⟩,
 ⟨(some 54), .call (.func 65) [(.tmp 53)] .pure, none⟩,
 ⟨(some 55), .bin .add (.tmp 49) (.tmp 54), none⟩,
 ⟨(some 4), .mov (.tmp 55), none⟩]) (
 .trim [1, 4] [1] [] (
 .seq (
 .seq (
 .reg [⟨(some 6), .mov (.const (.int .i64 0)), none⟩]) (
 .trim [1, 4, 6] [1] [] (
 .block 2 (
 .loop (
 .trim [1, 4, 6] [1] [] (
 .seq (
 .seq (
 .reg [⟨(some 56), .mov (.tmp 6), none⟩,
 ⟨(some 57), .faddr 3 (.tmp 1), none⟩,
 ⟨(some 58), .load none (.tmp 57), none⟩,
 ⟨(some 59), .lenL (.tmp 58), none⟩,
 ⟨(some 60), .bin .lss (.tmp 56) (.tmp 59), none⟩]) (
 .trim [1, 4, 6, 60] [1] [] (
 .cond (.tmp 60) (
 .skip) (
 .exit 2)))) (
 .trim [1, 4, 6] [1] [] (
 .seq (
 .block 3 (
 .reg [⟨(some 63), .mov (.tmp 4), none⟩,
 ⟨(some 64), .faddr 3 (.tmp 1), none⟩,
 ⟨(some 65), .load none (.tmp 64), none⟩,
 ⟨(some 66), .mov (.tmp 6), none⟩,
 ⟨(some 67), .iaddrS 1 (.tmp 65) (.tmp 66), none⟩,
 ⟨(some 68), .load none (.tmp 67), none⟩,
 ⟨(some 69), .call (.func 79) [(.tmp 68)] .pure, none⟩,
 ⟨(some 70), .bin .add (.tmp 63) (.tmp 69), none⟩,
 ⟨(some 4), .mov (.tmp 70), none⟩])) (
 .trim [1, 4, 6] [1] [] (
 .reg [⟨(some 61), .mov (.tmp 6), none⟩,
 ⟨(some 62), .bin .add (.tmp 61) (.const (.int .i64 1)), none⟩,
 ⟨(some 6), .mov (.tmp 62), none⟩])))))))))) (
 .trim [4] [] [] (
 .seq (
 .reg [⟨(some 71), .mov (.tmp 4), none⟩,
 ⟨(some 2), .mov (.tmp 71), none⟩]) (
 .ret)))))))))))))))))
theorem r66 : Runs Tryz.prog 66 m66.strip [.mov (.tmp 2)] 72 := ⟨by kernel_rfl, by kernel_rfl, Tryz.f66, Tryz.f66.body.getD .skip, Tryz.func66, by kernel_rfl, by kernel_rfl, by kernel_rfl, by kernel_rfl, by kernel_rfl⟩

def m78 : MC :=
 .seq (
 .reg [⟨(some 2), .mov (.const (.string ⟨#[]⟩)), none⟩]) (
 .trim [0] [] [] (
 .seq (
 .seq (
 .reg [⟨(some 3), .mov (.tmp 0), none⟩,
 ⟨(some 4), .bin .geq (.tmp 3) (.const (.int .i64 0)), none⟩]) (
 .trim [0, 4] [] [] (
 .cond (.tmp 4) (
 .seq (
 .reg [⟨(some 5), .mov (.tmp 0), none⟩,
 ⟨(some 6), .conv .u64 (.tmp 5), none⟩,
 ⟨(some 7), .bin .mul (.const (.int .u64 2)) (.tmp 6), none⟩,
 ⟨(some 8), .call (.func 65) [(.tmp 7)] .pure, none⟩,
 ⟨(some 2), .mov (.tmp 8), none⟩]) (
 .ret)) (
 .skip)))) (
 .trim [0] [] [] (
 .seq (
 .reg [⟨(some 9), .mov (.tmp 0), none⟩,
 ⟨(some 10), .bin .sub (.const (.int .i64 (-1))) (.tmp 9), none⟩,
 ⟨(some 11), .conv .u64 (.tmp 10), none⟩,
 ⟨(some 12), .bin .mul (.const (.int .u64 2)) (.tmp 11), none⟩,
 ⟨(some 13), .bin .add (.tmp 12) (.const (.int .u64 1)), none⟩,
 ⟨(some 14), .call (.func 65) [(.tmp 13)] .pure, none⟩,
 ⟨(some 2), .mov (.tmp 14), none⟩]) (
 .ret)))))
theorem r78 : Runs Tryz.prog 78 m78.strip [.mov (.tmp 2)] 15 := ⟨by kernel_rfl, by kernel_rfl, Tryz.f78, Tryz.f78.body.getD .skip, Tryz.func78, by kernel_rfl, by kernel_rfl, by kernel_rfl, by kernel_rfl, by kernel_rfl⟩

def m79 : MC :=
 .seq (
 .reg [⟨(some 2), .mov (.const (.string ⟨#[]⟩)), none⟩]) (
 .trim [0] [] [] (
 .seq (
 .reg [⟨(some 3), .mov (.tmp 0), none⟩,
 ⟨(some 4), .lenS (.tmp 3), none⟩,
 ⟨(some 5), .conv .u64 (.tmp 4), none⟩,
 ⟨(some 6), .call (.func 65) [(.tmp 5)] .pure, none⟩,
 ⟨(some 7), .mov (.tmp 0), none⟩,
 ⟨(some 8), .bin .add (.tmp 6) (.tmp 7), none⟩,
 ⟨(some 2), .mov (.tmp 8), none⟩]) (
 .ret)))
theorem r79 : Runs Tryz.prog 79 m79.strip [.mov (.tmp 2)] 9 := ⟨by kernel_rfl, by kernel_rfl, Tryz.f79, Tryz.f79.body.getD .skip, Tryz.func79, by kernel_rfl, by kernel_rfl, by kernel_rfl, by kernel_rfl, by kernel_rfl⟩

def m108 : MC :=
 .seq (
 .reg [⟨(some 2), .nilsl 5 1, none⟩]) (
 .trim [0] [] [] (
 .seq (
 .seq (
 .reg [⟨(some 3), .mov (.tmp 0), none⟩,
 ⟨(some 4), .bin .lss (.tmp 3) (.const (.int .u64 128)), none⟩]) (
 .trim [0, 4] [] [] (
 .cond (.tmp 4) (
 .seq (
 .reg [⟨(some 5), .mov (.tmp 0), none⟩,
 ⟨(some 6), .conv .u8 (.tmp 5), none⟩,
 ⟨(some 7), .bslice 5 1 [(.val (.int .u8 0))] 1 [(0, 1, (.tmp 6))], none⟩,
 ⟨(some 2), .mov (.tmp 7), none⟩]) (
 .ret)) (
 .skip)))) (
 .trim [0] [] [] (
 .seq (
 .reg [⟨(some 8), .mov (.tmp 0), none⟩,
 ⟨(some 9), .bin .quo (.tmp 8) (.const (.int .u64 128)), none⟩,
 ⟨(some 10), .call (.func 108) [(.tmp 9)] (.fresh 5 1), none⟩,
 ⟨(some 11), .mov (.tmp 0), none⟩,
 ⟨(some 12), .bin .rem (.tmp 11) (.const (.int .u64 128)), none⟩,
 ⟨(some 13), .conv .u8 (.tmp 12), none⟩,
 ⟨(some 14), .bslice 5 1 [(.val (.int .u8 0))] 1 [(0, 1, (.tmp 13))], none⟩,
 ⟨(some 15), .append 5 1 1 (.tmp 10) (.tmp 14), none⟩,
 ⟨(some 2), .mov (.tmp 15), none⟩]) (
 .ret)))))
theorem r108 : Runs Tryz.prog 108 m108.strip [.mov (.tmp 2)] 16 := ⟨by kernel_rfl, by kernel_rfl, Tryz.f108, Tryz.f108.body.getD .skip, Tryz.func108, by kernel_rfl, by kernel_rfl, by kernel_rfl, by kernel_rfl, by kernel_rfl⟩

end Go.Proofs

