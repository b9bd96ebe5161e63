/- The functions, as code of the value machine (printed by program). -/
import Derived.Test.YtijhiblfdidnpaaGreatVm24
import Derived.Test.YtijhiblfdidnpaaGreatProg
set_option linter.unusedVariables false
set_option maxRecDepth 2000
namespace Go.Proofs
open Go.Vm
def m60 : MC :=
 .seq (
 .reg [⟨(some 1), .box 27 3 (.tmp 0), none⟩,
 ⟨(some 2), .mov (.const (.bool false)), none⟩]) (
 .trim [1] [1] [] (
 .seq (
 .seq (
 .reg [⟨(some 3), .faddr 0 (.tmp 1), none⟩,
 ⟨(some 4), .load none (.tmp 3), none⟩]) (
 .trim [1, 4] [1] [] (
 .block 0 (
 .seq (
 .reg [⟨(some 6), .bin .eql (.tmp 4) (.const (.int .i64 0)), none⟩,
 ⟨(some 5), .mov (.tmp 6), none⟩]) (
 .trim [1, 4, 5] [1] [] (
 .cond (.tmp 5) (
 .seq (
 .reg [⟨(some 7), .faddr 1 (.tmp 1), none⟩,
 ⟨(some 8), .load none (.tmp 7), none⟩,
 ⟨(some 9), .bin .eql (.tmp 8) (.const (.int .i64 0)), none⟩,
 ⟨(some 10), .mov (.tmp 9), none⟩,
 ⟨(some 11), .faddr 2 (.tmp 1), (some (10, true))⟩,
 ⟨(some 12), .load none (.tmp 11), (some (10, true))⟩,
 ⟨(some 13), .bin .eql (.tmp 12) (.const (.string ⟨#[]⟩)), (some (10, true))⟩,
 ⟨(some 14), .pick (.tmp 10) (.tmp 13) (.const (.bool false)), none⟩,
 ⟨(some 2), .mov (.tmp 14), none⟩]) (
 .ret)) (
 .seq (
 .reg [⟨(some 16), .bin .eql (.tmp 4) (.const (.int .i64 1)), none⟩,
 ⟨(some 15), .mov (.tmp 16), none⟩]) (
 .trim [1, 4, 15] [1] [] (
 .cond (.tmp 15) (
 .seq (
 .reg [⟨(some 17), .faddr 2 (.tmp 1), none⟩,
 ⟨(some 18), .load none (.tmp 17), none⟩,
 ⟨(some 19), .bin .eql (.tmp 18) (.const (.string ⟨#[]⟩)), none⟩,
 ⟨(some 2), .mov (.tmp 19), none⟩]) (
 .ret)) (
 .seq (
 .reg [⟨(some 21), .bin .eql (.tmp 4) (.const (.int .i64 2)), none⟩,
 ⟨(some 20), .mov (.tmp 21), none⟩]) (
 .trim [1, 20] [1] [] (
 .cond (.tmp 20) (
 .seq (
 .reg [⟨(some 22), .faddr 1 (.tmp 1), none⟩,
 ⟨(some 23), .load none (.tmp 22), none⟩,
 ⟨(some 24), .bin .eql (.tmp 23) (.const (.int .i64 0)), none⟩,
 ⟨(some 25), .mov (.tmp 24), none⟩,
 ⟨(some 26), .faddr 2 (.tmp 1), (some (25, true))⟩,
 ⟨(some 27), .load none (.tmp 26), (some (25, true))⟩,
 ⟨(some 28), .lenS (.tmp 27), (some (25, true))⟩,
 ⟨(some 29), .bin .leq (.tmp 28) (.const (.int .i64 8)), (some (25, true))⟩,
 ⟨(some 30), .pick (.tmp 25) (.tmp 29) (.const (.bool false)), none⟩,
 ⟨(some 2), .mov (.tmp 30), none⟩]) (
 .ret)) (
 .skip))))))))))))) (
 .trim [] [] [] (
 .seq (
 .reg [⟨(some 2), .mov (.const (.bool false)), none⟩]) (
 .ret)))))
theorem r60 : Runs Tryz.prog 60 m60.strip [.mov (.tmp 2)] 31 := ⟨by kernel_rfl, by kernel_rfl, Tryz.f60, Tryz.f60.body.getD .skip, Tryz.func60, by kernel_rfl, by kernel_rfl, by kernel_rfl, by kernel_rfl, by kernel_rfl⟩

def m79 : MC :=
 .seq (
 .reg [⟨(some 1), .box 27 3 (.tmp 0), none⟩,
 ⟨(some 2), .mov (.const (.bool false)), none⟩]) (
 .trim [1] [1] [] (
 .seq (
 .seq (
 .reg [⟨(some 3), .faddr 0 (.tmp 1), none⟩,
 ⟨(some 4), .load none (.tmp 3), none⟩]) (
 .trim [1, 4] [1] [] (
 .block 0 (
 .seq (
 .reg [⟨(some 6), .bin .eql (.tmp 4) (.const (.int .i64 0)), none⟩,
 ⟨(some 5), .mov (.tmp 6), none⟩]) (
 .trim [1, 4, 5] [1] [] (
 .cond (.tmp 5) (
 .seq (
 .reg [⟨(some 7), .load (some 3) (.tmp 1), none⟩,
 ⟨(some 8), .build [(.val (.int .i64 0)), (.val (.int .i64 0)), (.val (.string ⟨#[]⟩))] [], none⟩,
 ⟨(some 9), .eqs false [.i, .i, .s] (.tmp 7) (.tmp 8), none⟩,
 ⟨(some 2), .mov (.tmp 9), none⟩]) (
 .ret)) (
 .seq (
 .reg [⟨(some 11), .bin .eql (.tmp 4) (.const (.int .i64 1)), none⟩,
 ⟨(some 10), .mov (.tmp 11), none⟩]) (
 .trim [1, 4, 10] [1] [] (
 .cond (.tmp 10) (
 .seq (
 .reg [⟨(some 12), .faddr 2 (.tmp 1), none⟩,
 ⟨(some 13), .load none (.tmp 12), none⟩,
 ⟨(some 14), .bin .eql (.tmp 13) (.const (.string ⟨#[]⟩)), none⟩,
 ⟨(some 2), .mov (.tmp 14), none⟩]) (
 .ret)) (
 .seq (
 .reg [⟨(some 16), .bin .eql (.tmp 4) (.const (.int .i64 2)), none⟩,
 ⟨(some 15), .mov (.tmp 16), none⟩]) (
 .trim [1, 15] [1] [] (
 .cond (.tmp 15) (
 .seq (
 .reg [⟨(some 17), .faddr 1 (.tmp 1), none⟩,
 ⟨(some 18), .load none (.tmp 17), none⟩,
 ⟨(some 19), .bin .eql (.tmp 18) (.const (.int .i64 0)), none⟩,
 ⟨(some 20), .mov (.tmp 19), none⟩,
 ⟨(some 21), .faddr 2 (.tmp 1), (some (20, true))⟩,
 ⟨(some 22), .load none (.tmp 21), (some (20, true))⟩,
 ⟨(some 23), .lenS (.tmp 22), (some (20, true))⟩,
 ⟨(some 24), .bin .leq (.tmp 23) (.const (.int .i64 8)), (some (20, true))⟩,
 ⟨(some 25), .pick (.tmp 20) (.tmp 24) (.const (.bool false)), none⟩,
 ⟨(some 2), .mov (.tmp 25), none⟩]) (
 .ret)) (
 .skip))))))))))))) (
 .trim [] [] [] (
 .seq (
 .reg [⟨(some 2), .mov (.const (.bool false)), none⟩]) (
 .ret)))))
theorem r79 : Runs Tryz.prog 79 m79.strip [.mov (.tmp 2)] 26 := ⟨by kernel_rfl, by kernel_rfl, Tryz.f79, Tryz.f79.body.getD .skip, Tryz.func79, by kernel_rfl, by kernel_rfl, by kernel_rfl, by kernel_rfl, by kernel_rfl⟩

def m87 : MC :=
 .seq (
 .reg [⟨(some 1), .box 104 4 (.tmp 0), none⟩,
 ⟨(some 2), .mov (.const (.bool false)), none⟩]) (
 .trim [1] [1] [] (
 .seq (
 .seq (
 .reg [⟨(some 3), .mov (.const (.int .i64 0)), none⟩]) (
 .trim [1, 3] [1] [] (
 .block 0 (
 .loop (
 .trim [1, 3] [1] [] (
 .seq (
 .seq (
 .reg [⟨(some 6), .mov (.tmp 3), none⟩,
 ⟨(some 7), .faddr 1 (.tmp 1), none⟩,
 ⟨(some 8), .load none (.tmp 7), none⟩,
 ⟨(some 9), .lenL (.tmp 8), none⟩,
 ⟨(some 10), .bin .lss (.tmp 6) (.tmp 9), none⟩]) (
 .trim [1, 3, 10] [1] [] (
 .cond (.tmp 10) (
 .skip) (
 .exit 0)))) (
 .trim [1, 3] [1] [] (
 .seq (
 .block 1 (
 .seq (
 .reg [⟨(some 13), .faddr 1 (.tmp 1), none⟩,
 ⟨(some 14), .load none (.tmp 13), none⟩,
 ⟨(some 15), .mov (.tmp 3), none⟩,
 ⟨(some 16), .iaddrS 2 (.tmp 14) (.tmp 15), none⟩,
 ⟨(some 17), .load (some 2) (.tmp 16), none⟩,
 ⟨(some 4), .alloc 128 [(.val (.int .i64 0)), (.val (.int .i64 0))], none⟩,
 ⟨none, .store 2 (.tmp 4) (.tmp 17), none⟩]) (
 .trim [1, 3, 4] [1, 4] [] (
 .seq (
 .seq (
 .reg [⟨(some 18), .faddr 0 (.tmp 4), none⟩,
 ⟨(some 19), .load none (.tmp 18), none⟩,
 ⟨(some 20), .faddr 1 (.tmp 4), none⟩,
 ⟨(some 21), .load none (.tmp 20), none⟩,
 ⟨(some 22), .bin .gtr (.tmp 19) (.tmp 21), none⟩]) (
 .trim [1, 3, 4, 22] [1, 4] [] (
 .cond (.tmp 22) (
 .seq (
 .reg [⟨(some 2), .mov (.const (.bool false)), none⟩]) (
 .ret)) (
 .skip)))) (
 .trim [1, 3, 4] [1, 4] [] (
 .seq (
 .dreg 27 [⟨(some 23), .mov (.tmp 3), none⟩,
 ⟨(some 24), .bin .gtr (.tmp 23) (.const (.int .i64 0)), none⟩,
 ⟨(some 25), .mov (.tmp 24), none⟩,
 ⟨(some 26), .faddr 1 (.tmp 1), (some (25, true))⟩,
 ⟨(some 27), .load none (.tmp 26), (some (25, true))⟩,
 ⟨(some 28), .mov (.tmp 3), (some (25, true))⟩,
 ⟨(some 29), .bin .sub (.tmp 28) (.const (.int .i64 1)), (some (25, true))⟩,
 ⟨(some 30), .iaddrS 2 (.tmp 27) (.tmp 29), (some (25, true))⟩,
 ⟨(some 31), .faddr 1 (.tmp 30), (some (25, true))⟩,
 ⟨(some 32), .load none (.tmp 31), (some (25, true))⟩,
 ⟨(some 33), .faddr 0 (.tmp 4), (some (25, true))⟩,
 ⟨(some 34), .load none (.tmp 33), (some (25, true))⟩,
 ⟨(some 35), .bin .geq (.tmp 32) (.tmp 34), (some (25, true))⟩,
 ⟨(some 36), .mov (.tmp 35), (some (25, true))⟩,
 ⟨(some 37), .faddr 1 (.tmp 1), (some (36, false))⟩,
 ⟨(some 38), .load none (.tmp 37), (some (36, false))⟩,
 ⟨(some 39), .mov (.tmp 3), (some (36, false))⟩,
 ⟨(some 40), .bin .sub (.tmp 39) (.const (.int .i64 1)), (some (36, false))⟩,
 ⟨(some 41), .iaddrS 2 (.tmp 38) (.tmp 40), (some (36, false))⟩,
 ⟨(some 42), .faddr 1 (.tmp 41), (some (36, false))⟩,
 ⟨(some 43), .load none (.tmp 42), (some (36, false))⟩,
 ⟨(some 44), .bin .add (.tmp 43) (.const (.int .i64 1)), (some (36, false))⟩,
 ⟨(some 45), .faddr 0 (.tmp 4), (some (36, false))⟩,
 ⟨(some 46), .load none (.tmp 45), (some (36, false))⟩,
 ⟨(some 47), .bin .geq (.tmp 44) (.tmp 46), (some (36, false))⟩,
 ⟨(some 48), .pick (.tmp 36) (.const (.bool true)) (.tmp 47), (some (25, true))⟩,
 ⟨(some 49), .pick (.tmp 25) (.tmp 48) (.const (.bool false)), none⟩]) (
 .trim [1, 3, 49] [1] [] (
 .cond (.tmp 49) (
 .seq (
 .reg [⟨(some 2), .mov (.const (.bool false)), none⟩]) (
 .ret)) (
 .skip))))))))) (
 .trim [1, 3] [1] [] (
 .reg [⟨(some 11), .mov (.tmp 3), none⟩,
 ⟨(some 12), .bin .add (.tmp 11) (.const (.int .i64 1)), none⟩,
 ⟨(some 3), .mov (.tmp 12), none⟩])))))))))) (
 .trim [1] [1] [] (
 .seq (
 .seq (
 .reg [⟨(some 5), .mov (.const (.int .i64 0)), none⟩]) (
 .trim [1, 5] [1] [] (
 .block 2 (
 .loop (
 .trim [1, 5] [1] [] (
 .seq (
 .seq (
 .reg [⟨(some 50), .mov (.tmp 5), none⟩,
 ⟨(some 51), .faddr 3 (.tmp 1), none⟩,
 ⟨(some 52), .load none (.tmp 51), none⟩,
 ⟨(some 53), .lenL (.tmp 52), none⟩,
 ⟨(some 54), .bin .lss (.tmp 50) (.tmp 53), none⟩]) (
 .trim [1, 5, 54] [1] [] (
 .cond (.tmp 54) (
 .skip) (
 .exit 2)))) (
 .trim [1, 5] [1] [] (
 .seq (
 .block 3 (
 .seq (
 .dreg 25 [⟨(some 57), .faddr 3 (.tmp 1), none⟩,
 ⟨(some 58), .load none (.tmp 57), none⟩,
 ⟨(some 59), .mov (.tmp 5), none⟩,
 ⟨(some 60), .iaddrS 1 (.tmp 58) (.tmp 59), none⟩,
 ⟨(some 61), .load none (.tmp 60), none⟩,
 ⟨(some 62), .lenS (.tmp 61), none⟩,
 ⟨(some 63), .bin .gtr (.tmp 62) (.const (.int .i64 8)), none⟩,
 ⟨(some 64), .mov (.tmp 63), none⟩,
 ⟨(some 65), .mov (.tmp 5), (some (64, false))⟩,
 ⟨(some 66), .bin .gtr (.tmp 65) (.const (.int .i64 0)), (some (64, false))⟩,
 ⟨(some 67), .mov (.tmp 66), (some (64, false))⟩,
 ⟨(some 68), .faddr 3 (.tmp 1), (some (67, true))⟩,
 ⟨(some 69), .load none (.tmp 68), (some (67, true))⟩,
 ⟨(some 70), .mov (.tmp 5), (some (67, true))⟩,
 ⟨(some 71), .bin .sub (.tmp 70) (.const (.int .i64 1)), (some (67, true))⟩,
 ⟨(some 72), .iaddrS 1 (.tmp 69) (.tmp 71), (some (67, true))⟩,
 ⟨(some 73), .load none (.tmp 72), (some (67, true))⟩,
 ⟨(some 74), .faddr 3 (.tmp 1), (some (67, true))⟩,
 ⟨(some 75), .load none (.tmp 74), (some (67, true))⟩,
 ⟨(some 76), .mov (.tmp 5), (some (67, true))⟩,
 ⟨(some 77), .iaddrS 1 (.tmp 75) (.tmp 76), (some (67, true))⟩,
 ⟨(some 78), .load none (.tmp 77), (some (67, true))⟩,
 ⟨(some 79), .bin .geq (.tmp 73) (.tmp 78), (some (67, true))⟩,
 ⟨(some 80), .pick (.tmp 67) (.tmp 79) (.const (.bool false)), (some (64, false))⟩,
 ⟨(some 81), .pick (.tmp 64) (.const (.bool true)) (.tmp 80), none⟩]) (
 .trim [1, 5, 81] [1] [] (
 .cond (.tmp 81) (
 .seq (
 .reg [⟨(some 2), .mov (.const (.bool false)), none⟩]) (
 .ret)) (
 .skip))))) (
 .trim [1, 5] [1] [] (
 .reg [⟨(some 55), .mov (.tmp 5), none⟩,
 ⟨(some 56), .bin .add (.tmp 55) (.const (.int .i64 1)), none⟩,
 ⟨(some 5), .mov (.tmp 56), none⟩])))))))))) (
 .trim [] [] [] (
 .seq (
 .reg [⟨(some 2), .mov (.const (.bool true)), none⟩]) (
 .ret)))))))
theorem r87 : Runs Tryz.prog 87 m87.strip [.mov (.tmp 2)] 82 := ⟨by kernel_rfl, by kernel_rfl, Tryz.f87, Tryz.f87.body.getD .skip, Tryz.func87, by kernel_rfl, by kernel_rfl, by kernel_rfl, by kernel_rfl, by kernel_rfl⟩

def m97 : MC :=
 .seq (
 .reg [⟨(some 2), .mov (.const (.bool false)), none⟩]) (
 .trim [0] [] [] (
 .seq (
 .seq (
 .reg [⟨(some 3), .mov (.const (.int .i64 0)), none⟩]) (
 .trim [0, 3] [] [] (
 .block 0 (
 .loop (
 .trim [0, 3] [] [] (
 .seq (
 .seq (
 .reg [⟨(some 5), .mov (.tmp 3), none⟩,
 ⟨(some 6), .mov (.tmp 0), none⟩,
 ⟨(some 7), .lenL (.tmp 6), none⟩,
 ⟨(some 8), .bin .lss (.tmp 5) (.tmp 7), none⟩]) (
 .trim [0, 3, 8] [] [] (
 .cond (.tmp 8) (
 .skip) (
 .exit 0)))) (
 .trim [0, 3] [] [] (
 .seq (
 .block 1 (
 .seq (
 .seq (
 .reg [⟨(some 11), .mov (.tmp 0), none⟩,
 ⟨(some 12), .mov (.tmp 3), none⟩,
 ⟨(some 13), .iaddrS 4 (.tmp 11) (.tmp 12), none⟩,
 ⟨(some 14), .faddr 1 (.tmp 13), none⟩,
 ⟨(some 15), .load none (.tmp 14), none⟩,
 ⟨(some 16), .lenL (.tmp 15), none⟩,
 ⟨(some 17), .bin .gtr (.tmp 16) (.const (.int .i64 40)), none⟩,
 ⟨(some 18), .mov (.tmp 17), none⟩,
 ⟨(some 19), .mov (.tmp 0), (some (18, false))⟩,
 ⟨(some 20), .mov (.tmp 3), (some (18, false))⟩,
 ⟨(some 21), .iaddrS 4 (.tmp 19) (.tmp 20), (some (18, false))⟩,
 ⟨(some 22), .faddr 3 (.tmp 21), (some (18, false))⟩,
 ⟨(some 23), .load none (.tmp 22), (some (18, false))⟩,
 ⟨(some 24), .lenL (.tmp 23), (some (18, false))⟩,
 ⟨(some 25), .bin .gtr (.tmp 24) (.const (.int .i64 40)), (some (18, false))⟩,
 ⟨(some 26), .pick (.tmp 18) (.const (.bool true)) (.tmp 25), none⟩]) (
 .trim [0, 3, 26] [] [] (
 .cond (.tmp 26) (
 .seq (
 .reg [⟨(some 2), .mov (.const (.bool false)), none⟩]) (
 .ret)) (
 .skip)))) (
 .trim [0, 3] [] [] (
 .seq (
 .reg [⟨(some 4), .mov (.const (.int .i64 0)), none⟩]) (
 .trim [0, 3, 4] [] [] (
 .block 2 (
 .loop (
 .trim [0, 3, 4] [] [] (
 .seq (
 .seq (
 .reg [⟨(some 27), .mov (.tmp 4), none⟩,
 ⟨(some 28), .mov (.tmp 0), none⟩,
 ⟨(some 29), .mov (.tmp 3), none⟩,
 ⟨(some 30), .iaddrS 4 (.tmp 28) (.tmp 29), none⟩,
 ⟨(some 31), .faddr 3 (.tmp 30), none⟩,
 ⟨(some 32), .load none (.tmp 31), none⟩,
 ⟨(some 33), .lenL (.tmp 32), none⟩,
 ⟨(some 34), .bin .lss (.tmp 27) (.tmp 33), none⟩]) (
 .trim [0, 3, 4, 34] [] [] (
 .cond (.tmp 34) (
 .skip) (
 .exit 2)))) (
 .trim [0, 3, 4] [] [] (
 .seq (
 .block 3 (
 .seq (
 .reg [⟨(some 37), .mov (.tmp 0), none⟩,
 ⟨(some 38), .mov (.tmp 3), none⟩,
 ⟨(some 39), .iaddrS 4 (.tmp 37) (.tmp 38), none⟩,
 ⟨(some 40), .faddr 3 (.tmp 39), none⟩,
 ⟨(some 41), .load none (.tmp 40), none⟩,
 ⟨(some 42), .mov (.tmp 4), none⟩,
 ⟨(some 43), .iaddrS 1 (.tmp 41) (.tmp 42), none⟩,
 ⟨(some 44), .load none (.tmp 43), none⟩,
 ⟨(some 45), .lenS (.tmp 44), none⟩,
 ⟨(some 46), .bin .gtr (.tmp 45) (.const (.int .i64 100)), none⟩]) (
 .trim [0, 3, 4, 46] [] [] (
 .cond (.tmp 46) (
 .seq (
 .reg [⟨(some 2), .mov (.const (.bool false)), none⟩]) (
 .ret)) (
 .skip))))) (
 .trim [0, 3, 4] [] [] (
 .reg [⟨(some 35), .mov (.tmp 4), none⟩,
 ⟨(some 36), .bin .add (.tmp 35) (.const (.int .i64 1)), none⟩,
 ⟨(some 4), .mov (.tmp 36), none⟩]))))))))))))) (
 .trim [0, 3] [] [] (
 .reg [⟨(some 9), .mov (.tmp 3), none⟩,
 ⟨(some 10), .bin .add (.tmp 9) (.const (.int .i64 1)), none⟩,
 ⟨(some 3), .mov (.tmp 10), none⟩])))))))))) (
 .trim [] [] [] (
 .seq (
 .reg [⟨(some 2), .mov (.const (.bool true)), none⟩]) (
 .ret)))))
theorem r97 : Runs Tryz.prog 97 m97.strip [.mov (.tmp 2)] 47 := ⟨by kernel_rfl, by kernel_rfl, Tryz.f97, Tryz.f97.body.getD .skip, Tryz.func97, by kernel_rfl, by kernel_rfl, by kernel_rfl, by kernel_rfl, by kernel_rfl⟩

def m103 : MC :=
 .seq (
 .reg [⟨(some 2), .box 104 4 (.tmp 0), none⟩,
 ⟨(some 3), .box 104 4 (.tmp 1), none⟩,
 ⟨(some 4), .mov (.const (.bool false)), none⟩]) (
 .trim [2, 3] [2, 3] [] (
 .seq (
 .reg [⟨(some 7), .load (some 4) (.tmp 2), none⟩,
 ⟨(some 8), .load (some 4) (.tmp 3), none⟩,
 ⟨(some 9), .bslice 104 4 [(.val (.bool false)), (.sl none []), (.val (.bool false)), (.sl none [])] 2 [(0, 4, (.tmp 7)), (4, 4, (.tmp 8))], none⟩,
 ⟨(some 10), .call (.func 108) [(.tmp 9)] (.fresh 27 3), none⟩,
 ⟨(some 5), .mov (.tmp 10), none⟩]) (
 .trim [2, 3, 5] [2, 3] [(10, 27, 3)] (
 .seq (
 .seq (
 .reg [⟨(some 6), .mov (.const (.int .i64 0)), none⟩]) (
 .trim [2, 3, 5, 6] [2, 3] [(10, 27, 3)] (
 .block 0 (
 .loop (
 .trim [2, 3, 5, 6] [2, 3] [(10, 27, 3)] (
 .seq (
 .seq (
 .reg [⟨(some 11), .mov (.tmp 6), none⟩,
 ⟨(some 12), .mov (.tmp 5), none⟩,
 ⟨(some 13), .lenL (.tmp 12), none⟩,
 ⟨(some 14), .bin .lss (.tmp 11) (.tmp 13), none⟩]) (
 .trim [2, 3, 5, 6, 14] [2, 3] [(10, 27, 3)] (
 .cond (.tmp 14) (
 .skip) (
 .exit 0)))) (
 .trim [2, 3, 5, 6] [2, 3] [(10, 27, 3)] (
 .seq (
 .block 1 (
 .seq (
 .dreg 15 [⟨(some 17), .load (some 4) (.tmp 2), none⟩,
 ⟨(some 18), .mov (.tmp 5), none⟩,
 ⟨(some 19), .mov (.tmp 6), none⟩,
 ⟨(some 20), .iaddrS 3 (.tmp 18) (.tmp 19), none⟩,
 ⟨(some 21), .load (some 3) (.tmp 20), none⟩,
 ⟨(some 22), .call (.func 109) [(.tmp 17), (.tmp 21)] .pure, none⟩,
 ⟨(some 23), .mov (.tmp 22), none⟩,
 ⟨(some 24), .load (some 4) (.tmp 3), (some (23, true))⟩,
 ⟨(some 25), .mov (.tmp 5), (some (23, true))⟩,
 ⟨(some 26), .mov (.tmp 6), (some (23, true))⟩,
 ⟨(some 27), .iaddrS 3 (.tmp 25) (.tmp 26), (some (23, true))⟩,
 ⟨(some 28), .load (some 3) (.tmp 27), (some (23, true))⟩,
 ⟨(some 29), .call (.func 109) [(.tmp 24), (.tmp 28)] .pure, (some (23, true))⟩,
 ⟨(some 30), .un .not (.tmp 29), (some (23, true))⟩,
 ⟨(some 31), .pick (.tmp 23) (.tmp 30) (.const (.bool false)), none⟩]) (
 .trim [2, 3, 5, 6, 31] [2, 3] [(10, 27, 3)] (
 .cond (.tmp 31) (
 .seq (
 .reg [⟨(some 4), .mov (.const (.bool false)), none⟩]) (
 .ret)) (
 .skip))))) (
 .trim [2, 3, 5, 6] [2, 3] [(10, 27, 3)] (
 .reg [⟨(some 15), .mov (.tmp 6), none⟩,
 ⟨(some 16), .bin .add (.tmp 15) (.const (.int .i64 1)), none⟩,
 ⟨(some 6), .mov (.tmp 16), none⟩])))))))))) (
 .trim [] [] [] (
 .seq (
 .reg [⟨(some 4), .mov (.const (.bool true)), none⟩]) (
 .ret)))))))
theorem r103 : Runs Tryz.prog 103 m103.strip [.mov (.tmp 4)] 32 := ⟨by kernel_rfl, by kernel_rfl, Tryz.f103, Tryz.f103.body.getD .skip, Tryz.func103, by kernel_rfl, by kernel_rfl, by kernel_rfl, by kernel_rfl, by kernel_rfl⟩

def m106 : MC :=
 .seq (
 .reg [⟨(some 1), .box 104 4 (.tmp 0), none⟩,
 ⟨(some 2), .mov (.const (.bool false)), none⟩]) (
 .trim [1] [1] [] (
 .seq (
 .reg [⟨(some 3), .faddr 0 (.tmp 1), none⟩,
 ⟨(some 4), .load none (.tmp 3), none⟩,
 ⟨(some 5), .un .not (.tmp 4), none⟩,
 ⟨(some 6), .mov (.tmp 5), none⟩,
 ⟨(some 7), .faddr 1 (.tmp 1), (some (6, true))⟩,
 ⟨(some 8), .load none (.tmp 7), (some (6, true))⟩,
 ⟨(some 9), .lenL (.tmp 8), (some (6, true))⟩,
 ⟨(some 10), .bin .eql (.tmp 9) (.const (.int .i64 0)), (some (6, true))⟩,
 ⟨(some 11), .pick (.tmp 6) (.tmp 10) (.const (.bool false)), none⟩,
 ⟨(some 12), .mov (.tmp 11), none⟩,
 ⟨(some 13), .faddr 2 (.tmp 1), (some (12, true))⟩,
 ⟨(some 14), .load none (.tmp 13), (some (12, true))⟩,
 ⟨(some 15), .un .not (.tmp 14), (some (12, true))⟩,
 ⟨(some 16), .pick (.tmp 12) (.tmp 15) (.const (.bool false)), none⟩,
 ⟨(some 17), .mov (.tmp 16), none⟩,
 ⟨(some 18), .faddr 3 (.tmp 1), (some (17, true))⟩,
 ⟨(some 19), .load none (.tmp 18), (some (17, true))⟩,
 ⟨(some 20), .lenL (.tmp 19), (some (17, true))⟩,
 ⟨(some 21), .bin .eql (.tmp 20) (.const (.int .i64 0)), (some (17, true))⟩,
 ⟨(some 22), .pick (.tmp 17) (.tmp 21) (.const (.bool false)), none⟩,
 ⟨(some 2), .mov (.tmp 22), none⟩]) (
 .ret)))
theorem r106 : Runs Tryz.prog 106 m106.strip [.mov (.tmp 2)] 23 := ⟨by kernel_rfl, by kernel_rfl, Tryz.f106, Tryz.f106.body.getD .skip, Tryz.func106, by kernel_rfl, by kernel_rfl, by kernel_rfl, by kernel_rfl, by kernel_rfl⟩

def m108 : MC :=
 .seq (
 .reg [⟨(some 2), .nilsl 27 3, none⟩]) (
 .trim [0] [] [] (
 .seq (
 .reg [⟨(some 9), .build [(.val (.int .i64 0)), (.val (.int .i64 0)), (.val (.string ⟨#[]⟩))] [], none⟩,
 ⟨(some 10), .build [(.val (.int .i64 0)), (.val (.int .i64 0)), (.val (.string ⟨#[]⟩))] [(0, 1, (.const (.int .i64 1))), (1, 1, (.const (.int .i64 (-9223372036854775808))))], none⟩,
 ⟨(some 11), .build [(.val (.int .i64 0)), (.val (.int .i64 0)), (.val (.string ⟨#[]⟩))] [(0, 1, (.const (.int .i64 1))), (1, 1, (.const (.int .i64 9223372036854775807)))], none⟩,
 ⟨(some 12), .build [(.val (.int .i64 0)), (.val (.int .i64 0)), (.val (.string ⟨#[]⟩))] [(0, 1, (.const (.int .i64 1)))], none⟩,
 ⟨(some 13), .bslice 27 3 [(.val (.int .i64 0)), (.val (.int .i64 0)), (.val (.string ⟨#[]⟩))] 4 [(0, 3, (.tmp 9)), (3, 3, (.tmp 10)), (6, 3, (.tmp 11)), (9, 3, (.tmp 12))], none⟩,
 ⟨(some 3), .mov (.tmp 13), none⟩]) (
 .trim [0, 3] [] [(13, 27, 3)] (
 .seq (
 .reg [⟨(some 4), .mov (.const (.string ⟨#[126]⟩)), none⟩]) (
 .trim [0, 3, 4] [] [(13, 27, 3)] (
 .seq (
 .seq (
 .reg [⟨(some 5), .mov (.const (.int .i64 0)), none⟩]) (
 .trim [0, 3, 4, 5] [] [(13, 27, 3)] (
 .block 0 (
 .loop (
 .trim [0, 3, 4, 5] [] [(13, 27, 3)] (
 .seq (
 .seq (
 .reg [⟨(some 14), .mov (.tmp 5), none⟩,
 ⟨(some 15), .mov (.tmp 0), none⟩,
 ⟨(some 16), .lenL (.tmp 15), none⟩,
 ⟨(some 17), .bin .lss (.tmp 14) (.tmp 16), none⟩]) (
 .trim [0, 3, 4, 5, 17] [] [(13, 27, 3)] (
 .cond (.tmp 17) (
 .skip) (
 .exit 0)))) (
 .trim [0, 3, 4, 5] [] [(13, 27, 3)] (
 .seq (
 .block 1 (
 .seq (
 .seq (
 .reg [⟨(some 6), .mov (.const (.int .i64 0)), none⟩]) (
 .trim [0, 3, 4, 5, 6] [] [(13, 27, 3)] (
 .block 2 (
 .loop (
 .trim [0, 3, 4, 5, 6] [] [(13, 27, 3)] (
 .seq (
 .seq (
 .reg [⟨(some 20), .mov (.tmp 6), none⟩,
 ⟨(some 21), .mov (.tmp 0), none⟩,
 ⟨(some 22), .mov (.tmp 5), none⟩,
 ⟨(some 23), .iaddrS 4 (.tmp 21) (.tmp 22), none⟩,
 ⟨(some 24), .faddr 1 (.tmp 23), none⟩,
 ⟨(some 25), .load none (.tmp 24), none⟩,
 ⟨(some 26), .lenL (.tmp 25), none⟩,
 ⟨(some 27), .bin .lss (.tmp 20) (.tmp 26), none⟩]) (
 .trim [0, 3, 4, 5, 6, 27] [] [(13, 27, 3)] (
 .cond (.tmp 27) (
 .skip) (
 .exit 2)))) (
 .trim [0, 3, 4, 5, 6] [] [(13, 27, 3)] (
 .seq (
 .block 3 (
 .seq (
 .reg [⟨(some 30), .mov (.tmp 0), none⟩,
 ⟨(some 31), .mov (.tmp 5), none⟩,
 ⟨(some 32), .iaddrS 4 (.tmp 30) (.tmp 31), none⟩,
 ⟨(some 33), .faddr 1 (.tmp 32), none⟩,
 ⟨(some 34), .load none (.tmp 33), none⟩,
 ⟨(some 35), .mov (.tmp 6), none⟩,
 ⟨(some 36), .iaddrS 2 (.tmp 34) (.tmp 35), none⟩,
 ⟨(some 37), .load (some 2) (.tmp 36), none⟩,
 ⟨(some 7), .alloc 128 [(.val (.int .i64 0)), (.val (.int .i64 0))], none⟩,
 ⟨none, .store 2 (.tmp 7) (.tmp 37), none⟩]) (
 .trim [0, 3, 4, 5, 6, 7] [7] [(13, 27, 3)] (
 .seq (
 .reg [⟨(some 38), .mov (.tmp 3), none⟩,
 ⟨(some 39), .faddr 0 (.tmp 7), none⟩,
 ⟨(some 40), .load none (.tmp 39), none⟩,
 ⟨(some 41), .build [(.val (.int .i64 0)), (.val (.int .i64 0)), (.val (.string ⟨#[]⟩))] [(0, 1, (.const (.int .i64 1))), (1, 1, (.tmp 40))], none⟩,
 ⟨(some 42), .faddr 1 (.tmp 7), none⟩,
 ⟨(some 43), .load none (.tmp 42), none⟩,
 ⟨(some 44), .build [(.val (.int .i64 0)), (.val (.int .i64 0)), (.val (.string ⟨#[]⟩))] [(0, 1, (.const (.int .i64 1))), (1, 1, (.tmp 43))], none⟩,
 ⟨(some 45), .bslice 27 3 [(.val (.int .i64 0)), (.val (.int .i64 0)), (.val (.string ⟨#[]⟩))] 2 [(0, 3, (.tmp 41)), (3, 3, (.tmp 44))], none⟩,
 ⟨(some 46), .append 27 3 32 (.tmp 38) (.tmp 45), none⟩,
 ⟨(some 3), .mov (.tmp 46), none⟩]) (
 .trim [0, 3, 4, 5, 6, 7] [7] [(13, 27, 3)] (
 .seq (
 .seq (
 .reg [⟨(some 47), .faddr 0 (.tmp 7), none⟩,
 ⟨(some 48), .load none (.tmp 47), none⟩,
 ⟨(some 49), .bin .gtr (.tmp 48) (.const (.int .i64 (-9223372036854775808))), none⟩]) (
 .trim [0, 3, 4, 5, 6, 7, 49] [7] [(13, 27, 3)] (
 .cond (.tmp 49) (
 .reg [⟨(some 50), .mov (.tmp 3), none⟩,
 ⟨(some 51), .faddr 0 (.tmp 7), none⟩,
 ⟨(some 52), .load none (.tmp 51), none⟩,
 ⟨(some 53), .bin .sub (.tmp 52) (.const (.int .i64 1)), none⟩,
 ⟨(some 54), .build [(.val (.int .i64 0)), (.val (.int .i64 0)), (.val (.string ⟨#[]⟩))] [(0, 1, (.const (.int .i64 1))), (1, 1, (.tmp 53))], none⟩,
 ⟨(some 55), .bslice 27 3 [(.val (.int .i64 0)), (.val (.int .i64 0)), (.val (.string ⟨#[]⟩))] 1 [(0, 3, (.tmp 54))], none⟩,
 ⟨(some 56), .append 27 3 32 (.tmp 50) (.tmp 55), none⟩,
 ⟨(some 3), .mov (.tmp 56), none⟩]) (
 .skip)))) (
 .trim [0, 3, 4, 5, 6, 7] [7] [(13, 27, 3)] (
 .seq (
 .reg [⟨(some 57), .faddr 1 (.tmp 7), none⟩,
 ⟨(some 58), .load none (.tmp 57), none⟩,
 ⟨(some 59), .bin .lss (.tmp 58) (.const (.int .i64 9223372036854775807)), none⟩]) (
 .trim [0, 3, 4, 5, 6, 7, 59] [7] [(13, 27, 3)] (
 .cond (.tmp 59) (
 .reg [⟨(some 60), .mov (.tmp 3), none⟩,
 ⟨(some 61), .faddr 1 (.tmp 7), none⟩,
 ⟨(some 62), .load none (.tmp 61), none⟩,
 ⟨(some 63), .bin .add (.tmp 62) (.const (.int .i64 1)), none⟩,
 ⟨(some 64), .build [(.val (.int .i64 0)), (.val (.int .i64 0)), (.val (.string ⟨#[]⟩))] [(0, 1, (.const (.int .i64 1))), (1, 1, (.tmp 63))], none⟩,
 ⟨(some 65), .bslice 27 3 [(.val (.int .i64 0)), (.val (.int .i64 0)), (.val (.string ⟨#[]⟩))] 1 [(0, 3, (.tmp 64))], none⟩,
 ⟨(some 66), .append 27 3 32 (.tmp 60) (.tmp 65), none⟩,
 ⟨(some 3), .mov (.tmp 66), none⟩]) (
 .skip))))))))))) (
 .trim [0, 3, 4, 5, 6] [] [(13, 27, 3)] (
 .reg [⟨(some 28), .mov (.tmp 6), none⟩,
 ⟨(some 29), .bin .add (.tmp 28) (.const (.int .i64 1)), none⟩,
 ⟨(some 6), .mov (.tmp 29), none⟩])))))))))) (
 .trim [0, 3, 4, 5] [] [(13, 27, 3)] (
 .seq (
 .reg [⟨(some 8), .mov (.const (.int .i64 0)), none⟩]) (
 .trim [0, 3, 4, 5, 8] [] [(13, 27, 3)] (
 .block 4 (
 .loop (
 .trim [0, 3, 4, 5, 8] [] [(13, 27, 3)] (
 .seq (
 .seq (
 .reg [⟨(some 67), .mov (.tmp 8), none⟩,
 ⟨(some 68), .mov (.tmp 0), none⟩,
 ⟨(some 69), .mov (.tmp 5), none⟩,
 ⟨(some 70), .iaddrS 4 (.tmp 68) (.tmp 69), none⟩,
 ⟨(some 71), .faddr 3 (.tmp 70), none⟩,
 ⟨(some 72), .load none (.tmp 71), none⟩,
 ⟨(some 73), .lenL (.tmp 72), none⟩,
 ⟨(some 74), .bin .lss (.tmp 67) (.tmp 73), none⟩]) (
 .trim [0, 3, 4, 5, 8, 74] [] [(13, 27, 3)] (
 .cond (.tmp 74) (
 .skip) (
 .exit 4)))) (
 .trim [0, 3, 4, 5, 8] [] [(13, 27, 3)] (
 .seq (
 .block 5 (
 .reg [⟨(some 77), .mov (.tmp 3), none⟩,
 ⟨(some 78), .mov (.tmp 0), none⟩,
 ⟨(some 79), .mov (.tmp 5), none⟩,
 ⟨(some 80), .iaddrS 4 (.tmp 78) (.tmp 79), none⟩,
 ⟨(some 81), .faddr 3 (.tmp 80), none⟩,
 ⟨(some 82), .load none (.tmp 81), none⟩,
 ⟨(some 83), .mov (.tmp 8), none⟩,
 ⟨(some 84), .iaddrS 1 (.tmp 82) (.tmp 83), none⟩,
 ⟨(some 85), .load none (.tmp 84), none⟩,
 ⟨(some 86), .build [(.val (.int .i64 0)), (.val (.int .i64 0)), (.val (.string ⟨#[]⟩))] [(0, 1, (.const (.int .i64 2))), (2, 1, (.tmp 85))], none⟩,
 ⟨(some 87), .bslice 27 3 [(.val (.int .i64 0)), (.val (.int .i64 0)), (.val (.string ⟨#[]⟩))] 1 [(0, 3, (.tmp 86))], none⟩,
 ⟨(some 88), .append 27 3 32 (.tmp 77) (.tmp 87), none⟩,
 ⟨(some 3), .mov (.tmp 88), none⟩])) (
 .trim [0, 3, 4, 5, 8] [] [(13, 27, 3)] (
 .reg [⟨(some 75), .mov (.tmp 8), none⟩,
 ⟨(some 76), .bin .add (.tmp 75) (.const (.int .i64 1)), none⟩,
 ⟨(some 8), .mov (.tmp 76), none⟩]))))))))))))) (
 .trim [0, 3, 4, 5] [] [(13, 27, 3)] (
 .reg [⟨(some 18), .mov (.tmp 5), none⟩,
 ⟨(some 19), .bin .add (.tmp 18) (.const (.int .i64 1)), none⟩,
 ⟨(some 5), .mov (.tmp 19), none⟩])))))))))) (
 .trim [0, 3, 4] [] [(13, 27, 3)] (
 .seq (
 .reg [⟨(some 89), .mov (.tmp 3), none⟩,
 ⟨(some 90), .mov (.tmp 0), none⟩,
 ⟨(some 91), .mov (.tmp 4), none⟩,
 ⟨(some 92), .call (.func 112) [(.tmp 90), (.tmp 91)] .pure, none⟩,
 ⟨(some 93), .build [(.val (.int .i64 0)), (.val (.int .i64 0)), (.val (.string ⟨#[]⟩))] [(0, 1, (.const (.int .i64 2))), (2, 1, (.tmp 92))], none⟩,
 ⟨(some 94), .bslice 27 3 [(.val (.int .i64 0)), (.val (.int .i64 0)), (.val (.string ⟨#[]⟩))] 1 [(0, 3, (.tmp 93))], none⟩,
 ⟨(some 95), .append 27 3 32 (.tmp 89) (.tmp 94), none⟩,
 ⟨(some 2), .mov (.tmp 95), none⟩]) (
 .ret)))))))))
theorem r108 : Runs Tryz.prog 108 m108.strip [.mov (.tmp 2)] 96 := ⟨by kernel_rfl, by kernel_rfl, Tryz.f108, Tryz.f108.body.getD .skip, Tryz.func108, by kernel_rfl, by kernel_rfl, by kernel_rfl, by kernel_rfl, by kernel_rfl⟩

def m109 : MC :=
 .seq (
 .reg [⟨(some 2), .box 104 4 (.tmp 0), none⟩,
 ⟨(some 3), .box 27 3 (.tmp 1), none⟩,
 ⟨(some 4), .mov (.const (.bool false)), none⟩]) (
 .trim [2, 3] [2, 3] [] (
 .seq (
 .seq (
 .reg [⟨(some 5), .load (some 3) (.tmp 3), none⟩,
 ⟨(some 6), .call (.func 60) [(.tmp 5)] .pure, none⟩,
 ⟨(some 7), .un .not (.tmp 6), none⟩]) (
 .trim [2, 3, 7] [2, 3] [] (
 .cond (.tmp 7) (
 .seq (
 .reg [⟨(some 4), .mov (.const (.bool false)), none⟩]) (
 .ret)) (
 .skip)))) (
 .trim [2, 3] [2, 3] [] (
 .seq (
 .seq (
 .reg [⟨(some 8), .faddr 0 (.tmp 3), none⟩,
 ⟨(some 9), .load none (.tmp 8), none⟩]) (
 .trim [2, 3, 9] [2, 3] [] (
 .block 0 (
 .seq (
 .reg [⟨(some 11), .bin .eql (.tmp 9) (.const (.int .i64 0)), none⟩,
 ⟨(some 10), .mov (.tmp 11), none⟩]) (
 .trim [2, 3, 9, 10] [2, 3] [] (
 .cond (.tmp 10) (
 .seq (
 .reg [⟨(some 12), .faddr 0 (.tmp 2), none⟩,
 ⟨(some 13), .load none (.tmp 12), none⟩,
 ⟨(some 4), .mov (.tmp 13), none⟩]) (
 .ret)) (
 .seq (
 .reg [⟨(some 15), .bin .eql (.tmp 9) (.const (.int .i64 1)), none⟩,
 ⟨(some 14), .mov (.tmp 15), none⟩]) (
 .trim [2, 3, 14] [2, 3] [] (
 .cond (.tmp 14) (
 .seq (
 .reg [⟨(some 16), .faddr 1 (.tmp 2), none⟩,
 ⟨(some 17), .load none (.tmp 16), none⟩,
 ⟨(some 18), .faddr 1 (.tmp 3), none⟩,
 ⟨(some 19), .load none (.tmp 18), none⟩,
 ⟨(some 20), .call (.func 113) [(.tmp 17), (.tmp 19)] .pure, none⟩,
 ⟨(some 4), .mov (.tmp 20), none⟩]) (
 .ret)) (
 .skip)))))))))) (
 .trim [2, 3] [2, 3] [] (
 .seq (
 .dreg 9 [⟨(some 21), .faddr 3 (.tmp 2), none⟩,
 ⟨(some 22), .load none (.tmp 21), none⟩,
 ⟨(some 23), .faddr 2 (.tmp 3), none⟩,
 ⟨(some 24), .load none (.tmp 23), none⟩,
 ⟨(some 25), .call (.func 114) [(.tmp 22), (.tmp 24)] .pure, none⟩,
 ⟨(some 26), .faddr 2 (.tmp 2), none⟩,
 ⟨(some 27), .load none (.tmp 26), none⟩,
 ⟨(some 28), .binB true (.tmp 25) (.tmp 27), none⟩,
 ⟨(some 4), .mov (.tmp 28), none⟩]) (
 .ret)))))))
theorem r109 : Runs Tryz.prog 109 m109.strip [.mov (.tmp 4)] 29 := ⟨by kernel_rfl, by kernel_rfl, Tryz.f109, Tryz.f109.body.getD .skip, Tryz.func109, by kernel_rfl, by kernel_rfl, by kernel_rfl, by kernel_rfl, by kernel_rfl⟩

def m110 : MC :=
 .seq (
 .reg [⟨(some 2), .box 104 4 (.tmp 0), none⟩,
 ⟨(some 3), .box 104 4 (.tmp 1), none⟩,
 ⟨(some 4), .mov (.const (.bool false)), none⟩]) (
 .trim [2, 3] [2, 3] [] (
 .seq (
 .reg [⟨(some 5), .faddr 0 (.tmp 2), none⟩,
 ⟨(some 6), .load none (.tmp 5), none⟩,
 ⟨(some 7), .faddr 0 (.tmp 3), none⟩,
 ⟨(some 8), .load none (.tmp 7), none⟩,
 ⟨(some 9), .binB false (.tmp 6) (.tmp 8), none⟩,
 ⟨(some 10), .mov (.tmp 9), none⟩,
 ⟨(some 11), .faddr 2 (.tmp 2), (some (10, true))⟩,
 ⟨(some 12), .load none (.tmp 11), (some (10, true))⟩,
 ⟨(some 13), .faddr 2 (.tmp 3), (some (10, true))⟩,
 ⟨(some 14), .load none (.tmp 13), (some (10, true))⟩,
 ⟨(some 15), .binB false (.tmp 12) (.tmp 14), (some (10, true))⟩,
 ⟨(some 16), .pick (.tmp 10) (.tmp 15) (.const (.bool false)), none⟩,
 ⟨(some 17), .mov (.tmp 16), none⟩,
 ⟨(some 18), .faddr 1 (.tmp 2), (some (17, true))⟩,
 ⟨(some 19), .load none (.tmp 18), (some (17, true))⟩,
 ⟨(some 20), .faddr 1 (.tmp 3), (some (17, true))⟩,
 ⟨(some 21), .load none (.tmp 20), (some (17, true))⟩,
 ⟨(some 22), .call (.func 115) [(.tmp 19), (.tmp 21)] .pure, (some (17, true))⟩,
 ⟨(some 23), .pick (.tmp 17) (.tmp 22) (.const (.bool false)), none⟩,
 ⟨(some 24), .mov (.tmp 23), none⟩,
 ⟨(some 25), .faddr 3 (.tmp 2), (some (24, true))⟩,
 ⟨(some 26), .load none (.tmp 25), (some (24, true))⟩,
 ⟨(some 27), .faddr 3 (.tmp 3), (some (24, true))⟩,
 ⟨(some 28), .load none (.tmp 27), (some (24, true))⟩,
 ⟨(some 29), .call (.func 116) [(.tmp 26), (.tmp 28)] .pure, (some (24, true))⟩,
 ⟨(some 30), .pick (.tmp 24) (.tmp 29) (.const (.bool false)), none⟩,
 ⟨(some 4), .mov (.tmp 30), none⟩]) (
 .ret)))
theorem r110 : Runs Tryz.prog 110 m110.strip [.mov (.tmp 4)] 31 := ⟨by kernel_rfl, by kernel_rfl, Tryz.f110, Tryz.f110.body.getD .skip, Tryz.func110, by kernel_rfl, by kernel_rfl, by kernel_rfl, by kernel_rfl, by kernel_rfl⟩

def m111 : MC :=
 .seq (
 .reg [⟨(some 2), .box 104 4 (.tmp 0), none⟩,
 ⟨(some 3), .box 104 4 (.tmp 1), none⟩,
 ⟨(some 4), .mov (.const (.bool false)), none⟩]) (
 .trim [2, 3] [2, 3] [] (
 .seq (
 .dreg 6 [⟨(some 5), .load (some 4) (.tmp 2), none⟩,
 ⟨(some 6), .load (some 4) (.tmp 3), none⟩,
 ⟨(some 7), .call (.func 117) [(.tmp 5), (.tmp 6)] .pure, none⟩,
 ⟨(some 8), .load (some 4) (.tmp 3), none⟩,
 ⟨(some 9), .call (.func 110) [(.tmp 7), (.tmp 8)] .pure, none⟩,
 ⟨(some 4), .mov (.tmp 9), none⟩]) (
 .ret)))
theorem r111 : Runs Tryz.prog 111 m111.strip [.mov (.tmp 4)] 10 := ⟨by kernel_rfl, by kernel_rfl, Tryz.f111, Tryz.f111.body.getD .skip, Tryz.func111, by kernel_rfl, by kernel_rfl, by kernel_rfl, by kernel_rfl, by kernel_rfl⟩

def m112 : MC :=
 .seq (
 .reg [⟨(some 4), .mov (.const (.string ⟨#[]⟩)), none⟩]) (
 .trim [0, 1] [] [] (
 .seq (
 .seq (
 .reg [⟨(some 5), .mov (.const (.int .i64 0)), none⟩]) (
 .trim [0, 1, 5] [] [] (
 .block 0 (
 .loop (
 .trim [0, 1, 5] [] [] (
 .seq (
 .seq (
 .reg [⟨(some 9), .mov (.tmp 5), none⟩,
 ⟨(some 10), .bin .lss (.tmp 9) (.const (.int .i64 100000)), none⟩]) (
 .trim [0, 1, 5, 10] [] [] (
 .cond (.tmp 10) (
 .skip) (
 .exit 0)))) (
 .trim [0, 1, 5] [] [] (
 .seq (
 .block 1 (
 .seq (
 .reg [⟨(some 13), .mov (.tmp 1), none⟩,
 ⟨(some 14), .mov (.tmp 5), none⟩,
 ⟨(some 15), .call (.func 118) [(.tmp 14)] .pure, none⟩,
 ⟨(some 16), .bin .add (.tmp 13) (.tmp 15), none⟩,
 ⟨(some 6), .mov (.tmp 16), none⟩]) (
 .trim [0, 1, 5, 6] [] [] (
 .seq (
 .reg [⟨(some 7), .mov (.const (.bool false)), none⟩]) (
 .trim [0, 1, 5, 6, 7] [] [] (
 .seq (
 .seq (
 .reg [⟨(some 8), .mov (.const (.int .i64 0)), none⟩]) (
 .trim [0, 1, 5, 6, 7, 8] [] [] (
 .block 2 (
 .loop (
 .trim [0, 1, 5, 6, 7, 8] [] [] (
 .seq (
 .seq (
 .reg [⟨(some 17), .mov (.tmp 8), none⟩,
 ⟨(some 18), .mov (.tmp 0), none⟩,
 ⟨(some 19), .lenL (.tmp 18), none⟩,
 ⟨(some 20), .bin .lss (.tmp 17) (.tmp 19), none⟩]) (
 .trim [0, 1, 5, 6, 7, 8, 20] [] [] (
 .cond (.tmp 20) (
 .skip) (
 .exit 2)))) (
 .trim [0, 1, 5, 6, 7, 8] [] [] (
 .seq (
 .block 3 (
 .reg [⟨(some 23), .mov (.tmp 7), none⟩,
 ⟨(some 24), .mov (.tmp 23), none⟩,
 ⟨(some 25), .mov (.tmp 0), (some (24, false))⟩,
 ⟨(some 26), .mov (.tmp 8), (some (24, false))⟩,
 ⟨(some 27), .iaddrS 4 (.tmp 25) (.tmp 26), (some (24, false))⟩,
 ⟨(some 28), .faddr 3 (.tmp 27), (some (24, false))⟩,
 ⟨(some 29), .load none (.tmp 28), (some (24, false))⟩,
 ⟨(some 30), .mov (.tmp 6), (some (24, false))⟩,
 ⟨(some 31), .call (.func 114) [(.tmp 29), (.tmp 30)] .pure, (some (24, false))⟩,
 ⟨(some 32), .pick (.tmp 24) (.const (.bool true)) (.tmp 31), none⟩,
 ⟨(some 7), .mov (.tmp 32), none⟩])) (
 .trim [0, 1, 5, 6, 7, 8] [] [] (
 .reg [⟨(some 21), .mov (.tmp 8), none⟩,
 ⟨(some 22), .bin .add (.tmp 21) (.const (.int .i64 1)), none⟩,
 ⟨(some 8), .mov (.tmp 22), none⟩])))))))))) (
 .trim [0, 1, 5, 6, 7] [] [] (
 .seq (
 .reg [⟨(some 33), .mov (.tmp 7), none⟩,
 ⟨(some 34), .un .not (.tmp 33), none⟩]) (
 .trim [0, 1, 5, 6, 34] [] [] (
 .cond (.tmp 34) (
 .seq (
 .reg [⟨(some 35), .mov (.tmp 6), none⟩,
 ⟨(some 4), .mov (.tmp 35), none⟩]) (
 .ret)) (
 .skip))))))))))) (
 .trim [0, 1, 5] [] [] (
 .reg [⟨(some 11), .mov (.tmp 5), none⟩,
 ⟨(some 12), .bin .add (.tmp 11) (.const (.int .i64 1)), none⟩,
 ⟨(some 5), .mov (.tmp 12), none⟩])))))))))) (
 .trim [1] [] [] (
 .seq (
 .reg [⟨(some 36), .mov (.tmp 1), none⟩,
 ⟨(some 4), .mov (.tmp 36), none⟩]) (
 .ret)))))
theorem r112 : Runs Tryz.prog 112 m112.strip [.mov (.tmp 4)] 37 := ⟨by kernel_rfl, by kernel_rfl, Tryz.f112, Tryz.f112.body.getD .skip, Tryz.func112, by kernel_rfl, by kernel_rfl, by kernel_rfl, by kernel_rfl, by kernel_rfl⟩

def m113 : MC :=
 .seq (
 .reg [⟨(some 4), .mov (.const (.bool false)), none⟩]) (
 .trim [0, 1] [] [] (
 .seq (
 .seq (
 .reg [⟨(some 5), .mov (.const (.int .i64 0)), none⟩]) (
 .trim [0, 1, 5] [] [] (
 .block 0 (
 .loop (
 .trim [0, 1, 5] [] [] (
 .seq (
 .seq (
 .reg [⟨(some 6), .mov (.tmp 5), none⟩,
 ⟨(some 7), .mov (.tmp 0), none⟩,
 ⟨(some 8), .lenL (.tmp 7), none⟩,
 ⟨(some 9), .bin .lss (.tmp 6) (.tmp 8), none⟩]) (
 .trim [0, 1, 5, 9] [] [] (
 .cond (.tmp 9) (
 .skip) (
 .exit 0)))) (
 .trim [0, 1, 5] [] [] (
 .seq (
 .block 1 (
 .seq (
 .reg [⟨(some 12), .mov (.tmp 0), none⟩,
 ⟨(some 13), .mov (.tmp 5), none⟩,
 ⟨(some 14), .iaddrS 2 (.tmp 12) (.tmp 13), none⟩,
 ⟨(some 15), .faddr 0 (.tmp 14), none⟩,
 ⟨(some 16), .load none (.tmp 15), none⟩,
 ⟨(some 17), .mov (.tmp 1), none⟩,
 ⟨(some 18), .bin .leq (.tmp 16) (.tmp 17), none⟩,
 ⟨(some 19), .mov (.tmp 18), none⟩,
 ⟨(some 20), .mov (.tmp 1), (some (19, true))⟩,
 ⟨(some 21), .mov (.tmp 0), (some (19, true))⟩,
 ⟨(some 22), .mov (.tmp 5), (some (19, true))⟩,
 ⟨(some 23), .iaddrS 2 (.tmp 21) (.tmp 22), (some (19, true))⟩,
 ⟨(some 24), .faddr 1 (.tmp 23), (some (19, true))⟩,
 ⟨(some 25), .load none (.tmp 24), (some (19, true))⟩,
 ⟨(some 26), .bin .leq (.tmp 20) (.tmp 25), (some (19, true))⟩,
 ⟨(some 27), .pick (.tmp 19) (.tmp 26) (.const (.bool false)), none⟩]) (
 .trim [0, 1, 5, 27] [] [] (
 .cond (.tmp 27) (
 .seq (
 .reg [⟨(some 4), .mov (.const (.bool true)), none⟩]) (
 .ret)) (
 .skip))))) (
 .trim [0, 1, 5] [] [] (
 .reg [⟨(some 10), .mov (.tmp 5), none⟩,
 ⟨(some 11), .bin .add (.tmp 10) (.const (.int .i64 1)), none⟩,
 ⟨(some 5), .mov (.tmp 11), none⟩])))))))))) (
 .trim [] [] [] (
 .seq (
 .reg [⟨(some 4), .mov (.const (.bool false)), none⟩]) (
 .ret)))))
theorem r113 : Runs Tryz.prog 113 m113.strip [.mov (.tmp 4)] 28 := ⟨by kernel_rfl, by kernel_rfl, Tryz.f113, Tryz.f113.body.getD .skip, Tryz.func113, by kernel_rfl, by kernel_rfl, by kernel_rfl, by kernel_rfl, by kernel_rfl⟩

def m114 : MC :=
 .seq (
 .reg [⟨(some 4), .mov (.const (.bool false)), none⟩]) (
 .trim [0, 1] [] [] (
 .seq (
 .seq (
 .reg [⟨(some 5), .mov (.const (.int .i64 0)), none⟩]) (
 .trim [0, 1, 5] [] [] (
 .block 0 (
 .loop (
 .trim [0, 1, 5] [] [] (
 .seq (
 .seq (
 .reg [⟨(some 6), .mov (.tmp 5), none⟩,
 ⟨(some 7), .mov (.tmp 0), none⟩,
 ⟨(some 8), .lenL (.tmp 7), none⟩,
 ⟨(some 9), .bin .lss (.tmp 6) (.tmp 8), none⟩]) (
 .trim [0, 1, 5, 9] [] [] (
 .cond (.tmp 9) (
 .skip) (
 .exit 0)))) (
 .trim [0, 1, 5] [] [] (
 .seq (
 .block 1 (
 .seq (
 .reg [⟨(some 12), .mov (.tmp 0), none⟩,
 ⟨(some 13), .mov (.tmp 5), none⟩,
 ⟨(some 14), .iaddrS 1 (.tmp 12) (.tmp 13), none⟩,
 ⟨(some 15), .load none (.tmp 14), none⟩,
 ⟨(some 16), .mov (.tmp 1), none⟩,
 ⟨(some 17), .bin .eql (.tmp 15) (.tmp 16), none⟩]) (
 .trim [0, 1, 5, 17] [] [] (
 .cond (.tmp 17) (
 .seq (
 .reg [⟨(some 4), .mov (.const (.bool true)), none⟩]) (
 .ret)) (
 .skip))))) (
 .trim [0, 1, 5] [] [] (
 .reg [⟨(some 10), .mov (.tmp 5), none⟩,
 ⟨(some 11), .bin .add (.tmp 10) (.const (.int .i64 1)), none⟩,
 ⟨(some 5), .mov (.tmp 11), none⟩])))))))))) (
 .trim [] [] [] (
 .seq (
 .reg [⟨(some 4), .mov (.const (.bool false)), none⟩]) (
 .ret)))))
theorem r114 : Runs Tryz.prog 114 m114.strip [.mov (.tmp 4)] 18 := ⟨by kernel_rfl, by kernel_rfl, Tryz.f114, Tryz.f114.body.getD .skip, Tryz.func114, by kernel_rfl, by kernel_rfl, by kernel_rfl, by kernel_rfl, by kernel_rfl⟩

def m115 : MC :=
 .seq (
 .reg [⟨(some 4), .mov (.const (.bool false)), none⟩]) (
 .trim [0, 1] [] [] (
 .seq (
 .seq (
 .reg [⟨(some 6), .mov (.tmp 0), none⟩,
 ⟨(some 7), .lenL (.tmp 6), none⟩,
 ⟨(some 8), .mov (.tmp 1), none⟩,
 ⟨(some 9), .lenL (.tmp 8), none⟩,
 ⟨(some 10), .bin .neq (.tmp 7) (.tmp 9), none⟩]) (
 .trim [0, 1, 10] [] [] (
 .cond (.tmp 10) (
 .seq (
 .reg [⟨(some 4), .mov (.const (.bool false)), none⟩]) (
 .ret)) (
 .skip)))) (
 .trim [0, 1] [] [] (
 .seq (
 .seq (
 .reg [⟨(some 11), .mov (.tmp 0), none⟩,
 ⟨(some 12), .lenL (.tmp 11), none⟩,
 ⟨(some 13), .mov (.const (.int .i64 0)), none⟩]) (
 .trim [0, 1, 12, 13] [] [] (
 .block 0 (
 .loop (
 .trim [0, 1, 12, 13] [] [] (
 .seq (
 .reg [⟨(some 14), .bin .lss (.tmp 13) (.tmp 12), none⟩]) (
 .trim [0, 1, 12, 13, 14] [] [] (
 .seq (
 .cond (.tmp 14) (
 .skip) (
 .exit 0)) (
 .trim [0, 1, 12, 13] [] [] (
 .seq (
 .block 1 (
 .seq (
 .reg [⟨(some 15), .mov (.tmp 13), none⟩,
 ⟨(some 5), .mov (.tmp 15), none⟩]) (
 .trim [0, 1, 5, 12, 13] [] [] (
 .seq (
 .dreg 9 [⟨(some 16), .mov (.tmp 0), none⟩,
 ⟨(some 17), .mov (.tmp 5), none⟩,
 ⟨(some 18), .iaddrS 2 (.tmp 16) (.tmp 17), none⟩,
 ⟨(some 19), .load (some 2) (.tmp 18), none⟩,
 ⟨(some 20), .mov (.tmp 1), none⟩,
 ⟨(some 21), .mov (.tmp 5), none⟩,
 ⟨(some 22), .iaddrS 2 (.tmp 20) (.tmp 21), none⟩,
 ⟨(some 23), .load (some 2) (.tmp 22), none⟩,
 ⟨(some 24), .eqs true [.i, .i] (.tmp 19) (.tmp 23), none⟩]) (
 .trim [0, 1, 12, 13, 24] [] [] (
 .cond (.tmp 24) (
 .seq (
 .reg [⟨(some 4), .mov (.const (.bool false)), none⟩]) (
 .ret)) (
 .skip))))))) (
 .trim [0, 1, 12, 13] [] [] (
 .reg [⟨(some 25), .bin .add (.tmp 13) (.const (.int .i64 1)), none⟩,
 ⟨(some 13), .mov (.tmp 25), none⟩])))))))))))) (
 .trim [] [] [] (
 .seq (
 .reg [⟨(some 4), .mov (.const (.bool true)), none⟩]) (
 .ret)))))))
theorem r115 : Runs Tryz.prog 115 m115.strip [.mov (.tmp 4)] 26 := ⟨by kernel_rfl, by kernel_rfl, Tryz.f115, Tryz.f115.body.getD .skip, Tryz.func115, by kernel_rfl, by kernel_rfl, by kernel_rfl, by kernel_rfl, by kernel_rfl⟩

def m116 : MC :=
 .seq (
 .reg [⟨(some 4), .mov (.const (.bool false)), none⟩]) (
 .trim [0, 1] [] [] (
 .seq (
 .seq (
 .reg [⟨(some 6), .mov (.tmp 0), none⟩,
 ⟨(some 7), .lenL (.tmp 6), none⟩,
 ⟨(some 8), .mov (.tmp 1), none⟩,
 ⟨(some 9), .lenL (.tmp 8), none⟩,
 ⟨(some 10), .bin .neq (.tmp 7) (.tmp 9), none⟩]) (
 .trim [0, 1, 10] [] [] (
 .cond (.tmp 10) (
 .seq (
 .reg [⟨(some 4), .mov (.const (.bool false)), none⟩]) (
 .ret)) (
 .skip)))) (
 .trim [0, 1] [] [] (
 .seq (
 .seq (
 .reg [⟨(some 11), .mov (.tmp 0), none⟩,
 ⟨(some 12), .lenL (.tmp 11), none⟩,
 ⟨(some 13), .mov (.const (.int .i64 0)), none⟩]) (
 .trim [0, 1, 12, 13] [] [] (
 .block 0 (
 .loop (
 .trim [0, 1, 12, 13] [] [] (
 .seq (
 .reg [⟨(some 14), .bin .lss (.tmp 13) (.tmp 12), none⟩]) (
 .trim [0, 1, 12, 13, 14] [] [] (
 .seq (
 .cond (.tmp 14) (
 .skip) (
 .exit 0)) (
 .trim [0, 1, 12, 13] [] [] (
 .seq (
 .block 1 (
 .seq (
 .reg [⟨(some 15), .mov (.tmp 13), none⟩,
 ⟨(some 5), .mov (.tmp 15), none⟩]) (
 .trim [0, 1, 5, 12, 13] [] [] (
 .seq (
 .dreg 9 [⟨(some 16), .mov (.tmp 0), none⟩,
 ⟨(some 17), .mov (.tmp 5), none⟩,
 ⟨(some 18), .iaddrS 1 (.tmp 16) (.tmp 17), none⟩,
 ⟨(some 19), .load none (.tmp 18), none⟩,
 ⟨(some 20), .mov (.tmp 1), none⟩,
 ⟨(some 21), .mov (.tmp 5), none⟩,
 ⟨(some 22), .iaddrS 1 (.tmp 20) (.tmp 21), none⟩,
 ⟨(some 23), .load none (.tmp 22), none⟩,
 ⟨(some 24), .bin .neq (.tmp 19) (.tmp 23), none⟩]) (
 .trim [0, 1, 12, 13, 24] [] [] (
 .cond (.tmp 24) (
 .seq (
 .reg [⟨(some 4), .mov (.const (.bool false)), none⟩]) (
 .ret)) (
 .skip))))))) (
 .trim [0, 1, 12, 13] [] [] (
 .reg [⟨(some 25), .bin .add (.tmp 13) (.const (.int .i64 1)), none⟩,
 ⟨(some 13), .mov (.tmp 25), none⟩])))))))))))) (
 .trim [] [] [] (
 .seq (
 .reg [⟨(some 4), .mov (.const (.bool true)), none⟩]) (
 .ret)))))))
theorem r116 : Runs Tryz.prog 116 m116.strip [.mov (.tmp 4)] 26 := ⟨by kernel_rfl, by kernel_rfl, Tryz.f116, Tryz.f116.body.getD .skip, Tryz.func116, by kernel_rfl, by kernel_rfl, by kernel_rfl, by kernel_rfl, by kernel_rfl⟩

def m117 : MC :=
 .seq (
 .reg [⟨(some 2), .box 104 4 (.tmp 0), none⟩,
 ⟨(some 3), .box 104 4 (.tmp 1), none⟩,
 ⟨(some 4), .alloc 104 [(.val (.bool false)), (.sl none []), (.val (.bool false)), (.sl none [])], none⟩]) (
 .trim [2, 3, 4] [2, 3, 4] [] (
 .seq (
 .dreg2 [(⟨(some 6), .faddr 0 (.tmp 2), none⟩, .q),
 (⟨(some 7), .load none (.tmp 6), none⟩, .q),
 (⟨(some 8), .mov (.tmp 7), none⟩, .q),
 (⟨(some 9), .faddr 0 (.tmp 3), (some (8, false))⟩, .q),
 (⟨(some 10), .load none (.tmp 9), (some (8, false))⟩, .q),
 (⟨(some 11), .pick (.tmp 8) (.const (.bool true)) (.tmp 10), none⟩, .q),
 (⟨(some 12), .faddr 1 (.tmp 2), none⟩, .q),
 (⟨(some 13), .load none (.tmp 12), none⟩, .q),
 (⟨(some 14), .call (.func 120) [(.tmp 13)] (.fresh 128 2), none⟩, .s),
 (⟨(some 15), .faddr 1 (.tmp 3), none⟩, .q),
 (⟨(some 16), .load none (.tmp 15), none⟩, .q),
 (⟨(some 17), .append 128 2 16 (.tmp 14) (.tmp 16), none⟩, .s),
 (⟨(some 18), .call (.func 119) [(.tmp 17)] .pure, none⟩, .s),
 (⟨(some 19), .faddr 2 (.tmp 2), none⟩, .q),
 (⟨(some 20), .load none (.tmp 19), none⟩, .q),
 (⟨(some 21), .mov (.tmp 20), none⟩, .q),
 (⟨(some 22), .faddr 2 (.tmp 3), (some (21, false))⟩, .q),
 (⟨(some 23), .load none (.tmp 22), (some (21, false))⟩, .q),
 (⟨(some 24), .pick (.tmp 21) (.const (.bool true)) (.tmp 23), none⟩, .q),
 (⟨(some 25), .build [(.val (.bool false)), (.sl none []), (.val (.bool false)), (.sl none [])] [(0, 1, (.tmp 11)), (1, 1, (.tmp 18)), (2, 1, (.tmp 24))], none⟩, .s),
 (⟨(some 5), .alloc 104 [(.val (.bool false)), (.sl none []), (.val (.bool false)), (.sl none [])], none⟩, .a),
 (⟨none, .store 4 (.tmp 5) (.tmp 25), none⟩, .h)]) (
 .trim [2, 3, 4, 5] [2, 3, 4, 5] [] (
 .seq (
 .block 0 (
 .seq (
 .reg [⟨(some 33), .faddr 2 (.tmp 2), none⟩,
 ⟨(some 34), .load none (.tmp 33), none⟩,
 ⟨(some 35), .mov (.tmp 34), none⟩,
 ⟨(some 36), .faddr 2 (.tmp 3), (some (35, true))⟩,
 ⟨(some 37), .load none (.tmp 36), (some (35, true))⟩,
 ⟨(some 38), .pick (.tmp 35) (.tmp 37) (.const (.bool false)), none⟩,
 ⟨(some 32), .mov (.tmp 38), none⟩]) (
 .trim [2, 3, 4, 5, 32] [2, 3, 4, 5] [] (
 .cond (.tmp 32) (
 .reg [⟨(some 39), .faddr 3 (.tmp 2), none⟩,
 ⟨(some 40), .load none (.tmp 39), none⟩,
 ⟨(some 41), .faddr 3 (.tmp 3), none⟩,
 ⟨(some 42), .load none (.tmp 41), none⟩,
 ⟨(some 43), .call (.func 121) [(.tmp 40), (.tmp 42), (.const (.bool true))] .pure, none⟩,
 ⟨(some 44), .faddr 3 (.tmp 5), none⟩,
 ⟨none, .store 1 (.tmp 44) (.tmp 43), none⟩]) (
 .seq (
 .reg [⟨(some 46), .faddr 2 (.tmp 2), none⟩,
 ⟨(some 47), .load none (.tmp 46), none⟩,
 ⟨(some 45), .mov (.tmp 47), none⟩]) (
 .trim [2, 3, 4, 5, 45] [2, 3, 4, 5] [] (
 .cond (.tmp 45) (
 .reg [⟨(some 48), .faddr 3 (.tmp 2), none⟩,
 ⟨(some 49), .load none (.tmp 48), none⟩,
 ⟨(some 50), .faddr 3 (.tmp 3), none⟩,
 ⟨(some 51), .load none (.tmp 50), none⟩,
 ⟨(some 52), .call (.func 121) [(.tmp 49), (.tmp 51), (.const (.bool false))] .pure, none⟩,
 ⟨(some 53), .faddr 3 (.tmp 5), none⟩,
 ⟨none, .store 1 (.tmp 53) (.tmp 52), none⟩]) (
 .seq (
 .reg [⟨(some 55), .faddr 2 (.tmp 3), none⟩,
 ⟨(some 56), .load none (.tmp 55), none⟩,
 ⟨(some 54), .mov (.tmp 56), none⟩]) (
 .trim [2, 3, 4, 5, 54] [2, 3, 4, 5] [] (
 .cond (.tmp 54) (
 .reg [⟨(some 57), .faddr 3 (.tmp 3), none⟩,
 ⟨(some 58), .load none (.tmp 57), none⟩,
 ⟨(some 59), .faddr 3 (.tmp 2), none⟩,
 ⟨(some 60), .load none (.tmp 59), none⟩,
 ⟨(some 61), .call (.func 121) [(.tmp 58), (.tmp 60), (.const (.bool false))] .pure, none⟩,
 ⟨(some 62), .faddr 3 (.tmp 5), none⟩,
 ⟨none, .store 1 (.tmp 62) (.tmp 61), none⟩]) (
 .reg [⟨(some 26), .faddr 3 (.tmp 2), none⟩,
 ⟨(some 27), .load none (.tmp 26), none⟩,
 ⟨(some 28), .faddr 3 (.tmp 3), none⟩,
 ⟨(some 29), .load none (.tmp 28), none⟩,
 ⟨(some 30), .call (.func 122) [(.tmp 27), (.tmp 29)] .pure, none⟩,
 ⟨(some 31), .faddr 3 (.tmp 5), none⟩,
 ⟨none, .store 1 (.tmp 31) (.tmp 30), none⟩]))))))))))) (
 .trim [4, 5] [4, 5] [] (
 .seq (
 .reg [⟨(some 63), .load (some 4) (.tmp 5), none⟩,
 ⟨none, .store 4 (.tmp 4) (.tmp 63), none⟩]) (
 .ret)))))))
theorem r117 : Runs Tryz.prog 117 m117.strip [.load (some 4) (.tmp 4)] 64 := ⟨by kernel_rfl, by kernel_rfl, Tryz.f117, Tryz.f117.body.getD .skip, Tryz.func117, by kernel_rfl, by kernel_rfl, by kernel_rfl, by kernel_rfl, by kernel_rfl⟩

def m118 : MC :=
 .seq (
 .reg [⟨(some 2), .mov (.const (.string ⟨#[]⟩)), none⟩]) (
 .trim [0] [] [] (
 .seq (
 .seq (
 .reg [⟨(some 4), .mov (.tmp 0), none⟩,
 ⟨(some 5), .bin .lss (.tmp 4) (.const (.int .i64 0)), none⟩]) (
 .trim [0, 5] [] [] (
 .cond (.tmp 5) (
 .seq (
 .reg [⟨(some 6), .mov (.tmp 0), none⟩,
 ⟨(some 7), .bin .add (.tmp 6) (.const (.int .i64 1)), none⟩,
 ⟨(some 8), .un .neg (.tmp 7), none⟩,
 ⟨(some 9), .conv .u64 (.tmp 8), none⟩,
 ⟨(some 10), .bin .add (.tmp 9) (.const (.int .u64 1)), none⟩,
 ⟨(some 3), .mov (.tmp 10), none⟩]) (
 .trim [3] [] [] (
 .seq (
 .reg [⟨(some 11), .mov (.tmp 3), none⟩,
 ⟨(some 12), .call (.func 123) [(.tmp 11)] .pure, none⟩,
 ⟨(some 13), .bin .add (.const (.string ⟨#[45]⟩)) (.tmp 12), none⟩,
 ⟨(some 2), .mov (.tmp 13), none⟩]) (
 .ret)))) (
 .skip)))) (
 .trim [0] [] [] (
 .seq (
 .reg [⟨(some 14), .mov (.tmp 0), none⟩,
 ⟨(some 15), .conv .u64 (.tmp 14), none⟩,
 ⟨(some 16), .call (.func 123) [(.tmp 15)] .pure, none⟩,
 ⟨(some 2), .mov (.tmp 16), none⟩]) (
 .ret)))))
theorem r118 : Runs Tryz.prog 118 m118.strip [.mov (.tmp 2)] 17 := ⟨by kernel_rfl, by kernel_rfl, Tryz.f118, Tryz.f118.body.getD .skip, Tryz.func118, by kernel_rfl, by kernel_rfl, by kernel_rfl, by kernel_rfl, by kernel_rfl⟩

def m119 : MC :=
 .seq (
 .reg [⟨(some 2), .nilsl 128 2, none⟩]) (
 .trim [0, 2] [] [(2, 128, 2), (7, 128, 2)] (
 .seq (
 .reg [⟨(some 6), .mov (.tmp 0), none⟩,
 ⟨(some 7), .call (.func 120) [(.tmp 6)] (.fresh 128 2), none⟩,
 ⟨(some 0), .mov (.tmp 7), none⟩]) (
 .trim [0, 2] [] [(2, 128, 2), (7, 128, 2)] (
 .seq (
 .reg [⟨(some 8), .mov (.tmp 0), none⟩,
 ⟨(some 9), .call (.func 124) [(.tmp 8), (.func 125)] .turn, none⟩]) (
 .trim [0, 2] [] [(2, 128, 2), (7, 128, 2)] (
 .seq (
 .seq (
 .reg [⟨(some 10), .mov (.tmp 0), none⟩,
 ⟨(some 11), .lenL (.tmp 10), none⟩,
 ⟨(some 12), .mov (.const (.int .i64 0)), none⟩]) (
 .trim [2, 10, 11, 12] [] [(2, 128, 2), (7, 128, 2)] (
 .block 0 (
 .loop (
 .trim [2, 10, 11, 12] [] [(2, 128, 2), (7, 128, 2)] (
 .seq (
 .reg [⟨(some 13), .bin .lss (.tmp 12) (.tmp 11), none⟩]) (
 .trim [2, 10, 11, 12, 13] [] [(2, 128, 2), (7, 128, 2)] (
 .seq (
 .cond (.tmp 13) (
 .skip) (
 .exit 0)) (
 .trim [2, 10, 11, 12] [] [(2, 128, 2), (7, 128, 2)] (
 .seq (
 .block 1 (
 .seq (
 .reg [⟨(some 14), .iaddrS 2 (.tmp 10) (.tmp 12), none⟩,
 ⟨(some 15), .load (some 2) (.tmp 14), none⟩,
 ⟨(some 4), .alloc 128 [(.val (.int .i64 0)), (.val (.int .i64 0))], none⟩,
 ⟨none, .store 2 (.tmp 4) (.tmp 15), none⟩]) (
 .trim [2, 4, 10, 11, 12] [4] [(2, 128, 2), (7, 128, 2)] (
 .seq (
 .seq (
 .reg [⟨(some 16), .faddr 0 (.tmp 4), none⟩,
 ⟨(some 17), .load none (.tmp 16), none⟩,
 ⟨(some 18), .faddr 1 (.tmp 4), none⟩,
 ⟨(some 19), .load none (.tmp 18), none⟩,
 ⟨(some 20), .bin .gtr (.tmp 17) (.tmp 19), none⟩]) (
 .trim [2, 4, 10, 11, 12, 20] [4] [(2, 128, 2), (7, 128, 2)] (
 .cond (.tmp 20) (
 .exit 1) (
 .skip)))) (
 .trim [2, 4, 10, 11, 12] [4] [(2, 128, 2), (7, 128, 2)] (
 .seq (
 .reg [⟨(some 21), .mov (.tmp 2), none⟩,
 ⟨(some 22), .lenL (.tmp 21), none⟩,
 ⟨(some 5), .mov (.tmp 22), none⟩]) (
 .trim [2, 4, 5, 10, 11, 12] [4] [(2, 128, 2), (7, 128, 2)] (
 .seq (
 .seq (
 .dreg 23 [⟨(some 23), .mov (.tmp 5), none⟩,
 ⟨(some 24), .bin .gtr (.tmp 23) (.const (.int .i64 0)), none⟩,
 ⟨(some 25), .mov (.tmp 24), none⟩,
 ⟨(some 26), .mov (.tmp 2), (some (25, true))⟩,
 ⟨(some 27), .mov (.tmp 5), (some (25, true))⟩,
 ⟨(some 28), .bin .sub (.tmp 27) (.const (.int .i64 1)), (some (25, true))⟩,
 ⟨(some 29), .iaddrS 2 (.tmp 26) (.tmp 28), (some (25, true))⟩,
 ⟨(some 30), .faddr 1 (.tmp 29), (some (25, true))⟩,
 ⟨(some 31), .load none (.tmp 30), (some (25, true))⟩,
 ⟨(some 32), .bin .eql (.tmp 31) (.const (.int .i64 9223372036854775807)), (some (25, true))⟩,
 ⟨(some 33), .mov (.tmp 32), (some (25, true))⟩,
 ⟨(some 34), .faddr 0 (.tmp 4), (some (33, false))⟩,
 ⟨(some 35), .load none (.tmp 34), (some (33, false))⟩,
 ⟨(some 36), .mov (.tmp 2), (some (33, false))⟩,
 ⟨(some 37), .mov (.tmp 5), (some (33, false))⟩,
 ⟨(some 38), .bin .sub (.tmp 37) (.const (.int .i64 1)), (some (33, false))⟩,
 ⟨(some 39), .iaddrS 2 (.tmp 36) (.tmp 38), (some (33, false))⟩,
 ⟨(some 40), .faddr 1 (.tmp 39), (some (33, false))⟩,
 ⟨(some 41), .load none (.tmp 40), (some (33, false))⟩,
 ⟨(some 42), .bin .add (.tmp 41) (.const (.int .i64 1)), (some (33, false))⟩,
 ⟨(some 43), .bin .leq (.tmp 35) (.tmp 42), (some (33, false))⟩,
 ⟨(some 44), .pick (.tmp 33) (.const (.bool true)) (.tmp 43), (some (25, true))⟩,
 ⟨(some 45), .pick (.tmp 25) (.tmp 44) (.const (.bool false)), none⟩]) (
 .trim [2, 4, 5, 10, 11, 12, 45] [4] [(2, 128, 2), (7, 128, 2)] (
 .cond (.tmp 45) (
 .seq (
 .dreg 14 [⟨(some 46), .mov (.tmp 2), none⟩,
 ⟨(some 47), .mov (.tmp 5), none⟩,
 ⟨(some 48), .bin .sub (.tmp 47) (.const (.int .i64 1)), none⟩,
 ⟨(some 49), .mov (.tmp 2), none⟩,
 ⟨(some 50), .mov (.tmp 5), none⟩,
 ⟨(some 51), .bin .sub (.tmp 50) (.const (.int .i64 1)), none⟩,
 ⟨(some 52), .iaddrS 2 (.tmp 49) (.tmp 51), none⟩,
 ⟨(some 53), .faddr 1 (.tmp 52), none⟩,
 ⟨(some 54), .load none (.tmp 53), none⟩,
 ⟨(some 55), .faddr 1 (.tmp 4), none⟩,
 ⟨(some 56), .load none (.tmp 55), none⟩,
 ⟨(some 57), .minmax true [(.tmp 54), (.tmp 56)], none⟩,
 ⟨(some 58), .iaddrS 2 (.tmp 46) (.tmp 48), none⟩,
 ⟨(some 59), .faddr 1 (.tmp 58), none⟩,
 ⟨none, .store 1 (.tmp 59) (.tmp 57), none⟩]) (
 .exit 1)) (
 .skip)))) (
 .trim [2, 4, 10, 11, 12] [4] [(7, 128, 2), (2, 128, 2)] (
 .reg [⟨(some 60), .mov (.tmp 2), none⟩,
 ⟨(some 61), .load (some 2) (.tmp 4), none⟩,
 ⟨(some 62), .bslice 128 2 [(.val (.int .i64 0)), (.val (.int .i64 0))] 1 [(0, 2, (.tmp 61))], none⟩,
 ⟨(some 63), .append 128 2 16 (.tmp 60) (.tmp 62), none⟩,
 ⟨(some 2), .mov (.tmp 63), none⟩])))))))))) (
 .trim [2, 10, 11, 12] [] [(2, 128, 2), (7, 128, 2)] (
 .reg [⟨(some 64), .bin .add (.tmp 12) (.const (.int .i64 1)), none⟩,
 ⟨(some 12), .mov (.tmp 64), none⟩])))))))))))) (
 .trim [2] [] [(2, 128, 2)] (
 .seq (
 .reg [⟨(some 65), .mov (.tmp 2), none⟩,
 ⟨(some 2), .mov (.tmp 65), none⟩]) (
 .ret)))))))))
theorem r119 : Runs Tryz.prog 119 m119.strip [.mov (.tmp 2)] 66 := ⟨by kernel_rfl, by kernel_rfl, Tryz.f119, Tryz.f119.body.getD .skip, Tryz.func119, by kernel_rfl, by kernel_rfl, by kernel_rfl, by kernel_rfl, by kernel_rfl⟩

def m120 : MC :=
 .seq (
 .reg [⟨(some 2), .nilsl 128 2, none⟩]) (
 .trim [0] [] [] (
 .seq (
 .seq (
 .reg [⟨(some 3), .mov (.tmp 0), none⟩,
 ⟨(some 4), .isnil false (.tmp 3), none⟩]) (
 .trim [0, 4] [] [] (
 .cond (.tmp 4) (
 .seq (
 .reg [⟨(some 2), .nilsl 128 2, none⟩]) (
 .ret)) (
 .skip)))) (
 .trim [0] [] [] (
 .seq (
 .reg [⟨(some 5), .bslice 128 2 [(.val (.int .i64 0)), (.val (.int .i64 0))] 0 [], none⟩,
 ⟨(some 6), .mov (.tmp 0), none⟩,
 ⟨(some 7), .append 128 2 16 (.tmp 5) (.tmp 6), none⟩,
 ⟨(some 2), .mov (.tmp 7), none⟩]) (
 .ret)))))
theorem r120 : Runs Tryz.prog 120 m120.strip [.mov (.tmp 2)] 8 := ⟨by kernel_rfl, by kernel_rfl, Tryz.f120, Tryz.f120.body.getD .skip, Tryz.func120, by kernel_rfl, by kernel_rfl, by kernel_rfl, by kernel_rfl, by kernel_rfl⟩

def m121 : MC :=
 .seq (
 .reg [⟨(some 6), .nilsl 9 1, none⟩]) (
 .trim [0, 1, 2, 6] [] [(6, 9, 1)] (
 .seq (
 .seq (
 .reg [⟨(some 9), .mov (.tmp 0), none⟩,
 ⟨(some 10), .lenL (.tmp 9), none⟩,
 ⟨(some 11), .mov (.const (.int .i64 0)), none⟩]) (
 .trim [1, 2, 6, 9, 10, 11] [] [(6, 9, 1)] (
 .block 0 (
 .loop (
 .trim [1, 2, 6, 9, 10, 11] [] [(6, 9, 1)] (
 .seq (
 .reg [⟨(some 12), .bin .lss (.tmp 11) (.tmp 10), none⟩]) (
 .trim [1, 2, 6, 9, 10, 11, 12] [] [(6, 9, 1)] (
 .seq (
 .cond (.tmp 12) (
 .skip) (
 .exit 0)) (
 .trim [1, 2, 6, 9, 10, 11] [] [(6, 9, 1)] (
 .seq (
 .block 1 (
 .seq (
 .reg [⟨(some 13), .iaddrS 1 (.tmp 9) (.tmp 11), none⟩,
 ⟨(some 14), .load none (.tmp 13), none⟩,
 ⟨(some 8), .mov (.tmp 14), none⟩]) (
 .trim [1, 2, 6, 8, 9, 10, 11] [] [(6, 9, 1)] (
 .seq (
 .reg [⟨(some 15), .mov (.tmp 1), none⟩,
 ⟨(some 16), .mov (.tmp 8), none⟩,
 ⟨(some 17), .call (.func 127) [(.tmp 15), (.tmp 16)] .pure, none⟩,
 ⟨(some 18), .mov (.tmp 2), none⟩,
 ⟨(some 19), .binB false (.tmp 17) (.tmp 18), none⟩]) (
 .trim [1, 2, 6, 8, 9, 10, 11, 19] [] [(6, 9, 1)] (
 .cond (.tmp 19) (
 .reg [⟨(some 20), .mov (.tmp 6), none⟩,
 ⟨(some 21), .mov (.tmp 8), none⟩,
 ⟨(some 22), .bslice 9 1 [(.val (.string ⟨#[]⟩))] 1 [(0, 1, (.tmp 21))], none⟩,
 ⟨(some 23), .append 9 1 16 (.tmp 20) (.tmp 22), none⟩,
 ⟨(some 6), .mov (.tmp 23), none⟩]) (
 .skip))))))) (
 .trim [1, 2, 6, 9, 10, 11] [] [(6, 9, 1)] (
 .reg [⟨(some 24), .bin .add (.tmp 11) (.const (.int .i64 1)), none⟩,
 ⟨(some 11), .mov (.tmp 24), none⟩])))))))))))) (
 .trim [6] [] [(6, 9, 1)] (
 .seq (
 .reg [⟨(some 25), .mov (.tmp 6), none⟩,
 ⟨(some 6), .mov (.tmp 25), none⟩]) (
 .ret)))))
theorem r121 : Runs Tryz.prog 121 m121.strip [.mov (.tmp 6)] 26 := ⟨by kernel_rfl, by kernel_rfl, Tryz.f121, Tryz.f121.body.getD .skip, Tryz.func121, by kernel_rfl, by kernel_rfl, by kernel_rfl, by kernel_rfl, by kernel_rfl⟩

def m122 : MC :=
 .seq (
 .reg [⟨(some 4), .nilsl 9 1, none⟩]) (
 .trim [0, 1] [] [] (
 .seq (
 .reg [⟨(some 6), .mov (.tmp 0), none⟩,
 ⟨(some 7), .call (.func 128) [(.tmp 6)] (.fresh 9 1), none⟩,
 ⟨(some 8), .mov (.tmp 1), none⟩,
 ⟨(some 9), .append 9 1 16 (.tmp 7) (.tmp 8), none⟩,
 ⟨(some 5), .mov (.tmp 9), none⟩]) (
 .trim [5] [] [(7, 9, 1)] (
 .seq (
 .reg [⟨(some 10), .mov (.tmp 5), none⟩,
 ⟨(some 11), .call (.func 129) [(.tmp 10)] .turn, none⟩]) (
 .trim [5] [] [(7, 9, 1)] (
 .seq (
 .reg [⟨(some 12), .mov (.tmp 5), none⟩,
 ⟨(some 13), .call (.func 130) [(.tmp 12)] .take, none⟩,
 ⟨(some 4), .mov (.tmp 13), none⟩]) (
 .ret)))))))
theorem r122 : Runs Tryz.prog 122 m122.strip [.mov (.tmp 4)] 14 := ⟨by kernel_rfl, by kernel_rfl, Tryz.f122, Tryz.f122.body.getD .skip, Tryz.func122, by kernel_rfl, by kernel_rfl, by kernel_rfl, by kernel_rfl, by kernel_rfl⟩

def m123 : MC :=
 .seq (
 .reg [⟨(some 2), .mov (.const (.string ⟨#[]⟩)), none⟩]) (
 .trim [0] [] [] (
 .seq (
 .seq (
 .reg [⟨(some 3), .mov (.tmp 0), none⟩,
 ⟨(some 4), .bin .lss (.tmp 3) (.const (.int .u64 10)), none⟩]) (
 .trim [0, 4] [] [] (
 .cond (.tmp 4) (
 .seq (
 .reg [⟨(some 5), .mov (.tmp 0), none⟩,
 ⟨(some 6), .bin .add (.const (.int .u64 48)) (.tmp 5), none⟩,
 ⟨(some 7), .conv .u8 (.tmp 6), none⟩,
 ⟨(some 8), .bslice 5 1 [(.val (.int .u8 0))] 1 [(0, 1, (.tmp 7))], none⟩,
 ⟨(some 9), .b2s (.tmp 8), none⟩,
 ⟨(some 2), .mov (.tmp 9), none⟩]) (
 .ret)) (
 .skip)))) (
 .trim [0] [] [] (
 .seq (
 .dreg 11 [⟨(some 10), .mov (.tmp 0), none⟩,
 ⟨(some 11), .bin .quo (.tmp 10) (.const (.int .u64 10)), none⟩,
 ⟨(some 12), .call (.func 123) [(.tmp 11)] .pure, none⟩,
 ⟨(some 13), .mov (.tmp 0), none⟩,
 ⟨(some 14), .bin .rem (.tmp 13) (.const (.int .u64 10)), none⟩,
 ⟨(some 15), .bin .add (.const (.int .u64 48)) (.tmp 14), none⟩,
 ⟨(some 16), .conv .u8 (.tmp 15), none⟩,
 ⟨(some 17), .bslice 5 1 [(.val (.int .u8 0))] 1 [(0, 1, (.tmp 16))], none⟩,
 ⟨(some 18), .b2s (.tmp 17), none⟩,
 ⟨(some 19), .bin .add (.tmp 12) (.tmp 18), none⟩,
 ⟨(some 2), .mov (.tmp 19), none⟩]) (
 .ret)))))
theorem r123 : Runs Tryz.prog 123 m123.strip [.mov (.tmp 2)] 20 := ⟨by kernel_rfl, by kernel_rfl, Tryz.f123, Tryz.f123.body.getD .skip, Tryz.func123, by kernel_rfl, by kernel_rfl, by kernel_rfl, by kernel_rfl, by kernel_rfl⟩

def m125 : MC :=
 .seq (
 .reg [⟨(some 2), .box 128 2 (.tmp 0), none⟩,
 ⟨(some 3), .box 128 2 (.tmp 1), none⟩,
 ⟨(some 4), .mov (.const (.int .i64 0)), none⟩]) (
 .trim [2, 3] [2, 3] [] (
 .seq (
 .reg [⟨(some 5), .faddr 0 (.tmp 2), none⟩,
 ⟨(some 6), .load none (.tmp 5), none⟩,
 ⟨(some 7), .faddr 0 (.tmp 3), none⟩,
 ⟨(some 8), .load none (.tmp 7), none⟩,
 ⟨(some 9), .call (.func 126) [(.tmp 6), (.tmp 8)] .pure, none⟩,
 ⟨(some 4), .mov (.tmp 9), none⟩]) (
 .ret)))
theorem r125 : Runs Tryz.prog 125 m125.strip [.mov (.tmp 4)] 10 := ⟨by kernel_rfl, by kernel_rfl, Tryz.f125, Tryz.f125.body.getD .skip, Tryz.func125, by kernel_rfl, by kernel_rfl, by kernel_rfl, by kernel_rfl, by kernel_rfl⟩

def m126 : MC :=
 .seq (
 .reg [⟨(some 4), .mov (.const (.int .i64 0)), none⟩]) (
 .trim [0, 1] [] [] (
 .seq (
 .reg [⟨(some 7), .mov (.tmp 0), none⟩,
 ⟨(some 8), .call (.func 133) [(.tmp 7)] .pure, none⟩,
 ⟨(some 5), .mov (.tmp 8), none⟩]) (
 .trim [0, 1, 5] [] [] (
 .seq (
 .reg [⟨(some 9), .mov (.tmp 1), none⟩,
 ⟨(some 10), .call (.func 133) [(.tmp 9)] .pure, none⟩,
 ⟨(some 6), .mov (.tmp 10), none⟩]) (
 .trim [0, 1, 5, 6] [] [] (
 .seq (
 .seq (
 .reg [⟨(some 11), .mov (.tmp 5), none⟩]) (
 .trim [0, 1, 6, 11] [] [] (
 .cond (.tmp 11) (
 .seq (
 .seq (
 .reg [⟨(some 12), .mov (.tmp 6), none⟩]) (
 .trim [12] [] [] (
 .cond (.tmp 12) (
 .seq (
 .reg [⟨(some 4), .mov (.const (.int .i64 0)), none⟩]) (
 .ret)) (
 .skip)))) (
 .trim [] [] [] (
 .seq (
 .reg [⟨(some 4), .mov (.const (.int .i64 (-1))), none⟩]) (
 .ret)))) (
 .skip)))) (
 .trim [0, 1, 6] [] [] (
 .seq (
 .seq (
 .reg [⟨(some 13), .mov (.tmp 6), none⟩]) (
 .trim [0, 1, 13] [] [] (
 .cond (.tmp 13) (
 .seq (
 .reg [⟨(some 4), .mov (.const (.int .i64 1)), none⟩]) (
 .ret)) (
 .skip)))) (
 .trim [0, 1] [] [] (
 .seq (
 .seq (
 .reg [⟨(some 14), .mov (.tmp 0), none⟩,
 ⟨(some 15), .mov (.tmp 1), none⟩,
 ⟨(some 16), .bin .lss (.tmp 14) (.tmp 15), none⟩]) (
 .trim [0, 1, 16] [] [] (
 .cond (.tmp 16) (
 .seq (
 .reg [⟨(some 4), .mov (.const (.int .i64 (-1))), none⟩]) (
 .ret)) (
 .skip)))) (
 .trim [0, 1] [] [] (
 .seq (
 .seq (
 .reg [⟨(some 17), .mov (.tmp 0), none⟩,
 ⟨(some 18), .mov (.tmp 1), none⟩,
 ⟨(some 19), .bin .gtr (.tmp 17) (.tmp 18), none⟩]) (
 .trim [19] [] [] (
 .cond (.tmp 19) (
 .seq (
 .reg [⟨(some 4), .mov (.const (.int .i64 1)), none⟩]) (
 .ret)) (
 .skip)))) (
 .trim [] [] [] (
 .seq (
 .reg [⟨(some 4), .mov (.const (.int .i64 0)), none⟩]) (
 .ret)))))))))))))))
theorem r126 : Runs Tryz.prog 126 m126.strip [.mov (.tmp 4)] 20 := ⟨by kernel_rfl, by kernel_rfl, Tryz.f126, Tryz.f126.body.getD .skip, Tryz.func126, by kernel_rfl, by kernel_rfl, by kernel_rfl, by kernel_rfl, by kernel_rfl⟩

def m127 : MC :=
 .seq (
 .reg [⟨(some 4), .mov (.const (.bool false)), none⟩]) (
 .trim [0, 1] [] [] (
 .seq (
 .reg [⟨(some 5), .mov (.tmp 0), none⟩,
 ⟨(some 6), .mov (.tmp 1), none⟩,
 ⟨(some 7), .call (.func 134) [(.tmp 5), (.tmp 6)] .pure, none⟩,
 ⟨(some 8), .bin .geq (.tmp 7) (.const (.int .i64 0)), none⟩,
 ⟨(some 4), .mov (.tmp 8), none⟩]) (
 .ret)))
theorem r127 : Runs Tryz.prog 127 m127.strip [.mov (.tmp 4)] 9 := ⟨by kernel_rfl, by kernel_rfl, Tryz.f127, Tryz.f127.body.getD .skip, Tryz.func127, by kernel_rfl, by kernel_rfl, by kernel_rfl, by kernel_rfl, by kernel_rfl⟩

def m128 : MC :=
 .seq (
 .reg [⟨(some 2), .nilsl 9 1, none⟩]) (
 .trim [0] [] [] (
 .seq (
 .seq (
 .reg [⟨(some 3), .mov (.tmp 0), none⟩,
 ⟨(some 4), .isnil false (.tmp 3), none⟩]) (
 .trim [0, 4] [] [] (
 .cond (.tmp 4) (
 .seq (
 .reg [⟨(some 2), .nilsl 9 1, none⟩]) (
 .ret)) (
 .skip)))) (
 .trim [0] [] [] (
 .seq (
 .reg [⟨(some 5), .bslice 9 1 [(.val (.string ⟨#[]⟩))] 0 [], none⟩,
 ⟨(some 6), .mov (.tmp 0), none⟩,
 ⟨(some 7), .append 9 1 16 (.tmp 5) (.tmp 6), none⟩,
 ⟨(some 2), .mov (.tmp 7), none⟩]) (
 .ret)))))
theorem r128 : Runs Tryz.prog 128 m128.strip [.mov (.tmp 2)] 8 := ⟨by kernel_rfl, by kernel_rfl, Tryz.f128, Tryz.f128.body.getD .skip, Tryz.func128, by kernel_rfl, by kernel_rfl, by kernel_rfl, by kernel_rfl, by kernel_rfl⟩

def m133 : MC :=
 .seq (
 .reg [⟨(some 2), .mov (.const (.bool false)), none⟩]) (
 .trim [0] [] [] (
 .seq (
 .reg [⟨(some 3), .mov (.tmp 0), none⟩,
 ⟨(some 4), .mov (.tmp 0), none⟩,
 ⟨(some 5), .bin .neq (.tmp 3) (.tmp 4), none⟩,
 ⟨(some 2), .mov (.tmp 5), none⟩]) (
 .ret)))
theorem r133 : Runs Tryz.prog 133 m133.strip [.mov (.tmp 2)] 6 := ⟨by kernel_rfl, by kernel_rfl, Tryz.f133, Tryz.f133.body.getD .skip, Tryz.func133, by kernel_rfl, by kernel_rfl, by kernel_rfl, by kernel_rfl, by kernel_rfl⟩

def m134 : MC :=
 .seq (
 .reg [⟨(some 4), .mov (.const (.int .i64 0)), none⟩]) (
 .trim [0, 1] [] [] (
 .seq (
 .seq (
 .reg [⟨(some 6), .mov (.tmp 0), none⟩,
 ⟨(some 7), .lenL (.tmp 6), none⟩,
 ⟨(some 8), .mov (.const (.int .i64 0)), none⟩]) (
 .trim [0, 1, 7, 8] [] [] (
 .block 0 (
 .loop (
 .trim [0, 1, 7, 8] [] [] (
 .seq (
 .reg [⟨(some 9), .bin .lss (.tmp 8) (.tmp 7), none⟩]) (
 .trim [0, 1, 7, 8, 9] [] [] (
 .seq (
 .cond (.tmp 9) (
 .skip) (
 .exit 0)) (
 .trim [0, 1, 7, 8] [] [] (
 .seq (
 .block 1 (
 .seq (
 .reg [⟨(some 10), .mov (.tmp 8), none⟩,
 ⟨(some 5), .mov (.tmp 10), none⟩]) (
 .trim [0, 1, 5, 7, 8] [] [] (
 .seq (
 .reg [⟨(some 11), .mov (.tmp 1), none⟩,
 ⟨(some 12), .mov (.tmp 0), none⟩,
 ⟨(some 13), .mov (.tmp 5), none⟩,
 ⟨(some 14), .iaddrS 1 (.tmp 12) (.tmp 13), none⟩,
 ⟨(some 15), .load none (.tmp 14), none⟩,
 ⟨(some 16), .bin .eql (.tmp 11) (.tmp 15), none⟩]) (
 .trim [0, 1, 5, 7, 8, 16] [] [] (
 .cond (.tmp 16) (
 .seq (
 .reg [⟨(some 17), .mov (.tmp 5), none⟩,
 ⟨(some 4), .mov (.tmp 17), none⟩]) (
 .ret)) (
 .skip))))))) (
 .trim [0, 1, 7, 8] [] [] (
 .reg [⟨(some 18), .bin .add (.tmp 8) (.const (.int .i64 1)), none⟩,
 ⟨(some 8), .mov (.tmp 18), none⟩])))))))))))) (
 .trim [] [] [] (
 .seq (
 .reg [⟨(some 4), .mov (.const (.int .i64 (-1))), none⟩]) (
 .ret)))))
theorem r134 : Runs Tryz.prog 134 m134.strip [.mov (.tmp 4)] 19 := ⟨by kernel_rfl, by kernel_rfl, Tryz.f134, Tryz.f134.body.getD .skip, Tryz.func134, by kernel_rfl, by kernel_rfl, by kernel_rfl, by kernel_rfl, by kernel_rfl⟩

end Go.Proofs

