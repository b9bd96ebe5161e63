/- The functions, as code of the value machine (printed by program). -/
import Derived.Test.YtijhiblfdidnpaaGreatVm24
import Derived.Test.YtijhiblfdidnpaaGreatProg
set_option linter.unusedVariables false
set_option maxRecDepth 2000
namespace Go.Proofs
open Go.Vm
def m26 : MC :=
 .seq (
 .reg [⟨(some 1), .box 29 12 (.tmp 0), none⟩,
 ⟨(some 2), .mov (.const (.bool false)), none⟩]) (
 .trim [1] [1] [] (
 .seq (
 .seq (
 .reg [⟨(some 3), .mov (.const (.int .i64 0)), none⟩]) (
 .trim [1, 3] [1] [] (
 .block 0 (
 .loop (
 .trim [1, 3] [1] [] (
 .seq (
 .seq (
 .reg [⟨(some 4), .mov (.tmp 3), none⟩,
 ⟨(some 5), .bin .lss (.tmp 4) (.const (.int .i64 4)), none⟩]) (
 .trim [1, 3, 5] [1] [] (
 .cond (.tmp 5) (
 .skip) (
 .exit 0)))) (
 .trim [1, 3] [1] [] (
 .seq (
 .block 1 (
 .seq (
 .reg [⟨(some 8), .mov (.tmp 3), none⟩,
 ⟨(some 9), .iaddrA 4 3 (.tmp 1) (.tmp 8), none⟩,
 ⟨(some 10), .load (some 3) (.tmp 9), none⟩,
 ⟨(some 11), .call (.func 60) [(.tmp 10)] .pure, none⟩,
 ⟨(some 12), .un .not (.tmp 11), none⟩]) (
 .trim [1, 3, 12] [1] [] (
 .cond (.tmp 12) (
 .seq (
 .reg [⟨(some 2), .mov (.const (.bool false)), none⟩]) (
 .ret)) (
 .skip))))) (
 .trim [1, 3] [1] [] (
 .reg [⟨(some 6), .mov (.tmp 3), none⟩,
 ⟨(some 7), .bin .add (.tmp 6) (.const (.int .i64 1)), none⟩,
 ⟨(some 3), .mov (.tmp 7), none⟩])))))))))) (
 .trim [] [] [] (
 .seq (
 .reg [⟨(some 2), .mov (.const (.bool true)), none⟩]) (
 .ret)))))
theorem r26 : Runs Tryz.prog 26 m26.strip [.mov (.tmp 2)] 13 := ⟨by kernel_rfl, by kernel_rfl, Tryz.f26, Tryz.f26.body.getD .skip, Tryz.func26, by kernel_rfl, by kernel_rfl, by kernel_rfl, by kernel_rfl, by kernel_rfl⟩

def m27 : MC :=
 .seq (
 .reg [⟨(some 2), .mov (.const (.bool false)), none⟩]) (
 .trim [0] [] [] (
 .seq (
 .seq (
 .reg [⟨(some 3), .mov (.const (.int .i64 0)), none⟩]) (
 .trim [0, 3] [] [] (
 .block 0 (
 .loop (
 .trim [0, 3] [] [] (
 .seq (
 .seq (
 .reg [⟨(some 4), .mov (.tmp 3), none⟩,
 ⟨(some 5), .mov (.tmp 0), none⟩,
 ⟨(some 6), .lenL (.tmp 5), none⟩,
 ⟨(some 7), .bin .lss (.tmp 4) (.tmp 6), none⟩]) (
 .trim [0, 3, 7] [] [] (
 .cond (.tmp 7) (
 .skip) (
 .exit 0)))) (
 .trim [0, 3] [] [] (
 .seq (
 .block 1 (
 .seq (
 .reg [⟨(some 10), .mov (.tmp 0), none⟩,
 ⟨(some 11), .mov (.tmp 3), none⟩,
 ⟨(some 12), .iaddrS 16 (.tmp 10) (.tmp 11), none⟩,
 ⟨(some 13), .load (some 16) (.tmp 12), none⟩,
 ⟨(some 14), .call (.func 61) [(.tmp 13)] .pure, none⟩,
 ⟨(some 15), .un .not (.tmp 14), none⟩,
 ⟨(some 16), .mov (.tmp 15), none⟩,
 ⟨(some 17), .mov (.tmp 0), (some (16, false))⟩,
 ⟨(some 18), .mov (.tmp 3), (some (16, false))⟩,
 ⟨(some 19), .iaddrS 16 (.tmp 17) (.tmp 18), (some (16, false))⟩,
 ⟨(some 20), .load (some 16) (.tmp 19), (some (16, false))⟩,
 ⟨(some 21), .call (.func 62) [(.tmp 20)] .pure, (some (16, false))⟩,
 ⟨(some 22), .un .not (.tmp 21), (some (16, false))⟩,
 ⟨(some 23), .pick (.tmp 16) (.const (.bool true)) (.tmp 22), none⟩]) (
 .trim [0, 3, 23] [] [] (
 .cond (.tmp 23) (
 .seq (
 .reg [⟨(some 2), .mov (.const (.bool false)), none⟩]) (
 .ret)) (
 .skip))))) (
 .trim [0, 3] [] [] (
 .reg [⟨(some 8), .mov (.tmp 3), none⟩,
 ⟨(some 9), .bin .add (.tmp 8) (.const (.int .i64 1)), none⟩,
 ⟨(some 3), .mov (.tmp 9), none⟩])))))))))) (
 .trim [0] [] [] (
 .seq (
 .reg [⟨(some 24), .mov (.tmp 0), none⟩,
 ⟨(some 25), .lenL (.tmp 24), none⟩,
 ⟨(some 26), .bin .leq (.tmp 25) (.const (.int .i64 4)), none⟩,
 ⟨(some 27), .mov (.tmp 26), none⟩,
 ⟨(some 28), .mov (.tmp 0), (some (27, true))⟩,
 ⟨(some 29), .call (.func 63) [(.tmp 28)] .pure, (some (27, true))⟩,
 ⟨(some 30), .lenL (.tmp 29), (some (27, true))⟩,
 ⟨(some 31), .mov (.tmp 0), (some (27, true))⟩,
 ⟨(some 32), .lenL (.tmp 31), (some (27, true))⟩,
 ⟨(some 33), .bin .eql (.tmp 30) (.tmp 32), (some (27, true))⟩,
 ⟨(some 34), .pick (.tmp 27) (.tmp 33) (.const (.bool false)), none⟩,
 ⟨(some 2), .mov (.tmp 34), none⟩]) (
 .ret)))))
theorem r27 : Runs Tryz.prog 27 m27.strip [.mov (.tmp 2)] 35 := ⟨by kernel_rfl, by kernel_rfl, Tryz.f27, Tryz.f27.body.getD .skip, Tryz.func27, by kernel_rfl, by kernel_rfl, by kernel_rfl, by kernel_rfl, by kernel_rfl⟩

def m50 : MC :=
 .seq (
 .reg [⟨(some 2), .mov (.const (.bool false)), none⟩]) (
 .trim [0] [] [] (
 .seq (
 .reg [⟨(some 3), .mov (.tmp 0), none⟩,
 ⟨(some 4), .lenL (.tmp 3), none⟩,
 ⟨(some 5), .bin .leq (.tmp 4) (.const (.int .i64 20)), none⟩,
 ⟨(some 6), .mov (.tmp 5), none⟩,
 ⟨(some 7), .mov (.tmp 0), (some (6, true))⟩,
 ⟨(some 8), .call (.func 78) [(.tmp 7)] .pure, (some (6, true))⟩,
 ⟨(some 9), .pick (.tmp 6) (.tmp 8) (.const (.bool false)), none⟩,
 ⟨(some 2), .mov (.tmp 9), none⟩]) (
 .ret)))
theorem r50 : Runs Tryz.prog 50 m50.strip [.mov (.tmp 2)] 10 := ⟨by kernel_rfl, by kernel_rfl, Tryz.f50, Tryz.f50.body.getD .skip, Tryz.func50, by kernel_rfl, by kernel_rfl, by kernel_rfl, by kernel_rfl, by kernel_rfl⟩

def m52 : MC :=
 .seq (
 .reg [⟨(some 1), .box 29 12 (.tmp 0), none⟩,
 ⟨(some 2), .mov (.const (.bool false)), none⟩]) (
 .trim [1] [1] [] (
 .seq (
 .seq (
 .reg [⟨(some 5), .load (some 12) (.tmp 1), none⟩,
 ⟨(some 6), .mov (.const (.int .i64 0)), none⟩]) (
 .trim [5, 6] [] [] (
 .block 0 (
 .loop (
 .trim [5, 6] [] [] (
 .seq (
 .reg [⟨(some 7), .bin .lss (.tmp 6) (.const (.int .i64 4)), none⟩]) (
 .trim [5, 6, 7] [] [] (
 .seq (
 .cond (.tmp 7) (
 .skip) (
 .exit 0)) (
 .trim [5, 6] [] [] (
 .seq (
 .block 1 (
 .seq (
 .reg [⟨(some 8), .idxA 4 3 true (.tmp 5) (.tmp 6), none⟩,
 ⟨(some 4), .alloc 27 [(.val (.int .i64 0)), (.val (.int .i64 0)), (.val (.string ⟨#[]⟩))], none⟩,
 ⟨none, .store 3 (.tmp 4) (.tmp 8), none⟩]) (
 .trim [4, 5, 6] [4] [] (
 .seq (
 .reg [⟨(some 9), .load (some 3) (.tmp 4), none⟩,
 ⟨(some 10), .call (.func 79) [(.tmp 9)] .pure, none⟩,
 ⟨(some 11), .un .not (.tmp 10), none⟩]) (
 .trim [5, 6, 11] [] [] (
 .cond (.tmp 11) (
 .seq (
 .reg [⟨(some 2), .mov (.const (.bool false)), none⟩]) (
 .ret)) (
 .skip))))))) (
 .trim [5, 6] [] [] (
 .reg [⟨(some 12), .bin .add (.tmp 6) (.const (.int .i64 1)), none⟩,
 ⟨(some 6), .mov (.tmp 12), none⟩])))))))))))) (
 .trim [] [] [] (
 .seq (
 .reg [⟨(some 2), .mov (.const (.bool true)), none⟩]) (
 .ret)))))
theorem r52 : Runs Tryz.prog 52 m52.strip [.mov (.tmp 2)] 13 := ⟨by kernel_rfl, by kernel_rfl, Tryz.f52, Tryz.f52.body.getD .skip, Tryz.func52, by kernel_rfl, by kernel_rfl, by kernel_rfl, by kernel_rfl, by kernel_rfl⟩

def m53 : MC :=
 .seq (
 .reg [⟨(some 2), .mov (.const (.bool false)), none⟩]) (
 .trim [0] [] [] (
 .seq (
 .seq (
 .reg [⟨(some 5), .mov (.tmp 0), none⟩,
 ⟨(some 6), .lenL (.tmp 5), none⟩,
 ⟨(some 7), .bin .gtr (.tmp 6) (.const (.int .i64 4)), none⟩]) (
 .trim [0, 7] [] [] (
 .cond (.tmp 7) (
 .seq (
 .reg [⟨(some 2), .mov (.const (.bool false)), none⟩]) (
 .ret)) (
 .skip)))) (
 .trim [0] [] [] (
 .seq (
 .seq (
 .reg [⟨(some 8), .mov (.tmp 0), none⟩,
 ⟨(some 9), .lenL (.tmp 8), none⟩,
 ⟨(some 10), .mov (.const (.int .i64 0)), none⟩]) (
 .trim [0, 8, 9, 10] [] [] (
 .block 0 (
 .loop (
 .trim [0, 8, 9, 10] [] [] (
 .seq (
 .reg [⟨(some 11), .bin .lss (.tmp 10) (.tmp 9), none⟩]) (
 .trim [0, 8, 9, 10, 11] [] [] (
 .seq (
 .cond (.tmp 11) (
 .skip) (
 .exit 0)) (
 .trim [0, 8, 9, 10] [] [] (
 .seq (
 .block 1 (
 .seq (
 .reg [⟨(some 12), .iaddrS 16 (.tmp 8) (.tmp 10), none⟩,
 ⟨(some 13), .load (some 16) (.tmp 12), none⟩,
 ⟨(some 4), .alloc 106 [(.val (.bool false)), (.sl none []), (.val (.bool false)), (.sl none []), (.val (.bool false)), (.sl none []), (.val (.bool false)), (.sl none []), (.val (.bool false)), (.sl none []), (.val (.bool false)), (.sl none []), (.val (.bool false)), (.sl none []), (.val (.bool false)), (.sl none [])], none⟩,
 ⟨none, .store 16 (.tmp 4) (.tmp 13), none⟩]) (
 .trim [0, 4, 8, 9, 10] [4] [] (
 .seq (
 .reg [⟨(some 14), .load (some 16) (.tmp 4), none⟩,
 ⟨(some 15), .call (.func 80) [(.tmp 14)] .pure, none⟩,
 ⟨(some 16), .un .not (.tmp 15), none⟩,
 ⟨(some 17), .mov (.tmp 16), none⟩,
 ⟨(some 18), .load (some 16) (.tmp 4), (some (17, false))⟩,
 ⟨(some 19), .call (.func 81) [(.tmp 18)] .pure, (some (17, false))⟩,
 ⟨(some 20), .un .not (.tmp 19), (some (17, false))⟩,
 ⟨(some 21), .pick (.tmp 17) (.const (.bool true)) (.tmp 20), none⟩]) (
 .trim [0, 8, 9, 10, 21] [] [] (
 .cond (.tmp 21) (
 .seq (
 .reg [⟨(some 2), .mov (.const (.bool false)), none⟩]) (
 .ret)) (
 .skip))))))) (
 .trim [0, 8, 9, 10] [] [] (
 .reg [⟨(some 22), .bin .add (.tmp 10) (.const (.int .i64 1)), none⟩,
 ⟨(some 10), .mov (.tmp 22), none⟩])))))))))))) (
 .trim [0] [] [] (
 .seq (
 .reg [⟨(some 23), .mov (.tmp 0), none⟩,
 ⟨(some 24), .call (.func 82) [(.tmp 23)] .pure, none⟩,
 ⟨(some 25), .lenL (.tmp 24), none⟩,
 ⟨(some 26), .mov (.tmp 0), none⟩,
 ⟨(some 27), .lenL (.tmp 26), none⟩,
 ⟨(some 28), .bin .eql (.tmp 25) (.tmp 27), none⟩,
 ⟨(some 2), .mov (.tmp 28), none⟩]) (
 .ret)))))))
theorem r53 : Runs Tryz.prog 53 m53.strip [.mov (.tmp 2)] 29 := ⟨by kernel_rfl, by kernel_rfl, Tryz.f53, Tryz.f53.body.getD .skip, Tryz.func53, by kernel_rfl, by kernel_rfl, by kernel_rfl, by kernel_rfl, by kernel_rfl⟩

def m61 : MC :=
 .seq (
 .reg [⟨(some 1), .box 106 16 (.tmp 0), none⟩,
 ⟨(some 2), .mov (.const (.bool false)), none⟩]) (
 .trim [1] [1] [] (
 .seq (
 .seq (
 .reg [⟨(some 3), .mov (.const (.int .i64 0)), none⟩]) (
 .trim [1, 3] [1] [] (
 .block 0 (
 .loop (
 .trim [1, 3] [1] [] (
 .seq (
 .seq (
 .reg [⟨(some 4), .mov (.tmp 3), none⟩,
 ⟨(some 5), .bin .lss (.tmp 4) (.const (.int .i64 4)), none⟩]) (
 .trim [1, 3, 5] [1] [] (
 .cond (.tmp 5) (
 .skip) (
 .exit 0)))) (
 .trim [1, 3] [1] [] (
 .seq (
 .block 1 (
 .seq (
 .reg [⟨(some 8), .mov (.tmp 3), none⟩,
 ⟨(some 9), .iaddrA 4 4 (.tmp 1) (.tmp 8), none⟩,
 ⟨(some 10), .load (some 4) (.tmp 9), none⟩,
 ⟨(some 11), .call (.func 87) [(.tmp 10)] .pure, none⟩,
 ⟨(some 12), .un .not (.tmp 11), none⟩]) (
 .trim [1, 3, 12] [1] [] (
 .cond (.tmp 12) (
 .seq (
 .reg [⟨(some 2), .mov (.const (.bool false)), none⟩]) (
 .ret)) (
 .skip))))) (
 .trim [1, 3] [1] [] (
 .reg [⟨(some 6), .mov (.tmp 3), none⟩,
 ⟨(some 7), .bin .add (.tmp 6) (.const (.int .i64 1)), none⟩,
 ⟨(some 3), .mov (.tmp 7), none⟩])))))))))) (
 .trim [] [] [] (
 .seq (
 .reg [⟨(some 2), .mov (.const (.bool true)), none⟩]) (
 .ret)))))
theorem r61 : Runs Tryz.prog 61 m61.strip [.mov (.tmp 2)] 13 := ⟨by kernel_rfl, by kernel_rfl, Tryz.f61, Tryz.f61.body.getD .skip, Tryz.func61, by kernel_rfl, by kernel_rfl, by kernel_rfl, by kernel_rfl, by kernel_rfl⟩

def m62 : MC :=
 .seq (
 .reg [⟨(some 1), .box 106 16 (.tmp 0), none⟩,
 ⟨(some 2), .mov (.const (.bool false)), none⟩]) (
 .trim [1] [1] [] (
 .seq (
 .seq (
 .reg [⟨(some 3), .mov (.const (.int .i64 0)), none⟩]) (
 .trim [1, 3] [1] [] (
 .block 0 (
 .loop (
 .trim [1, 3] [1] [] (
 .seq (
 .seq (
 .reg [⟨(some 4), .mov (.tmp 3), none⟩,
 ⟨(some 5), .bin .lss (.tmp 4) (.const (.int .i64 4)), none⟩]) (
 .trim [1, 3, 5] [1] [] (
 .cond (.tmp 5) (
 .skip) (
 .exit 0)))) (
 .trim [1, 3] [1] [] (
 .seq (
 .block 1 (
 .seq (
 .reg [⟨(some 8), .mov (.tmp 3), none⟩,
 ⟨(some 9), .iaddrA 4 4 (.tmp 1) (.tmp 8), none⟩,
 ⟨(some 10), .load (some 4) (.tmp 9), none⟩,
 ⟨(some 11), .call (.func 88) [(.tmp 10)] .pure, none⟩,
 ⟨(some 12), .un .not (.tmp 11), none⟩]) (
 .trim [1, 3, 12] [1] [] (
 .cond (.tmp 12) (
 .seq (
 .reg [⟨(some 2), .mov (.const (.bool false)), none⟩]) (
 .ret)) (
 .skip))))) (
 .trim [1, 3] [1] [] (
 .reg [⟨(some 6), .mov (.tmp 3), none⟩,
 ⟨(some 7), .bin .add (.tmp 6) (.const (.int .i64 1)), none⟩,
 ⟨(some 3), .mov (.tmp 7), none⟩])))))))))) (
 .trim [] [] [] (
 .seq (
 .reg [⟨(some 2), .mov (.const (.bool true)), none⟩]) (
 .ret)))))
theorem r62 : Runs Tryz.prog 62 m62.strip [.mov (.tmp 2)] 13 := ⟨by kernel_rfl, by kernel_rfl, Tryz.f62, Tryz.f62.body.getD .skip, Tryz.func62, by kernel_rfl, by kernel_rfl, by kernel_rfl, by kernel_rfl, by kernel_rfl⟩

def m63 : MC :=
 .seq (
 .reg [⟨(some 2), .nilsl 106 16, none⟩]) (
 .trim [0] [] [] (
 .seq (
 .reg [⟨(some 3), .nilsl 106 16, none⟩]) (
 .trim [0, 3] [] [(3, 106, 16)] (
 .seq (
 .seq (
 .reg [⟨(some 4), .mov (.const (.int .i64 0)), none⟩]) (
 .trim [0, 3, 4] [] [(3, 106, 16)] (
 .block 0 (
 .loop (
 .trim [0, 3, 4] [] [(3, 106, 16)] (
 .seq (
 .seq (
 .reg [⟨(some 7), .mov (.tmp 4), none⟩,
 ⟨(some 8), .mov (.tmp 0), none⟩,
 ⟨(some 9), .lenL (.tmp 8), none⟩,
 ⟨(some 10), .bin .lss (.tmp 7) (.tmp 9), none⟩]) (
 .trim [0, 3, 4, 10] [] [(3, 106, 16)] (
 .cond (.tmp 10) (
 .skip) (
 .exit 0)))) (
 .trim [0, 3, 4] [] [(3, 106, 16)] (
 .seq (
 .block 1 (
 .seq (
 .reg [⟨(some 13), .mov (.tmp 0), none⟩,
 ⟨(some 14), .mov (.tmp 4), none⟩,
 ⟨(some 15), .iaddrS 16 (.tmp 13) (.tmp 14), none⟩,
 ⟨(some 16), .load (some 16) (.tmp 15), none⟩,
 ⟨(some 17), .call (.func 89) [(.tmp 16)] .pure, none⟩,
 ⟨(some 18), .un .not (.tmp 17), none⟩,
 ⟨(some 5), .mov (.tmp 18), none⟩]) (
 .trim [0, 3, 4, 5] [] [(3, 106, 16)] (
 .seq (
 .seq (
 .reg [⟨(some 6), .mov (.const (.int .i64 0)), none⟩]) (
 .trim [0, 3, 4, 5, 6] [] [(3, 106, 16)] (
 .block 2 (
 .loop (
 .trim [0, 3, 4, 5, 6] [] [(3, 106, 16)] (
 .seq (
 .seq (
 .reg [⟨(some 19), .mov (.tmp 6), none⟩,
 ⟨(some 20), .mov (.tmp 0), none⟩,
 ⟨(some 21), .lenL (.tmp 20), none⟩,
 ⟨(some 22), .bin .lss (.tmp 19) (.tmp 21), none⟩]) (
 .trim [0, 3, 4, 5, 6, 22] [] [(3, 106, 16)] (
 .cond (.tmp 22) (
 .skip) (
 .exit 2)))) (
 .trim [0, 3, 4, 5, 6] [] [(3, 106, 16)] (
 .seq (
 .block 3 (
 .seq (
 .dreg 34 [⟨(some 25), .mov (.tmp 6), none⟩,
 ⟨(some 26), .mov (.tmp 4), none⟩,
 ⟨(some 27), .bin .neq (.tmp 25) (.tmp 26), none⟩,
 ⟨(some 28), .mov (.tmp 27), none⟩,
 ⟨(some 29), .mov (.tmp 5), (some (28, true))⟩,
 ⟨(some 30), .pick (.tmp 28) (.tmp 29) (.const (.bool false)), none⟩,
 ⟨(some 31), .mov (.tmp 30), none⟩,
 ⟨(some 32), .mov (.tmp 0), (some (31, true))⟩,
 ⟨(some 33), .mov (.tmp 4), (some (31, true))⟩,
 ⟨(some 34), .iaddrS 16 (.tmp 32) (.tmp 33), (some (31, true))⟩,
 ⟨(some 35), .load (some 16) (.tmp 34), (some (31, true))⟩,
 ⟨(some 36), .mov (.tmp 0), (some (31, true))⟩,
 ⟨(some 37), .mov (.tmp 6), (some (31, true))⟩,
 ⟨(some 38), .iaddrS 16 (.tmp 36) (.tmp 37), (some (31, true))⟩,
 ⟨(some 39), .load (some 16) (.tmp 38), (some (31, true))⟩,
 ⟨(some 40), .call (.func 90) [(.tmp 35), (.tmp 39)] .pure, (some (31, true))⟩,
 ⟨(some 41), .pick (.tmp 31) (.tmp 40) (.const (.bool false)), none⟩,
 ⟨(some 42), .mov (.tmp 41), none⟩,
 ⟨(some 43), .mov (.tmp 6), (some (42, true))⟩,
 ⟨(some 44), .mov (.tmp 4), (some (42, true))⟩,
 ⟨(some 45), .bin .lss (.tmp 43) (.tmp 44), (some (42, true))⟩,
 ⟨(some 46), .mov (.tmp 45), (some (42, true))⟩,
 ⟨(some 47), .mov (.tmp 0), (some (46, false))⟩,
 ⟨(some 48), .mov (.tmp 6), (some (46, false))⟩,
 ⟨(some 49), .iaddrS 16 (.tmp 47) (.tmp 48), (some (46, false))⟩,
 ⟨(some 50), .load (some 16) (.tmp 49), (some (46, false))⟩,
 ⟨(some 51), .mov (.tmp 0), (some (46, false))⟩,
 ⟨(some 52), .mov (.tmp 4), (some (46, false))⟩,
 ⟨(some 53), .iaddrS 16 (.tmp 51) (.tmp 52), (some (46, false))⟩,
 ⟨(some 54), .load (some 16) (.tmp 53), (some (46, false))⟩,
 ⟨(some 55), .call (.func 90) [(.tmp 50), (.tmp 54)] .pure, (some (46, false))⟩,
 ⟨(some 56), .un .not (.tmp 55), (some (46, false))⟩,
 ⟨(some 57), .pick (.tmp 46) (.const (.bool true)) (.tmp 56), (some (42, true))⟩,
 ⟨(some 58), .pick (.tmp 42) (.tmp 57) (.const (.bool false)), none⟩]) (
 .trim [0, 3, 4, 5, 6, 58] [] [(3, 106, 16)] (
 .cond (.tmp 58) (
 .reg [⟨(some 5), .mov (.const (.bool false)), none⟩]) (
 .skip))))) (
 .trim [0, 3, 4, 5, 6] [] [(3, 106, 16)] (
 .reg [⟨(some 23), .mov (.tmp 6), none⟩,
 ⟨(some 24), .bin .add (.tmp 23) (.const (.int .i64 1)), none⟩,
 ⟨(some 6), .mov (.tmp 24), none⟩])))))))))) (
 .trim [0, 3, 4, 5] [] [(3, 106, 16)] (
 .seq (
 .reg [⟨(some 59), .mov (.tmp 5), none⟩]) (
 .trim [0, 3, 4, 59] [] [(3, 106, 16)] (
 .cond (.tmp 59) (
 .reg [⟨(some 60), .mov (.tmp 3), none⟩,
 ⟨(some 61), .mov (.tmp 0), none⟩,
 ⟨(some 62), .mov (.tmp 4), none⟩,
 ⟨(some 63), .iaddrS 16 (.tmp 61) (.tmp 62), none⟩,
 ⟨(some 64), .load (some 16) (.tmp 63), none⟩,
 ⟨(some 65), .bslice 106 16 [(.val (.bool false)), (.sl none []), (.val (.bool false)), (.sl none []), (.val (.bool false)), (.sl none []), (.val (.bool false)), (.sl none []), (.val (.bool false)), (.sl none []), (.val (.bool false)), (.sl none []), (.val (.bool false)), (.sl none []), (.val (.bool false)), (.sl none [])] 1 [(0, 16, (.tmp 64))], none⟩,
 ⟨(some 66), .append 106 16 256 (.tmp 60) (.tmp 65), none⟩,
 ⟨(some 3), .mov (.tmp 66), none⟩]) (
 .skip))))))))) (
 .trim [0, 3, 4] [] [(3, 106, 16)] (
 .reg [⟨(some 11), .mov (.tmp 4), none⟩,
 ⟨(some 12), .bin .add (.tmp 11) (.const (.int .i64 1)), none⟩,
 ⟨(some 4), .mov (.tmp 12), none⟩])))))))))) (
 .trim [3] [] [(3, 106, 16)] (
 .seq (
 .reg [⟨(some 67), .mov (.tmp 3), none⟩,
 ⟨(some 2), .mov (.tmp 67), none⟩]) (
 .ret)))))))
theorem r63 : Runs Tryz.prog 63 m63.strip [.mov (.tmp 2)] 68 := ⟨by kernel_rfl, by kernel_rfl, Tryz.f63, Tryz.f63.body.getD .skip, Tryz.func63, by kernel_rfl, by kernel_rfl, by kernel_rfl, by kernel_rfl, by kernel_rfl⟩

def m78 : MC :=
 .seq (
 .reg [⟨(some 2), .mov (.const (.bool false)), none⟩]) (
 .trim [0] [] [] (
 .seq (
 .seq (
 .reg [⟨(some 3), .mov (.const (.int .i64 0)), none⟩]) (
 .trim [0, 3] [] [] (
 .block 0 (
 .loop (
 .trim [0, 3] [] [] (
 .seq (
 .seq (
 .reg [⟨(some 4), .mov (.tmp 3), none⟩,
 ⟨(some 5), .mov (.tmp 0), none⟩,
 ⟨(some 6), .lenL (.tmp 5), none⟩,
 ⟨(some 7), .bin .lss (.tmp 4) (.tmp 6), none⟩]) (
 .trim [0, 3, 7] [] [] (
 .cond (.tmp 7) (
 .skip) (
 .exit 0)))) (
 .trim [0, 3] [] [] (
 .seq (
 .block 1 (
 .seq (
 .dreg 23 [⟨(some 10), .mov (.tmp 0), none⟩,
 ⟨(some 11), .mov (.tmp 3), none⟩,
 ⟨(some 12), .iaddrS 16 (.tmp 10) (.tmp 11), none⟩,
 ⟨(some 13), .iaddrA 4 4 (.tmp 12) (.const (.int .i64 0)), none⟩,
 ⟨(some 14), .load (some 4) (.tmp 13), none⟩,
 ⟨(some 15), .mov (.tmp 0), none⟩,
 ⟨(some 16), .mov (.tmp 3), none⟩,
 ⟨(some 17), .iaddrS 16 (.tmp 15) (.tmp 16), none⟩,
 ⟨(some 18), .iaddrA 4 4 (.tmp 17) (.const (.int .i64 1)), none⟩,
 ⟨(some 19), .load (some 4) (.tmp 18), none⟩,
 ⟨(some 20), .mov (.tmp 0), none⟩,
 ⟨(some 21), .mov (.tmp 3), none⟩,
 ⟨(some 22), .iaddrS 16 (.tmp 20) (.tmp 21), none⟩,
 ⟨(some 23), .iaddrA 4 4 (.tmp 22) (.const (.int .i64 2)), none⟩,
 ⟨(some 24), .load (some 4) (.tmp 23), none⟩,
 ⟨(some 25), .mov (.tmp 0), none⟩,
 ⟨(some 26), .mov (.tmp 3), none⟩,
 ⟨(some 27), .iaddrS 16 (.tmp 25) (.tmp 26), none⟩,
 ⟨(some 28), .iaddrA 4 4 (.tmp 27) (.const (.int .i64 3)), none⟩,
 ⟨(some 29), .load (some 4) (.tmp 28), none⟩,
 ⟨(some 30), .bslice 104 4 [(.val (.bool false)), (.sl none []), (.val (.bool false)), (.sl none [])] 4 [(0, 4, (.tmp 14)), (4, 4, (.tmp 19)), (8, 4, (.tmp 24)), (12, 4, (.tmp 29))], none⟩,
 ⟨(some 31), .call (.func 97) [(.tmp 30)] .pure, none⟩,
 ⟨(some 32), .un .not (.tmp 31), none⟩]) (
 .trim [0, 3, 32] [] [] (
 .cond (.tmp 32) (
 .seq (
 .reg [⟨(some 2), .mov (.const (.bool false)), none⟩]) (
 .ret)) (
 .skip))))) (
 .trim [0, 3] [] [] (
 .reg [⟨(some 8), .mov (.tmp 3), none⟩,
 ⟨(some 9), .bin .add (.tmp 8) (.const (.int .i64 1)), none⟩,
 ⟨(some 3), .mov (.tmp 9), none⟩])))))))))) (
 .trim [] [] [] (
 .seq (
 .reg [⟨(some 2), .mov (.const (.bool true)), none⟩]) (
 .ret)))))
theorem r78 : Runs Tryz.prog 78 m78.strip [.mov (.tmp 2)] 33 := ⟨by kernel_rfl, by kernel_rfl, Tryz.f78, Tryz.f78.body.getD .skip, Tryz.func78, by kernel_rfl, by kernel_rfl, by kernel_rfl, by kernel_rfl, by kernel_rfl⟩

def m80 : MC :=
 .seq (
 .reg [⟨(some 1), .box 106 16 (.tmp 0), none⟩,
 ⟨(some 2), .mov (.const (.bool false)), none⟩]) (
 .trim [1] [1] [] (
 .seq (
 .seq (
 .reg [⟨(some 5), .load (some 16) (.tmp 1), none⟩,
 ⟨(some 6), .mov (.const (.int .i64 0)), none⟩]) (
 .trim [5, 6] [] [] (
 .block 0 (
 .loop (
 .trim [5, 6] [] [] (
 .seq (
 .reg [⟨(some 7), .bin .lss (.tmp 6) (.const (.int .i64 4)), none⟩]) (
 .trim [5, 6, 7] [] [] (
 .seq (
 .cond (.tmp 7) (
 .skip) (
 .exit 0)) (
 .trim [5, 6] [] [] (
 .seq (
 .block 1 (
 .seq (
 .reg [⟨(some 8), .idxA 4 4 true (.tmp 5) (.tmp 6), none⟩,
 ⟨(some 4), .alloc 104 [(.val (.bool false)), (.sl none []), (.val (.bool false)), (.sl none [])], none⟩,
 ⟨none, .store 4 (.tmp 4) (.tmp 8), none⟩]) (
 .trim [4, 5, 6] [4] [] (
 .seq (
 .reg [⟨(some 9), .load (some 4) (.tmp 4), none⟩,
 ⟨(some 10), .call (.func 98) [(.tmp 9)] .pure, none⟩,
 ⟨(some 11), .un .not (.tmp 10), none⟩]) (
 .trim [5, 6, 11] [] [] (
 .cond (.tmp 11) (
 .seq (
 .reg [⟨(some 2), .mov (.const (.bool false)), none⟩]) (
 .ret)) (
 .skip))))))) (
 .trim [5, 6] [] [] (
 .reg [⟨(some 12), .bin .add (.tmp 6) (.const (.int .i64 1)), none⟩,
 ⟨(some 6), .mov (.tmp 12), none⟩])))))))))))) (
 .trim [] [] [] (
 .seq (
 .reg [⟨(some 2), .mov (.const (.bool true)), none⟩]) (
 .ret)))))
theorem r80 : Runs Tryz.prog 80 m80.strip [.mov (.tmp 2)] 13 := ⟨by kernel_rfl, by kernel_rfl, Tryz.f80, Tryz.f80.body.getD .skip, Tryz.func80, by kernel_rfl, by kernel_rfl, by kernel_rfl, by kernel_rfl, by kernel_rfl⟩

def m81 : MC :=
 .seq (
 .reg [⟨(some 1), .box 106 16 (.tmp 0), none⟩,
 ⟨(some 2), .mov (.const (.bool false)), none⟩]) (
 .trim [1] [1] [] (
 .seq (
 .seq (
 .reg [⟨(some 5), .load (some 16) (.tmp 1), none⟩,
 ⟨(some 6), .mov (.const (.int .i64 0)), none⟩]) (
 .trim [5, 6] [] [] (
 .block 0 (
 .loop (
 .trim [5, 6] [] [] (
 .seq (
 .reg [⟨(some 7), .bin .lss (.tmp 6) (.const (.int .i64 4)), none⟩]) (
 .trim [5, 6, 7] [] [] (
 .seq (
 .cond (.tmp 7) (
 .skip) (
 .exit 0)) (
 .trim [5, 6] [] [] (
 .seq (
 .block 1 (
 .seq (
 .reg [⟨(some 8), .idxA 4 4 true (.tmp 5) (.tmp 6), none⟩,
 ⟨(some 4), .alloc 104 [(.val (.bool false)), (.sl none []), (.val (.bool false)), (.sl none [])], none⟩,
 ⟨none, .store 4 (.tmp 4) (.tmp 8), none⟩]) (
 .trim [4, 5, 6] [4] [] (
 .seq (
 .reg [⟨(some 9), .load (some 4) (.tmp 4), none⟩,
 ⟨(some 10), .call (.func 99) [(.tmp 9)] .pure, none⟩,
 ⟨(some 11), .un .not (.tmp 10), none⟩]) (
 .trim [5, 6, 11] [] [] (
 .cond (.tmp 11) (
 .seq (
 .reg [⟨(some 2), .mov (.const (.bool false)), none⟩]) (
 .ret)) (
 .skip))))))) (
 .trim [5, 6] [] [] (
 .reg [⟨(some 12), .bin .add (.tmp 6) (.const (.int .i64 1)), none⟩,
 ⟨(some 6), .mov (.tmp 12), none⟩])))))))))))) (
 .trim [] [] [] (
 .seq (
 .reg [⟨(some 2), .mov (.const (.bool true)), none⟩]) (
 .ret)))))
theorem r81 : Runs Tryz.prog 81 m81.strip [.mov (.tmp 2)] 13 := ⟨by kernel_rfl, by kernel_rfl, Tryz.f81, Tryz.f81.body.getD .skip, Tryz.func81, by kernel_rfl, by kernel_rfl, by kernel_rfl, by kernel_rfl, by kernel_rfl⟩

def m82 : MC :=
 .seq (
 .reg [⟨(some 2), .nilsl 106 16, none⟩]) (
 .trim [0, 2] [] [(2, 106, 16)] (
 .seq (
 .seq (
 .reg [⟨(some 6), .mov (.tmp 0), none⟩,
 ⟨(some 7), .lenL (.tmp 6), none⟩,
 ⟨(some 8), .mov (.const (.int .i64 0)), none⟩]) (
 .trim [0, 2, 7, 8] [] [(2, 106, 16)] (
 .block 0 (
 .loop (
 .trim [0, 2, 7, 8] [] [(2, 106, 16)] (
 .seq (
 .reg [⟨(some 9), .bin .lss (.tmp 8) (.tmp 7), none⟩]) (
 .trim [0, 2, 7, 8, 9] [] [(2, 106, 16)] (
 .seq (
 .cond (.tmp 9) (
 .skip) (
 .exit 0)) (
 .trim [0, 2, 7, 8] [] [(2, 106, 16)] (
 .seq (
 .block 1 (
 .seq (
 .reg [⟨(some 10), .mov (.tmp 8), none⟩,
 ⟨(some 3), .mov (.tmp 10), none⟩]) (
 .trim [0, 2, 3, 7, 8] [] [(2, 106, 16)] (
 .seq (
 .seq (
 .reg [⟨(some 11), .mov (.tmp 0), none⟩,
 ⟨(some 12), .mov (.tmp 3), none⟩,
 ⟨(some 13), .iaddrS 16 (.tmp 11) (.tmp 12), none⟩,
 ⟨(some 14), .load (some 16) (.tmp 13), none⟩,
 ⟨(some 15), .call (.func 100) [(.tmp 14)] .pure, none⟩]) (
 .trim [0, 2, 3, 7, 8, 15] [] [(2, 106, 16)] (
 .cond (.tmp 15) (
 .exit 1) (
 .skip)))) (
 .trim [0, 2, 3, 7, 8] [] [(2, 106, 16)] (
 .seq (
 .reg [⟨(some 4), .mov (.const (.bool false)), none⟩]) (
 .trim [0, 2, 3, 4, 7, 8] [] [(2, 106, 16)] (
 .seq (
 .seq (
 .reg [⟨(some 16), .mov (.tmp 0), none⟩,
 ⟨(some 17), .lenL (.tmp 16), none⟩,
 ⟨(some 18), .mov (.const (.int .i64 0)), none⟩]) (
 .trim [0, 2, 3, 4, 7, 8, 17, 18] [] [(2, 106, 16)] (
 .block 2 (
 .loop (
 .trim [0, 2, 3, 4, 7, 8, 17, 18] [] [(2, 106, 16)] (
 .seq (
 .reg [⟨(some 19), .bin .lss (.tmp 18) (.tmp 17), none⟩]) (
 .trim [0, 2, 3, 4, 7, 8, 17, 18, 19] [] [(2, 106, 16)] (
 .seq (
 .cond (.tmp 19) (
 .skip) (
 .exit 2)) (
 .trim [0, 2, 3, 4, 7, 8, 17, 18] [] [(2, 106, 16)] (
 .seq (
 .block 3 (
 .seq (
 .reg [⟨(some 20), .mov (.tmp 18), none⟩,
 ⟨(some 5), .mov (.tmp 20), none⟩]) (
 .trim [0, 2, 3, 4, 5, 7, 8, 17, 18] [] [(2, 106, 16)] (
 .dreg 19 [⟨(some 21), .mov (.tmp 4), none⟩,
 ⟨(some 22), .mov (.tmp 21), none⟩,
 ⟨(some 23), .mov (.tmp 5), (some (22, false))⟩,
 ⟨(some 24), .mov (.tmp 3), (some (22, false))⟩,
 ⟨(some 25), .bin .neq (.tmp 23) (.tmp 24), (some (22, false))⟩,
 ⟨(some 26), .mov (.tmp 25), (some (22, false))⟩,
 ⟨(some 27), .mov (.tmp 0), (some (26, true))⟩,
 ⟨(some 28), .mov (.tmp 3), (some (26, true))⟩,
 ⟨(some 29), .iaddrS 16 (.tmp 27) (.tmp 28), (some (26, true))⟩,
 ⟨(some 30), .mov (.tmp 0), (some (26, true))⟩,
 ⟨(some 31), .mov (.tmp 5), (some (26, true))⟩,
 ⟨(some 32), .iaddrS 16 (.tmp 30) (.tmp 31), (some (26, true))⟩,
 ⟨(some 33), .mov (.tmp 5), (some (26, true))⟩,
 ⟨(some 34), .mov (.tmp 3), (some (26, true))⟩,
 ⟨(some 35), .bin .lss (.tmp 33) (.tmp 34), (some (26, true))⟩,
 ⟨(some 36), .call (.func 101) [(.tmp 29), (.tmp 32), (.tmp 35)] .pure, (some (26, true))⟩,
 ⟨(some 37), .pick (.tmp 26) (.tmp 36) (.const (.bool false)), (some (22, false))⟩,
 ⟨(some 38), .pick (.tmp 22) (.const (.bool true)) (.tmp 37), none⟩,
 ⟨(some 4), .mov (.tmp 38), none⟩])))) (
 .trim [0, 2, 3, 4, 7, 8, 17, 18] [] [(2, 106, 16)] (
 .reg [⟨(some 39), .bin .add (.tmp 18) (.const (.int .i64 1)), none⟩,
 ⟨(some 18), .mov (.tmp 39), none⟩])))))))))))) (
 .trim [0, 2, 3, 4, 7, 8] [] [(2, 106, 16)] (
 .seq (
 .reg [⟨(some 40), .mov (.tmp 4), none⟩,
 ⟨(some 41), .un .not (.tmp 40), none⟩]) (
 .trim [0, 2, 3, 7, 8, 41] [] [(2, 106, 16)] (
 .cond (.tmp 41) (
 .reg [⟨(some 42), .mov (.tmp 2), none⟩,
 ⟨(some 43), .mov (.tmp 0), none⟩,
 ⟨(some 44), .mov (.tmp 3), none⟩,
 ⟨(some 45), .iaddrS 16 (.tmp 43) (.tmp 44), none⟩,
 ⟨(some 46), .load (some 16) (.tmp 45), none⟩,
 ⟨(some 47), .bslice 106 16 [(.val (.bool false)), (.sl none []), (.val (.bool false)), (.sl none []), (.val (.bool false)), (.sl none []), (.val (.bool false)), (.sl none []), (.val (.bool false)), (.sl none []), (.val (.bool false)), (.sl none []), (.val (.bool false)), (.sl none []), (.val (.bool false)), (.sl none [])] 1 [(0, 16, (.tmp 46))], none⟩,
 ⟨(some 48), .append 106 16 256 (.tmp 42) (.tmp 47), none⟩,
 ⟨(some 2), .mov (.tmp 48), none⟩]) (
 .skip))))))))))))) (
 .trim [0, 2, 7, 8] [] [(2, 106, 16)] (
 .reg [⟨(some 49), .bin .add (.tmp 8) (.const (.int .i64 1)), none⟩,
 ⟨(some 8), .mov (.tmp 49), none⟩])))))))))))) (
 .trim [2] [] [(2, 106, 16)] (
 .seq (
 .reg [⟨(some 50), .mov (.tmp 2), none⟩,
 ⟨(some 2), .mov (.tmp 50), none⟩]) (
 .ret)))))
theorem r82 : Runs Tryz.prog 82 m82.strip [.mov (.tmp 2)] 51 := ⟨by kernel_rfl, by kernel_rfl, Tryz.f82, Tryz.f82.body.getD .skip, Tryz.func82, by kernel_rfl, by kernel_rfl, by kernel_rfl, by kernel_rfl, by kernel_rfl⟩

def m88 : MC :=
 .seq (
 .reg [⟨(some 1), .box 104 4 (.tmp 0), none⟩,
 ⟨(some 2), .mov (.const (.bool false)), none⟩]) (
 .trim [1] [1] [] (
 .seq (
 .reg [⟨(some 3), .faddr 1 (.tmp 1), none⟩,
 ⟨(some 4), .load none (.tmp 3), none⟩,
 ⟨(some 5), .lenL (.tmp 4), none⟩,
 ⟨(some 6), .bin .leq (.tmp 5) (.const (.int .i64 6)), none⟩,
 ⟨(some 7), .mov (.tmp 6), none⟩,
 ⟨(some 8), .faddr 3 (.tmp 1), (some (7, true))⟩,
 ⟨(some 9), .load none (.tmp 8), (some (7, true))⟩,
 ⟨(some 10), .lenL (.tmp 9), (some (7, true))⟩,
 ⟨(some 11), .bin .leq (.tmp 10) (.const (.int .i64 6)), (some (7, true))⟩,
 ⟨(some 12), .pick (.tmp 7) (.tmp 11) (.const (.bool false)), none⟩,
 ⟨(some 2), .mov (.tmp 12), none⟩]) (
 .ret)))
theorem r88 : Runs Tryz.prog 88 m88.strip [.mov (.tmp 2)] 13 := ⟨by kernel_rfl, by kernel_rfl, Tryz.f88, Tryz.f88.body.getD .skip, Tryz.func88, by kernel_rfl, by kernel_rfl, by kernel_rfl, by kernel_rfl, by kernel_rfl⟩

def m89 : MC :=
 .seq (
 .reg [⟨(some 1), .box 106 16 (.tmp 0), none⟩,
 ⟨(some 2), .mov (.const (.bool false)), none⟩]) (
 .trim [1] [1] [] (
 .seq (
 .seq (
 .reg [⟨(some 3), .mov (.const (.int .i64 0)), none⟩]) (
 .trim [1, 3] [1] [] (
 .block 0 (
 .loop (
 .trim [1, 3] [1] [] (
 .seq (
 .seq (
 .reg [⟨(some 4), .mov (.tmp 3), none⟩,
 ⟨(some 5), .bin .lss (.tmp 4) (.const (.int .i64 4)), none⟩]) (
 .trim [1, 3, 5] [1] [] (
 .cond (.tmp 5) (
 .skip) (
 .exit 0)))) (
 .trim [1, 3] [1] [] (
 .seq (
 .block 1 (
 .seq (
 .reg [⟨(some 8), .mov (.tmp 3), none⟩,
 ⟨(some 9), .iaddrA 4 4 (.tmp 1) (.tmp 8), none⟩,
 ⟨(some 10), .load (some 4) (.tmp 9), none⟩,
 ⟨(some 11), .call (.func 102) [(.tmp 10)] .pure, none⟩]) (
 .trim [1, 3, 11] [1] [] (
 .cond (.tmp 11) (
 .seq (
 .reg [⟨(some 2), .mov (.const (.bool true)), none⟩]) (
 .ret)) (
 .skip))))) (
 .trim [1, 3] [1] [] (
 .reg [⟨(some 6), .mov (.tmp 3), none⟩,
 ⟨(some 7), .bin .add (.tmp 6) (.const (.int .i64 1)), none⟩,
 ⟨(some 3), .mov (.tmp 7), none⟩])))))))))) (
 .trim [] [] [] (
 .seq (
 .reg [⟨(some 2), .mov (.const (.bool false)), none⟩]) (
 .ret)))))
theorem r89 : Runs Tryz.prog 89 m89.strip [.mov (.tmp 2)] 12 := ⟨by kernel_rfl, by kernel_rfl, Tryz.f89, Tryz.f89.body.getD .skip, Tryz.func89, by kernel_rfl, by kernel_rfl, by kernel_rfl, by kernel_rfl, by kernel_rfl⟩

def m90 : MC :=
 .seq (
 .reg [⟨(some 2), .box 106 16 (.tmp 0), none⟩,
 ⟨(some 3), .box 106 16 (.tmp 1), none⟩,
 ⟨(some 4), .mov (.const (.bool false)), none⟩]) (
 .trim [2, 3] [2, 3] [] (
 .seq (
 .seq (
 .reg [⟨(some 6), .load (some 16) (.tmp 2), none⟩,
 ⟨(some 7), .call (.func 89) [(.tmp 6)] .pure, none⟩]) (
 .trim [2, 3, 7] [2, 3] [] (
 .cond (.tmp 7) (
 .seq (
 .reg [⟨(some 4), .mov (.const (.bool true)), none⟩]) (
 .ret)) (
 .skip)))) (
 .trim [2, 3] [2, 3] [] (
 .seq (
 .seq (
 .reg [⟨(some 5), .mov (.const (.int .i64 0)), none⟩]) (
 .trim [2, 3, 5] [2, 3] [] (
 .block 0 (
 .loop (
 .trim [2, 3, 5] [2, 3] [] (
 .seq (
 .seq (
 .reg [⟨(some 8), .mov (.tmp 5), none⟩,
 ⟨(some 9), .bin .lss (.tmp 8) (.const (.int .i64 4)), none⟩]) (
 .trim [2, 3, 5, 9] [2, 3] [] (
 .cond (.tmp 9) (
 .skip) (
 .exit 0)))) (
 .trim [2, 3, 5] [2, 3] [] (
 .seq (
 .block 1 (
 .seq (
 .dreg 8 [⟨(some 12), .mov (.tmp 5), none⟩,
 ⟨(some 13), .iaddrA 4 4 (.tmp 2) (.tmp 12), none⟩,
 ⟨(some 14), .load (some 4) (.tmp 13), none⟩,
 ⟨(some 15), .mov (.tmp 5), none⟩,
 ⟨(some 16), .iaddrA 4 4 (.tmp 3) (.tmp 15), none⟩,
 ⟨(some 17), .load (some 4) (.tmp 16), none⟩,
 ⟨(some 18), .call (.func 103) [(.tmp 14), (.tmp 17)] .pure, none⟩,
 ⟨(some 19), .un .not (.tmp 18), none⟩]) (
 .trim [2, 3, 5, 19] [2, 3] [] (
 .cond (.tmp 19) (
 .seq (
 .reg [⟨(some 4), .mov (.const (.bool false)), none⟩]) (
 .ret)) (
 .skip))))) (
 .trim [2, 3, 5] [2, 3] [] (
 .reg [⟨(some 10), .mov (.tmp 5), none⟩,
 ⟨(some 11), .bin .add (.tmp 10) (.const (.int .i64 1)), none⟩,
 ⟨(some 5), .mov (.tmp 11), none⟩])))))))))) (
 .trim [] [] [] (
 .seq (
 .reg [⟨(some 4), .mov (.const (.bool true)), none⟩]) (
 .ret)))))))
theorem r90 : Runs Tryz.prog 90 m90.strip [.mov (.tmp 4)] 20 := ⟨by kernel_rfl, by kernel_rfl, Tryz.f90, Tryz.f90.body.getD .skip, Tryz.func90, by kernel_rfl, by kernel_rfl, by kernel_rfl, by kernel_rfl, by kernel_rfl⟩

def m98 : MC :=
 .seq (
 .reg [⟨(some 1), .box 104 4 (.tmp 0), none⟩,
 ⟨(some 2), .mov (.const (.bool false)), none⟩]) (
 .trim [1] [1] [] (
 .seq (
 .seq (
 .reg [⟨(some 7), .faddr 1 (.tmp 1), none⟩,
 ⟨(some 8), .load none (.tmp 7), none⟩,
 ⟨(some 9), .lenL (.tmp 8), none⟩,
 ⟨(some 10), .mov (.const (.int .i64 0)), none⟩]) (
 .trim [1, 8, 9, 10] [1] [] (
 .block 0 (
 .loop (
 .trim [1, 8, 9, 10] [1] [] (
 .seq (
 .reg [⟨(some 11), .bin .lss (.tmp 10) (.tmp 9), none⟩]) (
 .trim [1, 8, 9, 10, 11] [1] [] (
 .seq (
 .cond (.tmp 11) (
 .skip) (
 .exit 0)) (
 .trim [1, 8, 9, 10] [1] [] (
 .seq (
 .block 1 (
 .seq (
 .reg [⟨(some 12), .mov (.tmp 10), none⟩,
 ⟨(some 13), .iaddrS 2 (.tmp 8) (.tmp 10), none⟩,
 ⟨(some 14), .load (some 2) (.tmp 13), none⟩,
 ⟨(some 4), .alloc 128 [(.val (.int .i64 0)), (.val (.int .i64 0))], none⟩,
 ⟨(some 3), .mov (.tmp 12), none⟩,
 ⟨none, .store 2 (.tmp 4) (.tmp 14), none⟩]) (
 .trim [1, 3, 4, 8, 9, 10] [1, 4] [] (
 .seq (
 .dreg 34 [⟨(some 15), .faddr 0 (.tmp 4), none⟩,
 ⟨(some 16), .load none (.tmp 15), none⟩,
 ⟨(some 17), .faddr 1 (.tmp 4), none⟩,
 ⟨(some 18), .load none (.tmp 17), none⟩,
 ⟨(some 19), .bin .gtr (.tmp 16) (.tmp 18), none⟩,
 ⟨(some 20), .mov (.tmp 19), none⟩,
 ⟨(some 21), .mov (.tmp 3), (some (20, false))⟩,
 ⟨(some 22), .bin .gtr (.tmp 21) (.const (.int .i64 0)), (some (20, false))⟩,
 ⟨(some 23), .mov (.tmp 22), (some (20, false))⟩,
 ⟨(some 24), .faddr 0 (.tmp 4), (some (23, true))⟩,
 ⟨(some 25), .load none (.tmp 24), (some (23, true))⟩,
 ⟨(some 26), .faddr 1 (.tmp 1), (some (23, true))⟩,
 ⟨(some 27), .load none (.tmp 26), (some (23, true))⟩,
 ⟨(some 28), .mov (.tmp 3), (some (23, true))⟩,
 ⟨(some 29), .bin .sub (.tmp 28) (.const (.int .i64 1)), (some (23, true))⟩,
 ⟨(some 30), .iaddrS 2 (.tmp 27) (.tmp 29), (some (23, true))⟩,
 ⟨(some 31), .faddr 1 (.tmp 30), (some (23, true))⟩,
 ⟨(some 32), .load none (.tmp 31), (some (23, true))⟩,
 ⟨(some 33), .bin .leq (.tmp 25) (.tmp 32), (some (23, true))⟩,
 ⟨(some 34), .mov (.tmp 33), (some (23, true))⟩,
 ⟨(some 35), .faddr 0 (.tmp 4), (some (34, false))⟩,
 ⟨(some 36), .load none (.tmp 35), (some (34, false))⟩,
 ⟨(some 37), .bin .sub (.tmp 36) (.const (.int .i64 1)), (some (34, false))⟩,
 ⟨(some 38), .faddr 1 (.tmp 1), (some (34, false))⟩,
 ⟨(some 39), .load none (.tmp 38), (some (34, false))⟩,
 ⟨(some 40), .mov (.tmp 3), (some (34, false))⟩,
 ⟨(some 41), .bin .sub (.tmp 40) (.const (.int .i64 1)), (some (34, false))⟩,
 ⟨(some 42), .iaddrS 2 (.tmp 39) (.tmp 41), (some (34, false))⟩,
 ⟨(some 43), .faddr 1 (.tmp 42), (some (34, false))⟩,
 ⟨(some 44), .load none (.tmp 43), (some (34, false))⟩,
 ⟨(some 45), .bin .eql (.tmp 37) (.tmp 44), (some (34, false))⟩,
 ⟨(some 46), .pick (.tmp 34) (.const (.bool true)) (.tmp 45), (some (23, true))⟩,
 ⟨(some 47), .pick (.tmp 23) (.tmp 46) (.const (.bool false)), (some (20, false))⟩,
 ⟨(some 48), .pick (.tmp 20) (.const (.bool true)) (.tmp 47), none⟩]) (
 .trim [1, 8, 9, 10, 48] [1] [] (
 .cond (.tmp 48) (
 .seq (
 .reg [⟨(some 2), .mov (.const (.bool false)), none⟩]) (
 .ret)) (
 .skip))))))) (
 .trim [1, 8, 9, 10] [1] [] (
 .reg [⟨(some 49), .bin .add (.tmp 10) (.const (.int .i64 1)), none⟩,
 ⟨(some 10), .mov (.tmp 49), none⟩])))))))))))) (
 .trim [1] [1] [] (
 .seq (
 .seq (
 .reg [⟨(some 50), .faddr 3 (.tmp 1), none⟩,
 ⟨(some 51), .load none (.tmp 50), none⟩,
 ⟨(some 52), .lenL (.tmp 51), none⟩,
 ⟨(some 53), .mov (.const (.int .i64 0)), none⟩]) (
 .trim [1, 51, 52, 53] [1] [] (
 .block 2 (
 .loop (
 .trim [1, 51, 52, 53] [1] [] (
 .seq (
 .reg [⟨(some 54), .bin .lss (.tmp 53) (.tmp 52), none⟩]) (
 .trim [1, 51, 52, 53, 54] [1] [] (
 .seq (
 .cond (.tmp 54) (
 .skip) (
 .exit 2)) (
 .trim [1, 51, 52, 53] [1] [] (
 .seq (
 .block 3 (
 .seq (
 .reg [⟨(some 55), .mov (.tmp 53), none⟩,
 ⟨(some 56), .iaddrS 1 (.tmp 51) (.tmp 53), none⟩,
 ⟨(some 57), .load none (.tmp 56), none⟩,
 ⟨(some 5), .mov (.tmp 55), none⟩,
 ⟨(some 6), .mov (.tmp 57), none⟩]) (
 .trim [1, 5, 6, 51, 52, 53] [1] [] (
 .seq (
 .reg [⟨(some 58), .mov (.tmp 6), none⟩,
 ⟨(some 59), .lenS (.tmp 58), none⟩,
 ⟨(some 60), .bin .gtr (.tmp 59) (.const (.int .i64 8)), none⟩,
 ⟨(some 61), .mov (.tmp 60), none⟩,
 ⟨(some 62), .mov (.tmp 5), (some (61, false))⟩,
 ⟨(some 63), .bin .gtr (.tmp 62) (.const (.int .i64 0)), (some (61, false))⟩,
 ⟨(some 64), .mov (.tmp 63), (some (61, false))⟩,
 ⟨(some 65), .faddr 3 (.tmp 1), (some (64, true))⟩,
 ⟨(some 66), .load none (.tmp 65), (some (64, true))⟩,
 ⟨(some 67), .mov (.tmp 5), (some (64, true))⟩,
 ⟨(some 68), .bin .sub (.tmp 67) (.const (.int .i64 1)), (some (64, true))⟩,
 ⟨(some 69), .iaddrS 1 (.tmp 66) (.tmp 68), (some (64, true))⟩,
 ⟨(some 70), .load none (.tmp 69), (some (64, true))⟩,
 ⟨(some 71), .mov (.tmp 6), (some (64, true))⟩,
 ⟨(some 72), .bin .geq (.tmp 70) (.tmp 71), (some (64, true))⟩,
 ⟨(some 73), .pick (.tmp 64) (.tmp 72) (.const (.bool false)), (some (61, false))⟩,
 ⟨(some 74), .pick (.tmp 61) (.const (.bool true)) (.tmp 73), none⟩]) (
 .trim [1, 51, 52, 53, 74] [1] [] (
 .cond (.tmp 74) (
 .seq (
 .reg [⟨(some 2), .mov (.const (.bool false)), none⟩]) (
 .ret)) (
 .skip))))))) (
 .trim [1, 51, 52, 53] [1] [] (
 .reg [⟨(some 75), .bin .add (.tmp 53) (.const (.int .i64 1)), none⟩,
 ⟨(some 53), .mov (.tmp 75), none⟩])))))))))))) (
 .trim [] [] [] (
 .seq (
 .reg [⟨(some 2), .mov (.const (.bool true)), none⟩]) (
 .ret)))))))
theorem r98 : Runs Tryz.prog 98 m98.strip [.mov (.tmp 2)] 76 := ⟨by kernel_rfl, by kernel_rfl, Tryz.f98, Tryz.f98.body.getD .skip, Tryz.func98, by kernel_rfl, by kernel_rfl, by kernel_rfl, by kernel_rfl, by kernel_rfl⟩

def m99 : MC :=
 .seq (
 .reg [⟨(some 1), .box 104 4 (.tmp 0), none⟩,
 ⟨(some 2), .mov (.const (.bool false)), none⟩]) (
 .trim [1] [1] [] (
 .seq (
 .reg [⟨(some 3), .faddr 1 (.tmp 1), none⟩,
 ⟨(some 4), .load none (.tmp 3), none⟩,
 ⟨(some 5), .lenL (.tmp 4), none⟩,
 ⟨(some 6), .bin .leq (.tmp 5) (.const (.int .i64 6)), none⟩,
 ⟨(some 7), .mov (.tmp 6), none⟩,
 ⟨(some 8), .faddr 3 (.tmp 1), (some (7, true))⟩,
 ⟨(some 9), .load none (.tmp 8), (some (7, true))⟩,
 ⟨(some 10), .lenL (.tmp 9), (some (7, true))⟩,
 ⟨(some 11), .bin .leq (.tmp 10) (.const (.int .i64 6)), (some (7, true))⟩,
 ⟨(some 12), .pick (.tmp 7) (.tmp 11) (.const (.bool false)), none⟩,
 ⟨(some 2), .mov (.tmp 12), none⟩]) (
 .ret)))
theorem r99 : Runs Tryz.prog 99 m99.strip [.mov (.tmp 2)] 13 := ⟨by kernel_rfl, by kernel_rfl, Tryz.f99, Tryz.f99.body.getD .skip, Tryz.func99, by kernel_rfl, by kernel_rfl, by kernel_rfl, by kernel_rfl, by kernel_rfl⟩

def m100 : MC :=
 .seq (
 .reg [⟨(some 1), .box 106 16 (.tmp 0), none⟩,
 ⟨(some 2), .mov (.const (.bool false)), none⟩]) (
 .trim [1] [1] [] (
 .seq (
 .seq (
 .reg [⟨(some 5), .load (some 16) (.tmp 1), none⟩,
 ⟨(some 6), .mov (.const (.int .i64 0)), none⟩]) (
 .trim [5, 6] [] [] (
 .block 0 (
 .loop (
 .trim [5, 6] [] [] (
 .seq (
 .reg [⟨(some 7), .bin .lss (.tmp 6) (.const (.int .i64 4)), none⟩]) (
 .trim [5, 6, 7] [] [] (
 .seq (
 .cond (.tmp 7) (
 .skip) (
 .exit 0)) (
 .trim [5, 6] [] [] (
 .seq (
 .block 1 (
 .seq (
 .reg [⟨(some 8), .idxA 4 4 true (.tmp 5) (.tmp 6), none⟩,
 ⟨(some 4), .alloc 104 [(.val (.bool false)), (.sl none []), (.val (.bool false)), (.sl none [])], none⟩,
 ⟨none, .store 4 (.tmp 4) (.tmp 8), none⟩]) (
 .trim [4, 5, 6] [4] [] (
 .seq (
 .reg [⟨(some 9), .load (some 4) (.tmp 4), none⟩,
 ⟨(some 10), .call (.func 106) [(.tmp 9)] .pure, none⟩]) (
 .trim [5, 6, 10] [] [] (
 .cond (.tmp 10) (
 .seq (
 .reg [⟨(some 2), .mov (.const (.bool true)), none⟩]) (
 .ret)) (
 .skip))))))) (
 .trim [5, 6] [] [] (
 .reg [⟨(some 11), .bin .add (.tmp 6) (.const (.int .i64 1)), none⟩,
 ⟨(some 6), .mov (.tmp 11), none⟩])))))))))))) (
 .trim [] [] [] (
 .seq (
 .reg [⟨(some 2), .mov (.const (.bool false)), none⟩]) (
 .ret)))))
theorem r100 : Runs Tryz.prog 100 m100.strip [.mov (.tmp 2)] 12 := ⟨by kernel_rfl, by kernel_rfl, Tryz.f100, Tryz.f100.body.getD .skip, Tryz.func100, by kernel_rfl, by kernel_rfl, by kernel_rfl, by kernel_rfl, by kernel_rfl⟩

def m101 : MC :=
 .seq (
 .reg [⟨(some 6), .mov (.const (.bool false)), none⟩]) (
 .trim [0, 1, 2] [] [] (
 .seq (
 .dreg 21 [⟨(some 7), .mov (.tmp 0), none⟩,
 ⟨(some 8), .nilck (.tmp 7), none⟩,
 ⟨(some 9), .load (some 16) (.tmp 8), none⟩,
 ⟨(some 10), .mov (.tmp 1), none⟩,
 ⟨(some 11), .nilck (.tmp 10), none⟩,
 ⟨(some 12), .load (some 16) (.tmp 11), none⟩,
 ⟨(some 13), .call (.func 107) [(.tmp 9), (.tmp 12)] .pure, none⟩,
 ⟨(some 14), .mov (.tmp 13), none⟩,
 ⟨(some 15), .mov (.tmp 2), (some (14, true))⟩,
 ⟨(some 16), .mov (.tmp 15), (some (14, true))⟩,
 ⟨(some 17), .mov (.tmp 1), (some (16, false))⟩,
 ⟨(some 18), .nilck (.tmp 17), (some (16, false))⟩,
 ⟨(some 19), .load (some 16) (.tmp 18), (some (16, false))⟩,
 ⟨(some 20), .mov (.tmp 0), (some (16, false))⟩,
 ⟨(some 21), .nilck (.tmp 20), (some (16, false))⟩,
 ⟨(some 22), .load (some 16) (.tmp 21), (some (16, false))⟩,
 ⟨(some 23), .call (.func 107) [(.tmp 19), (.tmp 22)] .pure, (some (16, false))⟩,
 ⟨(some 24), .un .not (.tmp 23), (some (16, false))⟩,
 ⟨(some 25), .pick (.tmp 16) (.const (.bool true)) (.tmp 24), (some (14, true))⟩,
 ⟨(some 26), .pick (.tmp 14) (.tmp 25) (.const (.bool false)), none⟩,
 ⟨(some 6), .mov (.tmp 26), none⟩]) (
 .ret)))
theorem r101 : Runs Tryz.prog 101 m101.strip [.mov (.tmp 6)] 27 := ⟨by kernel_rfl, by kernel_rfl, Tryz.f101, Tryz.f101.body.getD .skip, Tryz.func101, by kernel_rfl, by kernel_rfl, by kernel_rfl, by kernel_rfl, by kernel_rfl⟩

def m102 : MC :=
 .seq (
 .reg [⟨(some 1), .box 104 4 (.tmp 0), none⟩,
 ⟨(some 2), .mov (.const (.bool false)), none⟩]) (
 .trim [1] [1] [] (
 .seq (
 .reg [⟨(some 3), .faddr 0 (.tmp 1), none⟩,
 ⟨(some 4), .load none (.tmp 3), none⟩,
 ⟨(some 5), .un .not (.tmp 4), none⟩,
 ⟨(some 6), .mov (.tmp 5), none⟩,
 ⟨(some 7), .faddr 1 (.tmp 1), (some (6, true))⟩,
 ⟨(some 8), .load none (.tmp 7), (some (6, true))⟩,
 ⟨(some 9), .lenL (.tmp 8), (some (6, true))⟩,
 ⟨(some 10), .bin .eql (.tmp 9) (.const (.int .i64 0)), (some (6, true))⟩,
 ⟨(some 11), .pick (.tmp 6) (.tmp 10) (.const (.bool false)), none⟩,
 ⟨(some 12), .mov (.tmp 11), none⟩,
 ⟨(some 13), .faddr 2 (.tmp 1), (some (12, true))⟩,
 ⟨(some 14), .load none (.tmp 13), (some (12, true))⟩,
 ⟨(some 15), .un .not (.tmp 14), (some (12, true))⟩,
 ⟨(some 16), .pick (.tmp 12) (.tmp 15) (.const (.bool false)), none⟩,
 ⟨(some 17), .mov (.tmp 16), none⟩,
 ⟨(some 18), .faddr 3 (.tmp 1), (some (17, true))⟩,
 ⟨(some 19), .load none (.tmp 18), (some (17, true))⟩,
 ⟨(some 20), .lenL (.tmp 19), (some (17, true))⟩,
 ⟨(some 21), .bin .eql (.tmp 20) (.const (.int .i64 0)), (some (17, true))⟩,
 ⟨(some 22), .pick (.tmp 17) (.tmp 21) (.const (.bool false)), none⟩,
 ⟨(some 2), .mov (.tmp 22), none⟩]) (
 .ret)))
theorem r102 : Runs Tryz.prog 102 m102.strip [.mov (.tmp 2)] 23 := ⟨by kernel_rfl, by kernel_rfl, Tryz.f102, Tryz.f102.body.getD .skip, Tryz.func102, by kernel_rfl, by kernel_rfl, by kernel_rfl, by kernel_rfl, by kernel_rfl⟩

def m107 : MC :=
 .seq (
 .reg [⟨(some 2), .box 106 16 (.tmp 0), none⟩,
 ⟨(some 3), .box 106 16 (.tmp 1), none⟩,
 ⟨(some 4), .mov (.const (.bool false)), none⟩]) (
 .trim [2, 3] [2, 3] [] (
 .seq (
 .seq (
 .reg [⟨(some 6), .load (some 16) (.tmp 2), none⟩,
 ⟨(some 7), .call (.func 100) [(.tmp 6)] .pure, none⟩]) (
 .trim [2, 3, 7] [2, 3] [] (
 .cond (.tmp 7) (
 .seq (
 .reg [⟨(some 4), .mov (.const (.bool true)), none⟩]) (
 .ret)) (
 .skip)))) (
 .trim [2, 3] [2, 3] [] (
 .seq (
 .seq (
 .reg [⟨(some 8), .mov (.const (.int .i64 0)), none⟩]) (
 .trim [2, 3, 8] [2, 3] [] (
 .block 0 (
 .loop (
 .trim [2, 3, 8] [2, 3] [] (
 .seq (
 .reg [⟨(some 9), .bin .lss (.tmp 8) (.const (.int .i64 4)), none⟩]) (
 .trim [2, 3, 8, 9] [2, 3] [] (
 .seq (
 .cond (.tmp 9) (
 .skip) (
 .exit 0)) (
 .trim [2, 3, 8] [2, 3] [] (
 .seq (
 .block 1 (
 .seq (
 .reg [⟨(some 10), .mov (.tmp 8), none⟩,
 ⟨(some 5), .mov (.tmp 10), none⟩]) (
 .trim [2, 3, 5, 8] [2, 3] [] (
 .seq (
 .dreg 8 [⟨(some 11), .mov (.tmp 5), none⟩,
 ⟨(some 12), .iaddrA 4 4 (.tmp 2) (.tmp 11), none⟩,
 ⟨(some 13), .load (some 4) (.tmp 12), none⟩,
 ⟨(some 14), .mov (.tmp 5), none⟩,
 ⟨(some 15), .iaddrA 4 4 (.tmp 3) (.tmp 14), none⟩,
 ⟨(some 16), .load (some 4) (.tmp 15), none⟩,
 ⟨(some 17), .call (.func 111) [(.tmp 13), (.tmp 16)] .pure, none⟩,
 ⟨(some 18), .un .not (.tmp 17), none⟩]) (
 .trim [2, 3, 8, 18] [2, 3] [] (
 .cond (.tmp 18) (
 .seq (
 .reg [⟨(some 4), .mov (.const (.bool false)), none⟩]) (
 .ret)) (
 .skip))))))) (
 .trim [2, 3, 8] [2, 3] [] (
 .reg [⟨(some 19), .bin .add (.tmp 8) (.const (.int .i64 1)), none⟩,
 ⟨(some 8), .mov (.tmp 19), none⟩])))))))))))) (
 .trim [] [] [] (
 .seq (
 .reg [⟨(some 4), .mov (.const (.bool true)), none⟩]) (
 .ret)))))))
theorem r107 : Runs Tryz.prog 107 m107.strip [.mov (.tmp 4)] 20 := ⟨by kernel_rfl, by kernel_rfl, Tryz.f107, Tryz.f107.body.getD .skip, Tryz.func107, by kernel_rfl, by kernel_rfl, by kernel_rfl, by kernel_rfl, by kernel_rfl⟩

end Go.Proofs

