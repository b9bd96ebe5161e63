/- The functions, as code of the value machine (printed by program). -/
import Derived.Test.YtipppgiimemloaaGreatVm24
import Derived.Test.YtipppgiimemloaaGreatProg
set_option linter.unusedVariables false
set_option maxRecDepth 2000
namespace Go.Proofs
open Go.Vm
def m16 : MC :=
 .seq (
 .reg [⟨(some 4), .mov (.const (.bool false)), none⟩]) (
 .trim [0, 1] [] [] (
 .seq (
 .seq (
 .reg [⟨(some 6), .mov (.tmp 0), none⟩,
 ⟨(some 7), .lenL (.tmp 6), none⟩,
 ⟨(some 8), .mov (.tmp 1), none⟩,
 ⟨(some 9), .lenL (.tmp 8), none⟩,
 ⟨(some 10), .bin .neq (.tmp 7) (.tmp 9), none⟩]) (
 .trim [0, 1, 10] [] [] (
 .cond (.tmp 10) (
 .seq (
 .reg [⟨(some 4), .mov (.const (.bool false)), none⟩]) (
 .ret)) (
 .skip)))) (
 .trim [0, 1] [] [] (
 .seq (
 .seq (
 .reg [⟨(some 5), .mov (.const (.int .i64 0)), none⟩]) (
 .trim [0, 1, 5] [] [] (
 .block 0 (
 .loop (
 .trim [0, 1, 5] [] [] (
 .seq (
 .seq (
 .reg [⟨(some 11), .mov (.tmp 5), none⟩,
 ⟨(some 12), .mov (.tmp 0), none⟩,
 ⟨(some 13), .lenL (.tmp 12), none⟩,
 ⟨(some 14), .bin .lss (.tmp 11) (.tmp 13), none⟩]) (
 .trim [0, 1, 5, 14] [] [] (
 .cond (.tmp 14) (
 .skip) (
 .exit 0)))) (
 .trim [0, 1, 5] [] [] (
 .seq (
 .block 1 (
 .seq (
 .dreg 10 [⟨(some 17), .mov (.tmp 0), none⟩,
 ⟨(some 18), .mov (.tmp 5), none⟩,
 ⟨(some 19), .iaddrS 16 (.tmp 17) (.tmp 18), none⟩,
 ⟨(some 20), .load (some 16) (.tmp 19), none⟩,
 ⟨(some 21), .mov (.tmp 1), none⟩,
 ⟨(some 22), .mov (.tmp 5), none⟩,
 ⟨(some 23), .iaddrS 16 (.tmp 21) (.tmp 22), none⟩,
 ⟨(some 24), .load (some 16) (.tmp 23), none⟩,
 ⟨(some 25), .call (.func 48) [(.tmp 20), (.tmp 24)] .pure, none⟩,
 ⟨(some 26), .un .not (.tmp 25), none⟩]) (
 .trim [0, 1, 5, 26] [] [] (
 .cond (.tmp 26) (
 .seq (
 .reg [⟨(some 4), .mov (.const (.bool false)), none⟩]) (
 .ret)) (
 .skip))))) (
 .trim [0, 1, 5] [] [] (
 .reg [⟨(some 15), .mov (.tmp 5), none⟩,
 ⟨(some 16), .bin .add (.tmp 15) (.const (.int .i64 1)), none⟩,
 ⟨(some 5), .mov (.tmp 16), none⟩])))))))))) (
 .trim [] [] [] (
 .seq (
 .reg [⟨(some 4), .mov (.const (.bool true)), none⟩]) (
 .ret)))))))
theorem r16 : Runs Tryz.prog 16 m16.strip [.mov (.tmp 4)] 27 := ⟨by kernel_rfl, by kernel_rfl, Tryz.f16, Tryz.f16.body.getD .skip, Tryz.func16, by kernel_rfl, by kernel_rfl, by kernel_rfl, by kernel_rfl, by kernel_rfl⟩

def m17 : MC :=
 .seq (
 .reg [⟨(some 3), .box 42 12 (.tmp 1), none⟩,
 ⟨(some 4), .mov (.const (.bool false)), none⟩]) (
 .trim [0, 3] [3] [] (
 .fzb 3 (
 .seq (
 .reg [⟨(some 5), .mov (.tmp 0), none⟩,
 ⟨(some 6), .mkfn 50 [] [(.tmp 3)], none⟩,
 ⟨(some 7), .call (.func 49) [(.tmp 5), (.tmp 6)] .pure, none⟩,
 ⟨(some 4), .mov (.tmp 7), none⟩]) (
 .ret))))
theorem r17 : Runs Tryz.prog 17 m17.strip [.mov (.tmp 4)] 8 := ⟨by kernel_rfl, by kernel_rfl, Tryz.f17, Tryz.f17.body.getD .skip, Tryz.func17, by kernel_rfl, by kernel_rfl, by kernel_rfl, by kernel_rfl, by kernel_rfl⟩

def m19 : MC :=
 .seq (
 .reg [⟨(some 2), .mov (.const (.bool false)), none⟩]) (
 .trim [0] [] [] (
 .seq (
 .seq (
 .reg [⟨(some 3), .mov (.const (.int .i64 0)), none⟩]) (
 .trim [0, 3] [] [] (
 .block 0 (
 .loop (
 .trim [0, 3] [] [] (
 .seq (
 .seq (
 .reg [⟨(some 4), .mov (.tmp 3), none⟩,
 ⟨(some 5), .mov (.tmp 0), none⟩,
 ⟨(some 6), .lenL (.tmp 5), none⟩,
 ⟨(some 7), .bin .lss (.tmp 4) (.tmp 6), none⟩]) (
 .trim [0, 3, 7] [] [] (
 .cond (.tmp 7) (
 .skip) (
 .exit 0)))) (
 .trim [0, 3] [] [] (
 .seq (
 .block 1 (
 .seq (
 .reg [⟨(some 10), .mov (.tmp 0), none⟩,
 ⟨(some 11), .mov (.tmp 3), none⟩,
 ⟨(some 12), .iaddrS 16 (.tmp 10) (.tmp 11), none⟩,
 ⟨(some 13), .load (some 16) (.tmp 12), none⟩,
 ⟨(some 14), .call (.func 53) [(.tmp 13)] .pure, none⟩,
 ⟨(some 15), .un .not (.tmp 14), none⟩,
 ⟨(some 16), .mov (.tmp 15), none⟩,
 ⟨(some 17), .mov (.tmp 0), (some (16, false))⟩,
 ⟨(some 18), .mov (.tmp 3), (some (16, false))⟩,
 ⟨(some 19), .iaddrS 16 (.tmp 17) (.tmp 18), (some (16, false))⟩,
 ⟨(some 20), .load (some 16) (.tmp 19), (some (16, false))⟩,
 ⟨(some 21), .call (.func 54) [(.tmp 20)] .pure, (some (16, false))⟩,
 ⟨(some 22), .un .not (.tmp 21), (some (16, false))⟩,
 ⟨(some 23), .pick (.tmp 16) (.const (.bool true)) (.tmp 22), none⟩]) (
 .trim [0, 3, 23] [] [] (
 .cond (.tmp 23) (
 .seq (
 .reg [⟨(some 2), .mov (.const (.bool false)), none⟩]) (
 .ret)) (
 .skip))))) (
 .trim [0, 3] [] [] (
 .reg [⟨(some 8), .mov (.tmp 3), none⟩,
 ⟨(some 9), .bin .add (.tmp 8) (.const (.int .i64 1)), none⟩,
 ⟨(some 3), .mov (.tmp 9), none⟩])))))))))) (
 .trim [0] [] [] (
 .seq (
 .reg [⟨(some 24), .mov (.tmp 0), none⟩,
 ⟨(some 25), .lenL (.tmp 24), none⟩,
 ⟨(some 26), .bin .leq (.tmp 25) (.const (.int .i64 4)), none⟩,
 ⟨(some 27), .mov (.tmp 26), none⟩,
 ⟨(some 28), .mov (.tmp 0), (some (27, true))⟩,
 ⟨(some 29), .call (.func 55) [(.tmp 28)] .pure, (some (27, true))⟩,
 ⟨(some 30), .lenL (.tmp 29), (some (27, true))⟩,
 ⟨(some 31), .mov (.tmp 0), (some (27, true))⟩,
 ⟨(some 32), .lenL (.tmp 31), (some (27, true))⟩,
 ⟨(some 33), .bin .eql (.tmp 30) (.tmp 32), (some (27, true))⟩,
 ⟨(some 34), .pick (.tmp 27) (.tmp 33) (.const (.bool false)), none⟩,
 ⟨(some 2), .mov (.tmp 34), none⟩]) (
 .ret)))))
theorem r19 : Runs Tryz.prog 19 m19.strip [.mov (.tmp 2)] 35 := ⟨by kernel_rfl, by kernel_rfl, Tryz.f19, Tryz.f19.body.getD .skip, Tryz.func19, by kernel_rfl, by kernel_rfl, by kernel_rfl, by kernel_rfl, by kernel_rfl⟩

def m45 : MC :=
 .seq (
 .reg [⟨(some 2), .mov (.const (.bool false)), none⟩]) (
 .trim [0] [] [] (
 .seq (
 .seq (
 .reg [⟨(some 5), .mov (.tmp 0), none⟩,
 ⟨(some 6), .lenL (.tmp 5), none⟩,
 ⟨(some 7), .bin .gtr (.tmp 6) (.const (.int .i64 4)), none⟩]) (
 .trim [0, 7] [] [] (
 .cond (.tmp 7) (
 .seq (
 .reg [⟨(some 2), .mov (.const (.bool false)), none⟩]) (
 .ret)) (
 .skip)))) (
 .trim [0] [] [] (
 .seq (
 .seq (
 .reg [⟨(some 8), .mov (.tmp 0), none⟩,
 ⟨(some 9), .lenL (.tmp 8), none⟩,
 ⟨(some 10), .mov (.const (.int .i64 0)), none⟩]) (
 .trim [0, 8, 9, 10] [] [] (
 .block 0 (
 .loop (
 .trim [0, 8, 9, 10] [] [] (
 .seq (
 .reg [⟨(some 11), .bin .lss (.tmp 10) (.tmp 9), none⟩]) (
 .trim [0, 8, 9, 10, 11] [] [] (
 .seq (
 .cond (.tmp 11) (
 .skip) (
 .exit 0)) (
 .trim [0, 8, 9, 10] [] [] (
 .seq (
 .block 1 (
 .seq (
 .reg [⟨(some 12), .iaddrS 16 (.tmp 8) (.tmp 10), none⟩,
 ⟨(some 13), .load (some 16) (.tmp 12), none⟩,
 ⟨(some 4), .alloc 49 [(.val (.bool false)), (.sl none []), (.val (.bool false)), (.sl none []), (.val (.bool false)), (.sl none []), (.val (.bool false)), (.sl none []), (.val (.bool false)), (.sl none []), (.val (.bool false)), (.sl none []), (.val (.bool false)), (.sl none []), (.val (.bool false)), (.sl none [])], none⟩,
 ⟨none, .store 16 (.tmp 4) (.tmp 13), none⟩]) (
 .trim [0, 4, 8, 9, 10] [4] [] (
 .seq (
 .reg [⟨(some 14), .load (some 16) (.tmp 4), none⟩,
 ⟨(some 15), .call (.func 89) [(.tmp 14)] .pure, none⟩,
 ⟨(some 16), .un .not (.tmp 15), none⟩,
 ⟨(some 17), .mov (.tmp 16), none⟩,
 ⟨(some 18), .load (some 16) (.tmp 4), (some (17, false))⟩,
 ⟨(some 19), .call (.func 90) [(.tmp 18)] .pure, (some (17, false))⟩,
 ⟨(some 20), .un .not (.tmp 19), (some (17, false))⟩,
 ⟨(some 21), .pick (.tmp 17) (.const (.bool true)) (.tmp 20), none⟩]) (
 .trim [0, 8, 9, 10, 21] [] [] (
 .cond (.tmp 21) (
 .seq (
 .reg [⟨(some 2), .mov (.const (.bool false)), none⟩]) (
 .ret)) (
 .skip))))))) (
 .trim [0, 8, 9, 10] [] [] (
 .reg [⟨(some 22), .bin .add (.tmp 10) (.const (.int .i64 1)), none⟩,
 ⟨(some 10), .mov (.tmp 22), none⟩])))))))))))) (
 .trim [0] [] [] (
 .seq (
 .reg [⟨(some 23), .mov (.tmp 0), none⟩,
 ⟨(some 24), .call (.func 83) [(.tmp 23)] .pure, none⟩,
 ⟨(some 25), .lenL (.tmp 24), none⟩,
 ⟨(some 26), .mov (.tmp 0), none⟩,
 ⟨(some 27), .lenL (.tmp 26), none⟩,
 ⟨(some 28), .bin .eql (.tmp 25) (.tmp 27), none⟩,
 ⟨(some 2), .mov (.tmp 28), none⟩]) (
 .ret)))))))
theorem r45 : Runs Tryz.prog 45 m45.strip [.mov (.tmp 2)] 29 := ⟨by kernel_rfl, by kernel_rfl, Tryz.f45, Tryz.f45.body.getD .skip, Tryz.func45, by kernel_rfl, by kernel_rfl, by kernel_rfl, by kernel_rfl, by kernel_rfl⟩

def m48 : MC :=
 .seq (
 .reg [⟨(some 2), .box 49 16 (.tmp 0), none⟩,
 ⟨(some 3), .box 49 16 (.tmp 1), none⟩,
 ⟨(some 4), .mov (.const (.bool false)), none⟩]) (
 .trim [2, 3] [2, 3] [] (
 .seq (
 .seq (
 .reg [⟨(some 5), .mov (.const (.int .i64 0)), none⟩]) (
 .trim [2, 3, 5] [2, 3] [] (
 .block 0 (
 .loop (
 .trim [2, 3, 5] [2, 3] [] (
 .seq (
 .seq (
 .reg [⟨(some 6), .mov (.tmp 5), none⟩,
 ⟨(some 7), .bin .lss (.tmp 6) (.const (.int .i64 4)), none⟩]) (
 .trim [2, 3, 5, 7] [2, 3] [] (
 .cond (.tmp 7) (
 .skip) (
 .exit 0)))) (
 .trim [2, 3, 5] [2, 3] [] (
 .seq (
 .block 1 (
 .seq (
 .dreg 8 [⟨(some 10), .mov (.tmp 5), none⟩,
 ⟨(some 11), .iaddrA 4 4 (.tmp 2) (.tmp 10), none⟩,
 ⟨(some 12), .load (some 4) (.tmp 11), none⟩,
 ⟨(some 13), .mov (.tmp 5), none⟩,
 ⟨(some 14), .iaddrA 4 4 (.tmp 3) (.tmp 13), none⟩,
 ⟨(some 15), .load (some 4) (.tmp 14), none⟩,
 ⟨(some 16), .call (.func 96) [(.tmp 12), (.tmp 15)] .pure, none⟩,
 ⟨(some 17), .un .not (.tmp 16), none⟩]) (
 .trim [2, 3, 5, 17] [2, 3] [] (
 .cond (.tmp 17) (
 .seq (
 .reg [⟨(some 4), .mov (.const (.bool false)), none⟩]) (
 .ret)) (
 .skip))))) (
 .trim [2, 3, 5] [2, 3] [] (
 .reg [⟨(some 8), .mov (.tmp 5), none⟩,
 ⟨(some 9), .bin .add (.tmp 8) (.const (.int .i64 1)), none⟩,
 ⟨(some 5), .mov (.tmp 9), none⟩])))))))))) (
 .trim [] [] [] (
 .seq (
 .reg [⟨(some 4), .mov (.const (.bool true)), none⟩]) (
 .ret)))))
theorem r48 : Runs Tryz.prog 48 m48.strip [.mov (.tmp 4)] 18 := ⟨by kernel_rfl, by kernel_rfl, Tryz.f48, Tryz.f48.body.getD .skip, Tryz.func48, by kernel_rfl, by kernel_rfl, by kernel_rfl, by kernel_rfl, by kernel_rfl⟩

def m49 : MC :=
 .seq (
 .reg [⟨(some 4), .mov (.const (.bool false)), none⟩]) (
 .trim [0, 1] [] [] (
 .seq (
 .reg [⟨(some 5), .mov (.tmp 0), none⟩,
 ⟨(some 6), .mov (.tmp 1), none⟩,
 ⟨(some 7), .call (.func 97) [(.tmp 5), (.tmp 6)] .pure, none⟩,
 ⟨(some 8), .bin .geq (.tmp 7) (.const (.int .i64 0)), none⟩,
 ⟨(some 4), .mov (.tmp 8), none⟩]) (
 .ret)))
theorem r49 : Runs Tryz.prog 49 m49.strip [.mov (.tmp 4)] 9 := ⟨by kernel_rfl, by kernel_rfl, Tryz.f49, Tryz.f49.body.getD .skip, Tryz.func49, by kernel_rfl, by kernel_rfl, by kernel_rfl, by kernel_rfl, by kernel_rfl⟩

def m50 : MC :=
 .seq (
 .reg [⟨(some 2), .box 49 16 (.tmp 0), none⟩,
 ⟨(some 3), .mov (.const (.bool false)), none⟩]) (
 .trim [1, 2] [2] [] (
 .seq (
 .reg [⟨(some 4), .load (some 16) (.tmp 2), none⟩,
 ⟨(some 5), .load (some 12) (.tmp 1), none⟩,
 ⟨(some 6), .call (.func 51) [(.tmp 4), (.tmp 5)] .pure, none⟩,
 ⟨(some 3), .mov (.tmp 6), none⟩]) (
 .ret)))
theorem r50 : Runs Tryz.prog 50 m50.strip [.mov (.tmp 3)] 7 := ⟨by kernel_rfl, by kernel_rfl, Tryz.f50, Tryz.f50.body.getD .skip, Tryz.func50, by kernel_rfl, by kernel_rfl, by kernel_rfl, by kernel_rfl, by kernel_rfl⟩

def m51 : MC :=
 .seq (
 .reg [⟨(some 2), .box 49 16 (.tmp 0), none⟩,
 ⟨(some 3), .box 42 12 (.tmp 1), none⟩,
 ⟨(some 4), .mov (.const (.bool false)), none⟩]) (
 .trim [2, 3] [2, 3] [] (
 .seq (
 .seq (
 .reg [⟨(some 7), .load (some 12) (.tmp 3), none⟩,
 ⟨(some 8), .call (.func 59) [(.tmp 7)] .pure, none⟩,
 ⟨(some 9), .un .not (.tmp 8), none⟩]) (
 .trim [2, 3, 9] [2, 3] [] (
 .cond (.tmp 9) (
 .seq (
 .reg [⟨(some 4), .mov (.const (.bool false)), none⟩]) (
 .ret)) (
 .skip)))) (
 .trim [2, 3] [2, 3] [] (
 .seq (
 .seq (
 .reg [⟨(some 10), .load (some 16) (.tmp 2), none⟩,
 ⟨(some 11), .mov (.const (.int .i64 0)), none⟩]) (
 .trim [3, 10, 11] [3] [] (
 .block 0 (
 .loop (
 .trim [3, 10, 11] [3] [] (
 .seq (
 .reg [⟨(some 12), .bin .lss (.tmp 11) (.const (.int .i64 4)), none⟩]) (
 .trim [3, 10, 11, 12] [3] [] (
 .seq (
 .cond (.tmp 12) (
 .skip) (
 .exit 0)) (
 .trim [3, 10, 11] [3] [] (
 .seq (
 .block 1 (
 .seq (
 .reg [⟨(some 13), .mov (.tmp 11), none⟩,
 ⟨(some 14), .idxA 4 4 true (.tmp 10) (.tmp 11), none⟩,
 ⟨(some 6), .alloc 25 [(.val (.bool false)), (.sl none []), (.val (.bool false)), (.sl none [])], none⟩,
 ⟨(some 5), .mov (.tmp 13), none⟩,
 ⟨none, .store 4 (.tmp 6) (.tmp 14), none⟩]) (
 .trim [3, 5, 6, 10, 11] [3, 6] [] (
 .seq (
 .dreg 6 [⟨(some 15), .load (some 4) (.tmp 6), none⟩,
 ⟨(some 16), .mov (.tmp 5), none⟩,
 ⟨(some 17), .iaddrA 4 3 (.tmp 3) (.tmp 16), none⟩,
 ⟨(some 18), .load (some 3) (.tmp 17), none⟩,
 ⟨(some 19), .call (.func 98) [(.tmp 15), (.tmp 18)] .pure, none⟩,
 ⟨(some 20), .un .not (.tmp 19), none⟩]) (
 .trim [3, 10, 11, 20] [3] [] (
 .cond (.tmp 20) (
 .seq (
 .reg [⟨(some 4), .mov (.const (.bool false)), none⟩]) (
 .ret)) (
 .skip))))))) (
 .trim [3, 10, 11] [3] [] (
 .reg [⟨(some 21), .bin .add (.tmp 11) (.const (.int .i64 1)), none⟩,
 ⟨(some 11), .mov (.tmp 21), none⟩])))))))))))) (
 .trim [] [] [] (
 .seq (
 .reg [⟨(some 4), .mov (.const (.bool true)), none⟩]) (
 .ret)))))))
theorem r51 : Runs Tryz.prog 51 m51.strip [.mov (.tmp 4)] 22 := ⟨by kernel_rfl, by kernel_rfl, Tryz.f51, Tryz.f51.body.getD .skip, Tryz.func51, by kernel_rfl, by kernel_rfl, by kernel_rfl, by kernel_rfl, by kernel_rfl⟩

def m53 : MC :=
 .seq (
 .reg [⟨(some 1), .box 49 16 (.tmp 0), none⟩,
 ⟨(some 2), .mov (.const (.bool false)), none⟩]) (
 .trim [1] [1] [] (
 .seq (
 .seq (
 .reg [⟨(some 3), .mov (.const (.int .i64 0)), none⟩]) (
 .trim [1, 3] [1] [] (
 .block 0 (
 .loop (
 .trim [1, 3] [1] [] (
 .seq (
 .seq (
 .reg [⟨(some 4), .mov (.tmp 3), none⟩,
 ⟨(some 5), .bin .lss (.tmp 4) (.const (.int .i64 4)), none⟩]) (
 .trim [1, 3, 5] [1] [] (
 .cond (.tmp 5) (
 .skip) (
 .exit 0)))) (
 .trim [1, 3] [1] [] (
 .seq (
 .block 1 (
 .seq (
 .reg [⟨(some 8), .mov (.tmp 3), none⟩,
 ⟨(some 9), .iaddrA 4 4 (.tmp 1) (.tmp 8), none⟩,
 ⟨(some 10), .load (some 4) (.tmp 9), none⟩,
 ⟨(some 11), .call (.func 100) [(.tmp 10)] .pure, none⟩,
 ⟨(some 12), .un .not (.tmp 11), none⟩]) (
 .trim [1, 3, 12] [1] [] (
 .cond (.tmp 12) (
 .seq (
 .reg [⟨(some 2), .mov (.const (.bool false)), none⟩]) (
 .ret)) (
 .skip))))) (
 .trim [1, 3] [1] [] (
 .reg [⟨(some 6), .mov (.tmp 3), none⟩,
 ⟨(some 7), .bin .add (.tmp 6) (.const (.int .i64 1)), none⟩,
 ⟨(some 3), .mov (.tmp 7), none⟩])))))))))) (
 .trim [] [] [] (
 .seq (
 .reg [⟨(some 2), .mov (.const (.bool true)), none⟩]) (
 .ret)))))
theorem r53 : Runs Tryz.prog 53 m53.strip [.mov (.tmp 2)] 13 := ⟨by kernel_rfl, by kernel_rfl, Tryz.f53, Tryz.f53.body.getD .skip, Tryz.func53, by kernel_rfl, by kernel_rfl, by kernel_rfl, by kernel_rfl, by kernel_rfl⟩

def m54 : MC :=
 .seq (
 .reg [⟨(some 1), .box 49 16 (.tmp 0), none⟩,
 ⟨(some 2), .mov (.const (.bool false)), none⟩]) (
 .trim [1] [1] [] (
 .seq (
 .seq (
 .reg [⟨(some 3), .mov (.const (.int .i64 0)), none⟩]) (
 .trim [1, 3] [1] [] (
 .block 0 (
 .loop (
 .trim [1, 3] [1] [] (
 .seq (
 .seq (
 .reg [⟨(some 4), .mov (.tmp 3), none⟩,
 ⟨(some 5), .bin .lss (.tmp 4) (.const (.int .i64 4)), none⟩]) (
 .trim [1, 3, 5] [1] [] (
 .cond (.tmp 5) (
 .skip) (
 .exit 0)))) (
 .trim [1, 3] [1] [] (
 .seq (
 .block 1 (
 .seq (
 .reg [⟨(some 8), .mov (.tmp 3), none⟩,
 ⟨(some 9), .iaddrA 4 4 (.tmp 1) (.tmp 8), none⟩,
 ⟨(some 10), .load (some 4) (.tmp 9), none⟩,
 ⟨(some 11), .call (.func 101) [(.tmp 10)] .pure, none⟩,
 ⟨(some 12), .un .not (.tmp 11), none⟩]) (
 .trim [1, 3, 12] [1] [] (
 .cond (.tmp 12) (
 .seq (
 .reg [⟨(some 2), .mov (.const (.bool false)), none⟩]) (
 .ret)) (
 .skip))))) (
 .trim [1, 3] [1] [] (
 .reg [⟨(some 6), .mov (.tmp 3), none⟩,
 ⟨(some 7), .bin .add (.tmp 6) (.const (.int .i64 1)), none⟩,
 ⟨(some 3), .mov (.tmp 7), none⟩])))))))))) (
 .trim [] [] [] (
 .seq (
 .reg [⟨(some 2), .mov (.const (.bool true)), none⟩]) (
 .ret)))))
theorem r54 : Runs Tryz.prog 54 m54.strip [.mov (.tmp 2)] 13 := ⟨by kernel_rfl, by kernel_rfl, Tryz.f54, Tryz.f54.body.getD .skip, Tryz.func54, by kernel_rfl, by kernel_rfl, by kernel_rfl, by kernel_rfl, by kernel_rfl⟩

def m55 : MC :=
 .seq (
 .reg [⟨(some 2), .nilsl 49 16, none⟩]) (
 .trim [0] [] [] (
 .seq (
 .reg [⟨(some 3), .nilsl 49 16, none⟩]) (
 .trim [0, 3] [] [(3, 49, 16)] (
 .seq (
 .seq (
 .reg [⟨(some 4), .mov (.const (.int .i64 0)), none⟩]) (
 .trim [0, 3, 4] [] [(3, 49, 16)] (
 .block 0 (
 .loop (
 .trim [0, 3, 4] [] [(3, 49, 16)] (
 .seq (
 .seq (
 .reg [⟨(some 7), .mov (.tmp 4), none⟩,
 ⟨(some 8), .mov (.tmp 0), none⟩,
 ⟨(some 9), .lenL (.tmp 8), none⟩,
 ⟨(some 10), .bin .lss (.tmp 7) (.tmp 9), none⟩]) (
 .trim [0, 3, 4, 10] [] [(3, 49, 16)] (
 .cond (.tmp 10) (
 .skip) (
 .exit 0)))) (
 .trim [0, 3, 4] [] [(3, 49, 16)] (
 .seq (
 .block 1 (
 .seq (
 .reg [⟨(some 13), .mov (.tmp 0), none⟩,
 ⟨(some 14), .mov (.tmp 4), none⟩,
 ⟨(some 15), .iaddrS 16 (.tmp 13) (.tmp 14), none⟩,
 ⟨(some 16), .load (some 16) (.tmp 15), none⟩,
 ⟨(some 17), .call (.func 102) [(.tmp 16)] .pure, none⟩,
 ⟨(some 18), .un .not (.tmp 17), none⟩,
 ⟨(some 5), .mov (.tmp 18), none⟩]) (
 .trim [0, 3, 4, 5] [] [(3, 49, 16)] (
 .seq (
 .seq (
 .reg [⟨(some 6), .mov (.const (.int .i64 0)), none⟩]) (
 .trim [0, 3, 4, 5, 6] [] [(3, 49, 16)] (
 .block 2 (
 .loop (
 .trim [0, 3, 4, 5, 6] [] [(3, 49, 16)] (
 .seq (
 .seq (
 .reg [⟨(some 19), .mov (.tmp 6), none⟩,
 ⟨(some 20), .mov (.tmp 0), none⟩,
 ⟨(some 21), .lenL (.tmp 20), none⟩,
 ⟨(some 22), .bin .lss (.tmp 19) (.tmp 21), none⟩]) (
 .trim [0, 3, 4, 5, 6, 22] [] [(3, 49, 16)] (
 .cond (.tmp 22) (
 .skip) (
 .exit 2)))) (
 .trim [0, 3, 4, 5, 6] [] [(3, 49, 16)] (
 .seq (
 .block 3 (
 .seq (
 .dreg 34 [⟨(some 25), .mov (.tmp 6), none⟩,
 ⟨(some 26), .mov (.tmp 4), none⟩,
 ⟨(some 27), .bin .neq (.tmp 25) (.tmp 26), none⟩,
 ⟨(some 28), .mov (.tmp 27), none⟩,
 ⟨(some 29), .mov (.tmp 5), (some (28, true))⟩,
 ⟨(some 30), .pick (.tmp 28) (.tmp 29) (.const (.bool false)), none⟩,
 ⟨(some 31), .mov (.tmp 30), none⟩,
 ⟨(some 32), .mov (.tmp 0), (some (31, true))⟩,
 ⟨(some 33), .mov (.tmp 4), (some (31, true))⟩,
 ⟨(some 34), .iaddrS 16 (.tmp 32) (.tmp 33), (some (31, true))⟩,
 ⟨(some 35), .load (some 16) (.tmp 34), (some (31, true))⟩,
 ⟨(some 36), .mov (.tmp 0), (some (31, true))⟩,
 ⟨(some 37), .mov (.tmp 6), (some (31, true))⟩,
 ⟨(some 38), .iaddrS 16 (.tmp 36) (.tmp 37), (some (31, true))⟩,
 ⟨(some 39), .load (some 16) (.tmp 38), (some (31, true))⟩,
 ⟨(some 40), .call (.func 103) [(.tmp 35), (.tmp 39)] .pure, (some (31, true))⟩,
 ⟨(some 41), .pick (.tmp 31) (.tmp 40) (.const (.bool false)), none⟩,
 ⟨(some 42), .mov (.tmp 41), none⟩,
 ⟨(some 43), .mov (.tmp 6), (some (42, true))⟩,
 ⟨(some 44), .mov (.tmp 4), (some (42, true))⟩,
 ⟨(some 45), .bin .lss (.tmp 43) (.tmp 44), (some (42, true))⟩,
 ⟨(some 46), .mov (.tmp 45), (some (42, true))⟩,
 ⟨(some 47), .mov (.tmp 0), (some (46, false))⟩,
 ⟨(some 48), .mov (.tmp 6), (some (46, false))⟩,
 ⟨(some 49), .iaddrS 16 (.tmp 47) (.tmp 48), (some (46, false))⟩,
 ⟨(some 50), .load (some 16) (.tmp 49), (some (46, false))⟩,
 ⟨(some 51), .mov (.tmp 0), (some (46, false))⟩,
 ⟨(some 52), .mov (.tmp 4), (some (46, false))⟩,
 ⟨(some 53), .iaddrS 16 (.tmp 51) (.tmp 52), (some (46, false))⟩,
 ⟨(some 54), .load (some 16) (.tmp 53), (some (46, false))⟩,
 ⟨(some 55), .call (.func 103) [(.tmp 50), (.tmp 54)] .pure, (some (46, false))⟩,
 ⟨(some 56), .un .not (.tmp 55), (some (46, false))⟩,
 ⟨(some 57), .pick (.tmp 46) (.const (.bool true)) (.tmp 56), (some (42, true))⟩,
 ⟨(some 58), .pick (.tmp 42) (.tmp 57) (.const (.bool false)), none⟩]) (
 .trim [0, 3, 4, 5, 6, 58] [] [(3, 49, 16)] (
 .cond (.tmp 58) (
 .reg [⟨(some 5), .mov (.const (.bool false)), none⟩]) (
 .skip))))) (
 .trim [0, 3, 4, 5, 6] [] [(3, 49, 16)] (
 .reg [⟨(some 23), .mov (.tmp 6), none⟩,
 ⟨(some 24), .bin .add (.tmp 23) (.const (.int .i64 1)), none⟩,
 ⟨(some 6), .mov (.tmp 24), none⟩])))))))))) (
 .trim [0, 3, 4, 5] [] [(3, 49, 16)] (
 .seq (
 .reg [⟨(some 59), .mov (.tmp 5), none⟩]) (
 .trim [0, 3, 4, 59] [] [(3, 49, 16)] (
 .cond (.tmp 59) (
 .reg [⟨(some 60), .mov (.tmp 3), none⟩,
 ⟨(some 61), .mov (.tmp 0), none⟩,
 ⟨(some 62), .mov (.tmp 4), none⟩,
 ⟨(some 63), .iaddrS 16 (.tmp 61) (.tmp 62), none⟩,
 ⟨(some 64), .load (some 16) (.tmp 63), none⟩,
 ⟨(some 65), .bslice 49 16 [(.val (.bool false)), (.sl none []), (.val (.bool false)), (.sl none []), (.val (.bool false)), (.sl none []), (.val (.bool false)), (.sl none []), (.val (.bool false)), (.sl none []), (.val (.bool false)), (.sl none []), (.val (.bool false)), (.sl none []), (.val (.bool false)), (.sl none [])] 1 [(0, 16, (.tmp 64))], none⟩,
 ⟨(some 66), .append 49 16 256 (.tmp 60) (.tmp 65), none⟩,
 ⟨(some 3), .mov (.tmp 66), none⟩]) (
 .skip))))))))) (
 .trim [0, 3, 4] [] [(3, 49, 16)] (
 .reg [⟨(some 11), .mov (.tmp 4), none⟩,
 ⟨(some 12), .bin .add (.tmp 11) (.const (.int .i64 1)), none⟩,
 ⟨(some 4), .mov (.tmp 12), none⟩])))))))))) (
 .trim [3] [] [(3, 49, 16)] (
 .seq (
 .reg [⟨(some 67), .mov (.tmp 3), none⟩,
 ⟨(some 2), .mov (.tmp 67), none⟩]) (
 .ret)))))))
theorem r55 : Runs Tryz.prog 55 m55.strip [.mov (.tmp 2)] 68 := ⟨by kernel_rfl, by kernel_rfl, Tryz.f55, Tryz.f55.body.getD .skip, Tryz.func55, by kernel_rfl, by kernel_rfl, by kernel_rfl, by kernel_rfl, by kernel_rfl⟩

def m59 : MC :=
 .seq (
 .reg [⟨(some 1), .box 42 12 (.tmp 0), none⟩,
 ⟨(some 2), .mov (.const (.bool false)), none⟩]) (
 .trim [1] [1] [] (
 .seq (
 .seq (
 .reg [⟨(some 5), .load (some 12) (.tmp 1), none⟩,
 ⟨(some 6), .mov (.const (.int .i64 0)), none⟩]) (
 .trim [5, 6] [] [] (
 .block 0 (
 .loop (
 .trim [5, 6] [] [] (
 .seq (
 .reg [⟨(some 7), .bin .lss (.tmp 6) (.const (.int .i64 4)), none⟩]) (
 .trim [5, 6, 7] [] [] (
 .seq (
 .cond (.tmp 7) (
 .skip) (
 .exit 0)) (
 .trim [5, 6] [] [] (
 .seq (
 .block 1 (
 .seq (
 .reg [⟨(some 8), .idxA 4 3 true (.tmp 5) (.tmp 6), none⟩,
 ⟨(some 4), .alloc 40 [(.val (.int .i64 0)), (.val (.int .i64 0)), (.val (.string ⟨#[]⟩))], none⟩,
 ⟨none, .store 3 (.tmp 4) (.tmp 8), none⟩]) (
 .trim [4, 5, 6] [4] [] (
 .seq (
 .reg [⟨(some 9), .load (some 3) (.tmp 4), none⟩,
 ⟨(some 10), .call (.func 104) [(.tmp 9)] .pure, none⟩,
 ⟨(some 11), .un .not (.tmp 10), none⟩]) (
 .trim [5, 6, 11] [] [] (
 .cond (.tmp 11) (
 .seq (
 .reg [⟨(some 2), .mov (.const (.bool false)), none⟩]) (
 .ret)) (
 .skip))))))) (
 .trim [5, 6] [] [] (
 .reg [⟨(some 12), .bin .add (.tmp 6) (.const (.int .i64 1)), none⟩,
 ⟨(some 6), .mov (.tmp 12), none⟩])))))))))))) (
 .trim [] [] [] (
 .seq (
 .reg [⟨(some 2), .mov (.const (.bool true)), none⟩]) (
 .ret)))))
theorem r59 : Runs Tryz.prog 59 m59.strip [.mov (.tmp 2)] 13 := ⟨by kernel_rfl, by kernel_rfl, Tryz.f59, Tryz.f59.body.getD .skip, Tryz.func59, by kernel_rfl, by kernel_rfl, by kernel_rfl, by kernel_rfl, by kernel_rfl⟩

def m81 : MC :=
 .seq (
 .reg [⟨(some 1), .box 28 7 (.tmp 0), none⟩,
 ⟨(some 2), .alloc 3 [(.val (.int .i64 0))], none⟩,
 ⟨(some 3), .mov (.const (.int .i64 0)), none⟩]) (
 .trim [1, 2] [1, 2] [] (
 .fzb 1 (
 .seq (
 .reg [⟨(some 6), .call (.func 120) [(.tmp 1), (.const (.int .i64 8)), (.tmp 2)] (.obj [(2, 1000000)] [] [] []), none⟩,
 ⟨(some 5), .mov (.tmp 6), none⟩,
 ⟨(some 7), .ext (.tmp 5) 0, none⟩,
 ⟨(some 8), .ext (.tmp 5) 1, none⟩,
 ⟨(some 3), .mov (.tmp 7), none⟩,
 ⟨(some 4), .mov (.tmp 8), none⟩]) (
 .trim [2, 3, 4] [2] [] (
 .seq (
 .seq (
 .reg [⟨(some 9), .mov (.tmp 4), none⟩,
 ⟨(some 10), .un .not (.tmp 9), none⟩]) (
 .trim [2, 3, 10] [2] [] (
 .cond (.tmp 10) (
 .seq (
 .reg [⟨none, .store 1 (.tmp 2) (.const (.int .i64 0)), none⟩,
 ⟨(some 3), .mov (.const (.int .i64 0)), none⟩]) (
 .ret)) (
 .skip)))) (
 .trim [2, 3] [2] [] (
 .seq (
 .reg [⟨(some 11), .load none (.tmp 2), none⟩,
 ⟨(some 12), .mov (.tmp 3), none⟩,
 ⟨none, .store 1 (.tmp 2) (.tmp 11), none⟩,
 ⟨(some 3), .mov (.tmp 12), none⟩]) (
 .ret))))))))
theorem r81 : Runs Tryz.prog 81 m81.strip [.load none (.tmp 2), .mov (.tmp 3)] 13 := ⟨by kernel_rfl, by kernel_rfl, Tryz.f81, Tryz.f81.body.getD .skip, Tryz.func81, by kernel_rfl, by kernel_rfl, by kernel_rfl, by kernel_rfl, by kernel_rfl⟩

def m83 : MC :=
 .seq (
 .reg [⟨(some 2), .nilsl 49 16, none⟩]) (
 .trim [0, 2] [] [(2, 49, 16)] (
 .seq (
 .seq (
 .reg [⟨(some 6), .mov (.tmp 0), none⟩,
 ⟨(some 7), .lenL (.tmp 6), none⟩,
 ⟨(some 8), .mov (.const (.int .i64 0)), none⟩]) (
 .trim [0, 2, 7, 8] [] [(2, 49, 16)] (
 .block 0 (
 .loop (
 .trim [0, 2, 7, 8] [] [(2, 49, 16)] (
 .seq (
 .reg [⟨(some 9), .bin .lss (.tmp 8) (.tmp 7), none⟩]) (
 .trim [0, 2, 7, 8, 9] [] [(2, 49, 16)] (
 .seq (
 .cond (.tmp 9) (
 .skip) (
 .exit 0)) (
 .trim [0, 2, 7, 8] [] [(2, 49, 16)] (
 .seq (
 .block 1 (
 .seq (
 .reg [⟨(some 10), .mov (.tmp 8), none⟩,
 ⟨(some 3), .mov (.tmp 10), none⟩]) (
 .trim [0, 2, 3, 7, 8] [] [(2, 49, 16)] (
 .seq (
 .seq (
 .reg [⟨(some 11), .mov (.tmp 0), none⟩,
 ⟨(some 12), .mov (.tmp 3), none⟩,
 ⟨(some 13), .iaddrS 16 (.tmp 11) (.tmp 12), none⟩,
 ⟨(some 14), .load (some 16) (.tmp 13), none⟩,
 ⟨(some 15), .call (.func 122) [(.tmp 14)] .pure, none⟩]) (
 .trim [0, 2, 3, 7, 8, 15] [] [(2, 49, 16)] (
 .cond (.tmp 15) (
 .exit 1) (
 .skip)))) (
 .trim [0, 2, 3, 7, 8] [] [(2, 49, 16)] (
 .seq (
 .reg [⟨(some 4), .mov (.const (.bool false)), none⟩]) (
 .trim [0, 2, 3, 4, 7, 8] [] [(2, 49, 16)] (
 .seq (
 .seq (
 .reg [⟨(some 16), .mov (.tmp 0), none⟩,
 ⟨(some 17), .lenL (.tmp 16), none⟩,
 ⟨(some 18), .mov (.const (.int .i64 0)), none⟩]) (
 .trim [0, 2, 3, 4, 7, 8, 17, 18] [] [(2, 49, 16)] (
 .block 2 (
 .loop (
 .trim [0, 2, 3, 4, 7, 8, 17, 18] [] [(2, 49, 16)] (
 .seq (
 .reg [⟨(some 19), .bin .lss (.tmp 18) (.tmp 17), none⟩]) (
 .trim [0, 2, 3, 4, 7, 8, 17, 18, 19] [] [(2, 49, 16)] (
 .seq (
 .cond (.tmp 19) (
 .skip) (
 .exit 2)) (
 .trim [0, 2, 3, 4, 7, 8, 17, 18] [] [(2, 49, 16)] (
 .seq (
 .block 3 (
 .seq (
 .reg [⟨(some 20), .mov (.tmp 18), none⟩,
 ⟨(some 5), .mov (.tmp 20), none⟩]) (
 .trim [0, 2, 3, 4, 5, 7, 8, 17, 18] [] [(2, 49, 16)] (
 .dreg 19 [⟨(some 21), .mov (.tmp 4), none⟩,
 ⟨(some 22), .mov (.tmp 21), none⟩,
 ⟨(some 23), .mov (.tmp 5), (some (22, false))⟩,
 ⟨(some 24), .mov (.tmp 3), (some (22, false))⟩,
 ⟨(some 25), .bin .neq (.tmp 23) (.tmp 24), (some (22, false))⟩,
 ⟨(some 26), .mov (.tmp 25), (some (22, false))⟩,
 ⟨(some 27), .mov (.tmp 0), (some (26, true))⟩,
 ⟨(some 28), .mov (.tmp 3), (some (26, true))⟩,
 ⟨(some 29), .iaddrS 16 (.tmp 27) (.tmp 28), (some (26, true))⟩,
 ⟨(some 30), .mov (.tmp 0), (some (26, true))⟩,
 ⟨(some 31), .mov (.tmp 5), (some (26, true))⟩,
 ⟨(some 32), .iaddrS 16 (.tmp 30) (.tmp 31), (some (26, true))⟩,
 ⟨(some 33), .mov (.tmp 5), (some (26, true))⟩,
 ⟨(some 34), .mov (.tmp 3), (some (26, true))⟩,
 ⟨(some 35), .bin .lss (.tmp 33) (.tmp 34), (some (26, true))⟩,
 ⟨(some 36), .call (.func 123) [(.tmp 29), (.tmp 32), (.tmp 35)] .pure, (some (26, true))⟩,
 ⟨(some 37), .pick (.tmp 26) (.tmp 36) (.const (.bool false)), (some (22, false))⟩,
 ⟨(some 38), .pick (.tmp 22) (.const (.bool true)) (.tmp 37), none⟩,
 ⟨(some 4), .mov (.tmp 38), none⟩])))) (
 .trim [0, 2, 3, 4, 7, 8, 17, 18] [] [(2, 49, 16)] (
 .reg [⟨(some 39), .bin .add (.tmp 18) (.const (.int .i64 1)), none⟩,
 ⟨(some 18), .mov (.tmp 39), none⟩])))))))))))) (
 .trim [0, 2, 3, 4, 7, 8] [] [(2, 49, 16)] (
 .seq (
 .reg [⟨(some 40), .mov (.tmp 4), none⟩,
 ⟨(some 41), .un .not (.tmp 40), none⟩]) (
 .trim [0, 2, 3, 7, 8, 41] [] [(2, 49, 16)] (
 .cond (.tmp 41) (
 .reg [⟨(some 42), .mov (.tmp 2), none⟩,
 ⟨(some 43), .mov (.tmp 0), none⟩,
 ⟨(some 44), .mov (.tmp 3), none⟩,
 ⟨(some 45), .iaddrS 16 (.tmp 43) (.tmp 44), none⟩,
 ⟨(some 46), .load (some 16) (.tmp 45), none⟩,
 ⟨(some 47), .bslice 49 16 [(.val (.bool false)), (.sl none []), (.val (.bool false)), (.sl none []), (.val (.bool false)), (.sl none []), (.val (.bool false)), (.sl none []), (.val (.bool false)), (.sl none []), (.val (.bool false)), (.sl none []), (.val (.bool false)), (.sl none []), (.val (.bool false)), (.sl none [])] 1 [(0, 16, (.tmp 46))], none⟩,
 ⟨(some 48), .append 49 16 256 (.tmp 42) (.tmp 47), none⟩,
 ⟨(some 2), .mov (.tmp 48), none⟩]) (
 .skip))))))))))))) (
 .trim [0, 2, 7, 8] [] [(2, 49, 16)] (
 .reg [⟨(some 49), .bin .add (.tmp 8) (.const (.int .i64 1)), none⟩,
 ⟨(some 8), .mov (.tmp 49), none⟩])))))))))))) (
 .trim [2] [] [(2, 49, 16)] (
 .seq (
 .reg [⟨(some 50), .mov (.tmp 2), none⟩,
 ⟨(some 2), .mov (.tmp 50), none⟩]) (
 .ret)))))
theorem r83 : Runs Tryz.prog 83 m83.strip [.mov (.tmp 2)] 51 := ⟨by kernel_rfl, by kernel_rfl, Tryz.f83, Tryz.f83.body.getD .skip, Tryz.func83, by kernel_rfl, by kernel_rfl, by kernel_rfl, by kernel_rfl, by kernel_rfl⟩

def m84 : MC :=
 .seq (
 .reg [⟨(some 3), .box 25 4 (.tmp 1), none⟩,
 ⟨(some 4), .alloc 49 [(.val (.bool false)), (.sl none []), (.val (.bool false)), (.sl none []), (.val (.bool false)), (.sl none []), (.val (.bool false)), (.sl none []), (.val (.bool false)), (.sl none []), (.val (.bool false)), (.sl none []), (.val (.bool false)), (.sl none []), (.val (.bool false)), (.sl none [])], none⟩]) (
 .trim [0, 3, 4] [3, 4] [] (
 .seq (
 .dreg 4 [⟨(some 5), .call (.func 86) [] .pure, none⟩,
 ⟨(some 6), .mov (.tmp 0), none⟩,
 ⟨(some 7), .load (some 4) (.tmp 3), none⟩,
 ⟨(some 8), .call (.func 124) [(.tmp 5), (.tmp 6), (.tmp 7)] .pure, none⟩,
 ⟨none, .store 16 (.tmp 4) (.tmp 8), none⟩]) (
 .ret)))
theorem r84 : Runs Tryz.prog 84 m84.strip [.load (some 16) (.tmp 4)] 9 := ⟨by kernel_rfl, by kernel_rfl, Tryz.f84, Tryz.f84.body.getD .skip, Tryz.func84, by kernel_rfl, by kernel_rfl, by kernel_rfl, by kernel_rfl, by kernel_rfl⟩

def m86 : MC :=
 .seq (
 .reg [⟨(some 0), .alloc 49 [(.val (.bool false)), (.sl none []), (.val (.bool false)), (.sl none []), (.val (.bool false)), (.sl none []), (.val (.bool false)), (.sl none []), (.val (.bool false)), (.sl none []), (.val (.bool false)), (.sl none []), (.val (.bool false)), (.sl none []), (.val (.bool false)), (.sl none [])], none⟩]) (
 .trim [0] [0] [] (
 .seq (
 .seq (
 .reg [⟨(some 2), .mov (.const (.int .i64 0)), none⟩]) (
 .trim [0, 2] [0] [] (
 .block 0 (
 .loop (
 .trim [0, 2] [0] [] (
 .seq (
 .reg [⟨(some 3), .bin .lss (.tmp 2) (.const (.int .i64 4)), none⟩]) (
 .trim [0, 2, 3] [0] [] (
 .seq (
 .cond (.tmp 3) (
 .skip) (
 .exit 0)) (
 .trim [0, 2] [0] [] (
 .seq (
 .block 1 (
 .seq (
 .reg [⟨(some 4), .mov (.tmp 2), none⟩,
 ⟨(some 1), .mov (.tmp 4), none⟩]) (
 .trim [0, 1, 2] [0] [] (
 .reg [⟨(some 5), .mov (.tmp 1), none⟩,
 ⟨(some 6), .call (.func 128) [] .pure, none⟩,
 ⟨(some 7), .iaddrA 4 4 (.tmp 0) (.tmp 5), none⟩,
 ⟨none, .store 4 (.tmp 7) (.tmp 6), none⟩])))) (
 .trim [0, 2] [0] [] (
 .reg [⟨(some 8), .bin .add (.tmp 2) (.const (.int .i64 1)), none⟩,
 ⟨(some 2), .mov (.tmp 8), none⟩])))))))))))) (
 .trim [0] [0] [] (
 .seq (
 .reg [⟨(some 9), .load (some 16) (.tmp 0), none⟩,
 ⟨none, .store 16 (.tmp 0) (.tmp 9), none⟩]) (
 .ret)))))
theorem r86 : Runs Tryz.prog 86 m86.strip [.load (some 16) (.tmp 0)] 10 := ⟨by kernel_rfl, by kernel_rfl, Tryz.f86, Tryz.f86.body.getD .skip, Tryz.func86, by kernel_rfl, by kernel_rfl, by kernel_rfl, by kernel_rfl, by kernel_rfl⟩

def m89 : MC :=
 .seq (
 .reg [⟨(some 1), .box 49 16 (.tmp 0), none⟩,
 ⟨(some 2), .mov (.const (.bool false)), none⟩]) (
 .trim [1] [1] [] (
 .seq (
 .seq (
 .reg [⟨(some 5), .load (some 16) (.tmp 1), none⟩,
 ⟨(some 6), .mov (.const (.int .i64 0)), none⟩]) (
 .trim [5, 6] [] [] (
 .block 0 (
 .loop (
 .trim [5, 6] [] [] (
 .seq (
 .reg [⟨(some 7), .bin .lss (.tmp 6) (.const (.int .i64 4)), none⟩]) (
 .trim [5, 6, 7] [] [] (
 .seq (
 .cond (.tmp 7) (
 .skip) (
 .exit 0)) (
 .trim [5, 6] [] [] (
 .seq (
 .block 1 (
 .seq (
 .reg [⟨(some 8), .idxA 4 4 true (.tmp 5) (.tmp 6), none⟩,
 ⟨(some 4), .alloc 25 [(.val (.bool false)), (.sl none []), (.val (.bool false)), (.sl none [])], none⟩,
 ⟨none, .store 4 (.tmp 4) (.tmp 8), none⟩]) (
 .trim [4, 5, 6] [4] [] (
 .seq (
 .reg [⟨(some 9), .load (some 4) (.tmp 4), none⟩,
 ⟨(some 10), .call (.func 131) [(.tmp 9)] .pure, none⟩,
 ⟨(some 11), .un .not (.tmp 10), none⟩]) (
 .trim [5, 6, 11] [] [] (
 .cond (.tmp 11) (
 .seq (
 .reg [⟨(some 2), .mov (.const (.bool false)), none⟩]) (
 .ret)) (
 .skip))))))) (
 .trim [5, 6] [] [] (
 .reg [⟨(some 12), .bin .add (.tmp 6) (.const (.int .i64 1)), none⟩,
 ⟨(some 6), .mov (.tmp 12), none⟩])))))))))))) (
 .trim [] [] [] (
 .seq (
 .reg [⟨(some 2), .mov (.const (.bool true)), none⟩]) (
 .ret)))))
theorem r89 : Runs Tryz.prog 89 m89.strip [.mov (.tmp 2)] 13 := ⟨by kernel_rfl, by kernel_rfl, Tryz.f89, Tryz.f89.body.getD .skip, Tryz.func89, by kernel_rfl, by kernel_rfl, by kernel_rfl, by kernel_rfl, by kernel_rfl⟩

def m90 : MC :=
 .seq (
 .reg [⟨(some 1), .box 49 16 (.tmp 0), none⟩,
 ⟨(some 2), .mov (.const (.bool false)), none⟩]) (
 .trim [1] [1] [] (
 .seq (
 .seq (
 .reg [⟨(some 5), .load (some 16) (.tmp 1), none⟩,
 ⟨(some 6), .mov (.const (.int .i64 0)), none⟩]) (
 .trim [5, 6] [] [] (
 .block 0 (
 .loop (
 .trim [5, 6] [] [] (
 .seq (
 .reg [⟨(some 7), .bin .lss (.tmp 6) (.const (.int .i64 4)), none⟩]) (
 .trim [5, 6, 7] [] [] (
 .seq (
 .cond (.tmp 7) (
 .skip) (
 .exit 0)) (
 .trim [5, 6] [] [] (
 .seq (
 .block 1 (
 .seq (
 .reg [⟨(some 8), .idxA 4 4 true (.tmp 5) (.tmp 6), none⟩,
 ⟨(some 4), .alloc 25 [(.val (.bool false)), (.sl none []), (.val (.bool false)), (.sl none [])], none⟩,
 ⟨none, .store 4 (.tmp 4) (.tmp 8), none⟩]) (
 .trim [4, 5, 6] [4] [] (
 .seq (
 .reg [⟨(some 9), .load (some 4) (.tmp 4), none⟩,
 ⟨(some 10), .call (.func 132) [(.tmp 9)] .pure, none⟩,
 ⟨(some 11), .un .not (.tmp 10), none⟩]) (
 .trim [5, 6, 11] [] [] (
 .cond (.tmp 11) (
 .seq (
 .reg [⟨(some 2), .mov (.const (.bool false)), none⟩]) (
 .ret)) (
 .skip))))))) (
 .trim [5, 6] [] [] (
 .reg [⟨(some 12), .bin .add (.tmp 6) (.const (.int .i64 1)), none⟩,
 ⟨(some 6), .mov (.tmp 12), none⟩])))))))))))) (
 .trim [] [] [] (
 .seq (
 .reg [⟨(some 2), .mov (.const (.bool true)), none⟩]) (
 .ret)))))
theorem r90 : Runs Tryz.prog 90 m90.strip [.mov (.tmp 2)] 13 := ⟨by kernel_rfl, by kernel_rfl, Tryz.f90, Tryz.f90.body.getD .skip, Tryz.func90, by kernel_rfl, by kernel_rfl, by kernel_rfl, by kernel_rfl, by kernel_rfl⟩

def m97 : MC :=
 .seq (
 .reg [⟨(some 4), .mov (.const (.int .i64 0)), none⟩]) (
 .trim [0, 1] [] [] (
 .seq (
 .seq (
 .reg [⟨(some 6), .mov (.tmp 0), none⟩,
 ⟨(some 7), .lenL (.tmp 6), none⟩,
 ⟨(some 8), .mov (.const (.int .i64 0)), none⟩]) (
 .trim [0, 1, 7, 8] [] [] (
 .block 0 (
 .loop (
 .trim [0, 1, 7, 8] [] [] (
 .seq (
 .reg [⟨(some 9), .bin .lss (.tmp 8) (.tmp 7), none⟩]) (
 .trim [0, 1, 7, 8, 9] [] [] (
 .seq (
 .cond (.tmp 9) (
 .skip) (
 .exit 0)) (
 .trim [0, 1, 7, 8] [] [] (
 .seq (
 .block 1 (
 .seq (
 .reg [⟨(some 10), .mov (.tmp 8), none⟩,
 ⟨(some 5), .mov (.tmp 10), none⟩]) (
 .trim [0, 1, 5, 7, 8] [] [] (
 .seq (
 .reg [⟨(some 11), .mov (.tmp 1), none⟩,
 ⟨(some 12), .mov (.tmp 0), none⟩,
 ⟨(some 13), .mov (.tmp 5), none⟩,
 ⟨(some 14), .iaddrS 16 (.tmp 12) (.tmp 13), none⟩,
 ⟨(some 15), .load (some 16) (.tmp 14), none⟩,
 ⟨(some 16), .call (.tmp 11) [(.tmp 15)] .pure, none⟩]) (
 .trim [0, 1, 5, 7, 8, 16] [] [] (
 .cond (.tmp 16) (
 .seq (
 .reg [⟨(some 17), .mov (.tmp 5), none⟩,
 ⟨(some 4), .mov (.tmp 17), none⟩]) (
 .ret)) (
 .skip))))))) (
 .trim [0, 1, 7, 8] [] [] (
 .reg [⟨(some 18), .bin .add (.tmp 8) (.const (.int .i64 1)), none⟩,
 ⟨(some 8), .mov (.tmp 18), none⟩])))))))))))) (
 .trim [] [] [] (
 .seq (
 .reg [⟨(some 4), .mov (.const (.int .i64 (-1))), none⟩]) (
 .ret)))))
theorem r97 : Runs Tryz.prog 97 m97.strip [.mov (.tmp 4)] 19 := ⟨by kernel_rfl, by kernel_rfl, Tryz.f97, Tryz.f97.body.getD .skip, Tryz.func97, by kernel_rfl, by kernel_rfl, by kernel_rfl, by kernel_rfl, by kernel_rfl⟩

def m101 : MC :=
 .seq (
 .reg [⟨(some 1), .box 25 4 (.tmp 0), none⟩,
 ⟨(some 2), .mov (.const (.bool false)), none⟩]) (
 .trim [1] [1] [] (
 .seq (
 .reg [⟨(some 3), .faddr 1 (.tmp 1), none⟩,
 ⟨(some 4), .load none (.tmp 3), none⟩,
 ⟨(some 5), .lenL (.tmp 4), none⟩,
 ⟨(some 6), .bin .leq (.tmp 5) (.const (.int .i64 6)), none⟩,
 ⟨(some 7), .mov (.tmp 6), none⟩,
 ⟨(some 8), .faddr 3 (.tmp 1), (some (7, true))⟩,
 ⟨(some 9), .load none (.tmp 8), (some (7, true))⟩,
 ⟨(some 10), .lenL (.tmp 9), (some (7, true))⟩,
 ⟨(some 11), .bin .leq (.tmp 10) (.const (.int .i64 6)), (some (7, true))⟩,
 ⟨(some 12), .pick (.tmp 7) (.tmp 11) (.const (.bool false)), none⟩,
 ⟨(some 2), .mov (.tmp 12), none⟩]) (
 .ret)))
theorem r101 : Runs Tryz.prog 101 m101.strip [.mov (.tmp 2)] 13 := ⟨by kernel_rfl, by kernel_rfl, Tryz.f101, Tryz.f101.body.getD .skip, Tryz.func101, by kernel_rfl, by kernel_rfl, by kernel_rfl, by kernel_rfl, by kernel_rfl⟩

def m102 : MC :=
 .seq (
 .reg [⟨(some 1), .box 49 16 (.tmp 0), none⟩,
 ⟨(some 2), .mov (.const (.bool false)), none⟩]) (
 .trim [1] [1] [] (
 .seq (
 .seq (
 .reg [⟨(some 3), .mov (.const (.int .i64 0)), none⟩]) (
 .trim [1, 3] [1] [] (
 .block 0 (
 .loop (
 .trim [1, 3] [1] [] (
 .seq (
 .seq (
 .reg [⟨(some 4), .mov (.tmp 3), none⟩,
 ⟨(some 5), .bin .lss (.tmp 4) (.const (.int .i64 4)), none⟩]) (
 .trim [1, 3, 5] [1] [] (
 .cond (.tmp 5) (
 .skip) (
 .exit 0)))) (
 .trim [1, 3] [1] [] (
 .seq (
 .block 1 (
 .seq (
 .reg [⟨(some 8), .mov (.tmp 3), none⟩,
 ⟨(some 9), .iaddrA 4 4 (.tmp 1) (.tmp 8), none⟩,
 ⟨(some 10), .load (some 4) (.tmp 9), none⟩,
 ⟨(some 11), .call (.func 139) [(.tmp 10)] .pure, none⟩]) (
 .trim [1, 3, 11] [1] [] (
 .cond (.tmp 11) (
 .seq (
 .reg [⟨(some 2), .mov (.const (.bool true)), none⟩]) (
 .ret)) (
 .skip))))) (
 .trim [1, 3] [1] [] (
 .reg [⟨(some 6), .mov (.tmp 3), none⟩,
 ⟨(some 7), .bin .add (.tmp 6) (.const (.int .i64 1)), none⟩,
 ⟨(some 3), .mov (.tmp 7), none⟩])))))))))) (
 .trim [] [] [] (
 .seq (
 .reg [⟨(some 2), .mov (.const (.bool false)), none⟩]) (
 .ret)))))
theorem r102 : Runs Tryz.prog 102 m102.strip [.mov (.tmp 2)] 12 := ⟨by kernel_rfl, by kernel_rfl, Tryz.f102, Tryz.f102.body.getD .skip, Tryz.func102, by kernel_rfl, by kernel_rfl, by kernel_rfl, by kernel_rfl, by kernel_rfl⟩

def m103 : MC :=
 .seq (
 .reg [⟨(some 2), .box 49 16 (.tmp 0), none⟩,
 ⟨(some 3), .box 49 16 (.tmp 1), none⟩,
 ⟨(some 4), .mov (.const (.bool false)), none⟩]) (
 .trim [2, 3] [2, 3] [] (
 .seq (
 .seq (
 .reg [⟨(some 6), .load (some 16) (.tmp 2), none⟩,
 ⟨(some 7), .call (.func 102) [(.tmp 6)] .pure, none⟩]) (
 .trim [2, 3, 7] [2, 3] [] (
 .cond (.tmp 7) (
 .seq (
 .reg [⟨(some 4), .mov (.const (.bool true)), none⟩]) (
 .ret)) (
 .skip)))) (
 .trim [2, 3] [2, 3] [] (
 .seq (
 .seq (
 .reg [⟨(some 5), .mov (.const (.int .i64 0)), none⟩]) (
 .trim [2, 3, 5] [2, 3] [] (
 .block 0 (
 .loop (
 .trim [2, 3, 5] [2, 3] [] (
 .seq (
 .seq (
 .reg [⟨(some 8), .mov (.tmp 5), none⟩,
 ⟨(some 9), .bin .lss (.tmp 8) (.const (.int .i64 4)), none⟩]) (
 .trim [2, 3, 5, 9] [2, 3] [] (
 .cond (.tmp 9) (
 .skip) (
 .exit 0)))) (
 .trim [2, 3, 5] [2, 3] [] (
 .seq (
 .block 1 (
 .seq (
 .dreg 8 [⟨(some 12), .mov (.tmp 5), none⟩,
 ⟨(some 13), .iaddrA 4 4 (.tmp 2) (.tmp 12), none⟩,
 ⟨(some 14), .load (some 4) (.tmp 13), none⟩,
 ⟨(some 15), .mov (.tmp 5), none⟩,
 ⟨(some 16), .iaddrA 4 4 (.tmp 3) (.tmp 15), none⟩,
 ⟨(some 17), .load (some 4) (.tmp 16), none⟩,
 ⟨(some 18), .call (.func 140) [(.tmp 14), (.tmp 17)] .pure, none⟩,
 ⟨(some 19), .un .not (.tmp 18), none⟩]) (
 .trim [2, 3, 5, 19] [2, 3] [] (
 .cond (.tmp 19) (
 .seq (
 .reg [⟨(some 4), .mov (.const (.bool false)), none⟩]) (
 .ret)) (
 .skip))))) (
 .trim [2, 3, 5] [2, 3] [] (
 .reg [⟨(some 10), .mov (.tmp 5), none⟩,
 ⟨(some 11), .bin .add (.tmp 10) (.const (.int .i64 1)), none⟩,
 ⟨(some 5), .mov (.tmp 11), none⟩])))))))))) (
 .trim [] [] [] (
 .seq (
 .reg [⟨(some 4), .mov (.const (.bool true)), none⟩]) (
 .ret)))))))
theorem r103 : Runs Tryz.prog 103 m103.strip [.mov (.tmp 4)] 20 := ⟨by kernel_rfl, by kernel_rfl, Tryz.f103, Tryz.f103.body.getD .skip, Tryz.func103, by kernel_rfl, by kernel_rfl, by kernel_rfl, by kernel_rfl, by kernel_rfl⟩

def m120 : MC :=
 .seq (
 .reg [⟨(some 6), .mov (.const (.int .i64 0)), none⟩,
 ⟨(some 7), .mov (.const (.bool false)), none⟩]) (
 .trim [0, 1, 2, 6] [1000000] [] (
 .seq (
 .seq (
 .reg [⟨(some 11), .mov (.tmp 2), none⟩,
 ⟨(some 12), .nilck (.tmp 11), none⟩,
 ⟨(some 13), .load none (.tmp 12), none⟩,
 ⟨(some 14), .bin .add (.tmp 13) (.const (.int .i64 1)), none⟩,
 ⟨(some 15), .nilck (.tmp 11), none⟩,
 ⟨none, .store 1 (.tmp 15) (.tmp 14), none⟩]) (
 .trim [0, 1, 2, 6] [1000000] [] (
 .seq (
 .reg [⟨(some 16), .mov (.tmp 1), none⟩,
 ⟨(some 17), .bin .eql (.tmp 16) (.const (.int .i64 0)), none⟩,
 ⟨(some 18), .mov (.tmp 17), none⟩,
 ⟨(some 19), .mov (.tmp 2), (some (18, false))⟩,
 ⟨(some 20), .nilck (.tmp 19), (some (18, false))⟩,
 ⟨(some 21), .load none (.tmp 20), (some (18, false))⟩,
 ⟨(some 22), .bin .gtr (.tmp 21) (.const (.int .i64 40)), (some (18, false))⟩,
 ⟨(some 23), .pick (.tmp 18) (.const (.bool true)) (.tmp 22), none⟩]) (
 .trim [0, 1, 2, 6, 23] [1000000] [] (
 .cond (.tmp 23) (
 .seq (
 .reg [⟨(some 6), .mov (.const (.int .i64 0)), none⟩,
 ⟨(some 7), .mov (.const (.bool false)), none⟩]) (
 .ret)) (
 .skip)))))) (
 .trim [0, 1, 2, 6] [1000000] [] (
 .seq (
 .seq (
 .reg [⟨(some 24), .mov (.tmp 0), none⟩,
 ⟨(some 25), .nilck (.tmp 24), none⟩,
 ⟨(some 26), .faddr 6 (.tmp 25), none⟩,
 ⟨(some 27), .load none (.tmp 26), none⟩,
 ⟨(some 28), .lenL (.tmp 27), none⟩,
 ⟨(some 29), .mov (.const (.int .i64 0)), none⟩]) (
 .trim [0, 1, 2, 6, 28, 29] [1000000] [] (
 .block 0 (
 .loop (
 .trim [0, 1, 2, 6, 28, 29] [1000000] [] (
 .seq (
 .reg [⟨(some 30), .bin .lss (.tmp 29) (.tmp 28), none⟩]) (
 .trim [0, 1, 2, 6, 28, 29, 30] [1000000] [] (
 .seq (
 .cond (.tmp 30) (
 .skip) (
 .exit 0)) (
 .trim [0, 1, 2, 6, 28, 29] [1000000] [] (
 .seq (
 .block 1 (
 .seq (
 .reg [⟨(some 31), .mov (.tmp 29), none⟩,
 ⟨(some 8), .mov (.tmp 31), none⟩]) (
 .trim [0, 1, 2, 6, 8, 28, 29] [1000000] [] (
 .seq (
 .reg [⟨(some 33), .mov (.tmp 0), none⟩,
 ⟨(some 34), .nilck (.tmp 33), none⟩,
 ⟨(some 35), .faddr 6 (.tmp 34), none⟩,
 ⟨(some 36), .load none (.tmp 35), none⟩,
 ⟨(some 37), .mov (.tmp 8), none⟩,
 ⟨(some 38), .iaddrS 7 (.tmp 36) (.tmp 37), none⟩,
 ⟨(some 39), .mov (.tmp 1), none⟩,
 ⟨(some 40), .bin .sub (.tmp 39) (.const (.int .i64 1)), none⟩,
 ⟨(some 41), .mov (.tmp 2), none⟩,
 ⟨(some 42), .call (.func 120) [(.tmp 38), (.tmp 40), (.tmp 41)] (.obj [(1000000, 1000000)] [] [] []), none⟩,
 ⟨(some 32), .mov (.tmp 42), none⟩,
 ⟨(some 43), .ext (.tmp 32) 0, none⟩,
 ⟨(some 44), .ext (.tmp 32) 1, none⟩,
 ⟨(some 9), .mov (.tmp 43), none⟩,
 ⟨(some 10), .mov (.tmp 44), none⟩]) (
 .trim [0, 1, 2, 6, 9, 10, 28, 29] [1000000] [] (
 .seq (
 .seq (
 .reg [⟨(some 45), .mov (.tmp 10), none⟩,
 ⟨(some 46), .un .not (.tmp 45), none⟩]) (
 .trim [0, 1, 2, 6, 9, 28, 29, 46] [1000000] [] (
 .cond (.tmp 46) (
 .seq (
 .reg [⟨(some 6), .mov (.const (.int .i64 0)), none⟩,
 ⟨(some 7), .mov (.const (.bool false)), none⟩]) (
 .ret)) (
 .skip)))) (
 .trim [0, 1, 2, 6, 9, 28, 29] [1000000] [] (
 .reg [⟨(some 47), .mov (.tmp 6), none⟩,
 ⟨(some 48), .mov (.tmp 9), none⟩,
 ⟨(some 49), .minmax true [(.tmp 47), (.tmp 48)], none⟩,
 ⟨(some 6), .mov (.tmp 49), none⟩])))))))) (
 .trim [0, 1, 2, 6, 28, 29] [1000000] [] (
 .reg [⟨(some 50), .bin .add (.tmp 29) (.const (.int .i64 1)), none⟩,
 ⟨(some 29), .mov (.tmp 50), none⟩])))))))))))) (
 .trim [6] [1000000] [] (
 .seq (
 .reg [⟨(some 51), .mov (.tmp 6), none⟩,
 ⟨(some 52), .bin .add (.tmp 51) (.const (.int .i64 1)), none⟩,
 ⟨(some 6), .mov (.tmp 52), none⟩,
 ⟨(some 7), .mov (.const (.bool true)), none⟩]) (
 .ret)))))))
theorem r120 : Runs Tryz.prog 120 m120.strip [.mov (.tmp 6), .mov (.tmp 7)] 53 := ⟨by kernel_rfl, by kernel_rfl, Tryz.f120, Tryz.f120.body.getD .skip, Tryz.func120, by kernel_rfl, by kernel_rfl, by kernel_rfl, by kernel_rfl, by kernel_rfl⟩

def m121 : MC :=
 .seq (
 .reg [⟨(some 2), .mov (.const (.bool false)), none⟩]) (
 .trim [0] [] [] (
 .seq (
 .reg [⟨(some 4), .mov (.tmp 0), none⟩,
 ⟨(some 5), .nilck (.tmp 4), none⟩,
 ⟨(some 6), .faddr 1 (.tmp 5), none⟩,
 ⟨(some 7), .load none (.tmp 6), none⟩,
 ⟨(some 8), .bin .eql (.tmp 7) (.const (.int .i64 0)), none⟩,
 ⟨(some 9), .mov (.tmp 8), none⟩,
 ⟨(some 10), .mov (.tmp 0), (some (9, true))⟩,
 ⟨(some 11), .nilck (.tmp 10), (some (9, true))⟩,
 ⟨(some 12), .faddr 2 (.tmp 11), (some (9, true))⟩,
 ⟨(some 13), .load (some 4) (.tmp 12), (some (9, true))⟩,
 ⟨(some 14), .build [(.val (.bool false)), (.sl none []), (.val (.bool false)), (.sl none [])] [], (some (9, true))⟩,
 ⟨(some 15), .call (.func 145) [(.tmp 13), (.tmp 14)] .pure, (some (9, true))⟩,
 ⟨(some 16), .pick (.tmp 9) (.tmp 15) (.const (.bool false)), none⟩,
 ⟨(some 3), .mov (.tmp 16), none⟩]) (
 .trim [0, 3] [] [] (
 .seq (
 .seq (
 .reg [⟨(some 17), .mov (.tmp 0), none⟩,
 ⟨(some 18), .nilck (.tmp 17), none⟩,
 ⟨(some 19), .faddr 0 (.tmp 18), none⟩,
 ⟨(some 20), .load none (.tmp 19), none⟩]) (
 .trim [0, 3, 20] [] [] (
 .block 0 (
 .seq (
 .reg [⟨(some 22), .bin .eql (.tmp 20) (.const (.int .i64 1)), none⟩,
 ⟨(some 21), .mov (.tmp 22), none⟩]) (
 .trim [0, 3, 20, 21] [] [] (
 .cond (.tmp 21) (
 .seq (
 .reg [⟨(some 23), .mov (.tmp 0), none⟩,
 ⟨(some 24), .nilck (.tmp 23), none⟩,
 ⟨(some 25), .faddr 1 (.tmp 24), none⟩,
 ⟨(some 26), .load none (.tmp 25), none⟩,
 ⟨(some 27), .bin .geq (.tmp 26) (.const (.int .i64 0)), none⟩,
 ⟨(some 28), .mov (.tmp 27), none⟩,
 ⟨(some 29), .mov (.tmp 0), (some (28, true))⟩,
 ⟨(some 30), .nilck (.tmp 29), (some (28, true))⟩,
 ⟨(some 31), .faddr 1 (.tmp 30), (some (28, true))⟩,
 ⟨(some 32), .load none (.tmp 31), (some (28, true))⟩,
 ⟨(some 33), .bin .lss (.tmp 32) (.const (.int .i64 4)), (some (28, true))⟩,
 ⟨(some 34), .pick (.tmp 28) (.tmp 33) (.const (.bool false)), none⟩,
 ⟨(some 35), .mov (.tmp 34), none⟩,
 ⟨(some 36), .mov (.tmp 0), (some (35, true))⟩,
 ⟨(some 37), .nilck (.tmp 36), (some (35, true))⟩,
 ⟨(some 38), .faddr 6 (.tmp 37), (some (35, true))⟩,
 ⟨(some 39), .load none (.tmp 38), (some (35, true))⟩,
 ⟨(some 40), .lenL (.tmp 39), (some (35, true))⟩,
 ⟨(some 41), .bin .eql (.tmp 40) (.const (.int .i64 0)), (some (35, true))⟩,
 ⟨(some 42), .pick (.tmp 35) (.tmp 41) (.const (.bool false)), none⟩,
 ⟨(some 43), .mov (.tmp 42), none⟩,
 ⟨(some 44), .mov (.tmp 0), (some (43, true))⟩,
 ⟨(some 45), .nilck (.tmp 44), (some (43, true))⟩,
 ⟨(some 46), .faddr 2 (.tmp 45), (some (43, true))⟩,
 ⟨(some 47), .load (some 4) (.tmp 46), (some (43, true))⟩,
 ⟨(some 48), .call (.func 131) [(.tmp 47)] .pure, (some (43, true))⟩,
 ⟨(some 49), .pick (.tmp 43) (.tmp 48) (.const (.bool false)), none⟩,
 ⟨(some 50), .mov (.tmp 49), none⟩,
 ⟨(some 51), .mov (.tmp 0), (some (50, true))⟩,
 ⟨(some 52), .nilck (.tmp 51), (some (50, true))⟩,
 ⟨(some 53), .faddr 2 (.tmp 52), (some (50, true))⟩,
 ⟨(some 54), .load (some 4) (.tmp 53), (some (50, true))⟩,
 ⟨(some 55), .call (.func 132) [(.tmp 54)] .pure, (some (50, true))⟩,
 ⟨(some 56), .pick (.tmp 50) (.tmp 55) (.const (.bool false)), none⟩,
 ⟨(some 2), .mov (.tmp 56), none⟩]) (
 .ret)) (
 .seq (
 .seq (
 .reg [⟨(some 58), .bin .eql (.tmp 20) (.const (.int .i64 2)), none⟩,
 ⟨(some 57), .mov (.tmp 58), none⟩]) (
 .trim [0, 3, 20, 57] [] [] (
 .cond (.tmp 57) (
 .skip) (
 .reg [⟨(some 59), .bin .eql (.tmp 20) (.const (.int .i64 3)), none⟩,
 ⟨(some 57), .mov (.tmp 59), none⟩])))) (
 .trim [0, 3, 20, 57] [] [] (
 .cond (.tmp 57) (
 .seq (
 .reg [⟨(some 60), .mov (.tmp 3), none⟩,
 ⟨(some 2), .mov (.tmp 60), none⟩]) (
 .ret)) (
 .seq (
 .reg [⟨(some 62), .bin .eql (.tmp 20) (.const (.int .i64 4)), none⟩,
 ⟨(some 61), .mov (.tmp 62), none⟩]) (
 .trim [0, 3, 61] [] [] (
 .cond (.tmp 61) (
 .seq (
 .reg [⟨(some 63), .mov (.tmp 3), none⟩,
 ⟨(some 64), .mov (.tmp 63), none⟩,
 ⟨(some 65), .mov (.tmp 0), (some (64, true))⟩,
 ⟨(some 66), .nilck (.tmp 65), (some (64, true))⟩,
 ⟨(some 67), .faddr 6 (.tmp 66), (some (64, true))⟩,
 ⟨(some 68), .load none (.tmp 67), (some (64, true))⟩,
 ⟨(some 69), .lenL (.tmp 68), (some (64, true))⟩,
 ⟨(some 70), .bin .eql (.tmp 69) (.const (.int .i64 1)), (some (64, true))⟩,
 ⟨(some 71), .pick (.tmp 64) (.tmp 70) (.const (.bool false)), none⟩,
 ⟨(some 2), .mov (.tmp 71), none⟩]) (
 .ret)) (
 .skip))))))))))))) (
 .trim [] [] [] (
 .seq (
 .reg [⟨(some 2), .mov (.const (.bool false)), none⟩]) (
 .ret)))))))
theorem r121 : Runs Tryz.prog 121 m121.strip [.mov (.tmp 2)] 72 := ⟨by kernel_rfl, by kernel_rfl, Tryz.f121, Tryz.f121.body.getD .skip, Tryz.func121, by kernel_rfl, by kernel_rfl, by kernel_rfl, by kernel_rfl, by kernel_rfl⟩

def m122 : MC :=
 .seq (
 .reg [⟨(some 1), .box 49 16 (.tmp 0), none⟩,
 ⟨(some 2), .mov (.const (.bool false)), none⟩]) (
 .trim [1] [1] [] (
 .seq (
 .seq (
 .reg [⟨(some 5), .load (some 16) (.tmp 1), none⟩,
 ⟨(some 6), .mov (.const (.int .i64 0)), none⟩]) (
 .trim [5, 6] [] [] (
 .block 0 (
 .loop (
 .trim [5, 6] [] [] (
 .seq (
 .reg [⟨(some 7), .bin .lss (.tmp 6) (.const (.int .i64 4)), none⟩]) (
 .trim [5, 6, 7] [] [] (
 .seq (
 .cond (.tmp 7) (
 .skip) (
 .exit 0)) (
 .trim [5, 6] [] [] (
 .seq (
 .block 1 (
 .seq (
 .reg [⟨(some 8), .idxA 4 4 true (.tmp 5) (.tmp 6), none⟩,
 ⟨(some 4), .alloc 25 [(.val (.bool false)), (.sl none []), (.val (.bool false)), (.sl none [])], none⟩,
 ⟨none, .store 4 (.tmp 4) (.tmp 8), none⟩]) (
 .trim [4, 5, 6] [4] [] (
 .seq (
 .reg [⟨(some 9), .load (some 4) (.tmp 4), none⟩,
 ⟨(some 10), .call (.func 146) [(.tmp 9)] .pure, none⟩]) (
 .trim [5, 6, 10] [] [] (
 .cond (.tmp 10) (
 .seq (
 .reg [⟨(some 2), .mov (.const (.bool true)), none⟩]) (
 .ret)) (
 .skip))))))) (
 .trim [5, 6] [] [] (
 .reg [⟨(some 11), .bin .add (.tmp 6) (.const (.int .i64 1)), none⟩,
 ⟨(some 6), .mov (.tmp 11), none⟩])))))))))))) (
 .trim [] [] [] (
 .seq (
 .reg [⟨(some 2), .mov (.const (.bool false)), none⟩]) (
 .ret)))))
theorem r122 : Runs Tryz.prog 122 m122.strip [.mov (.tmp 2)] 12 := ⟨by kernel_rfl, by kernel_rfl, Tryz.f122, Tryz.f122.body.getD .skip, Tryz.func122, by kernel_rfl, by kernel_rfl, by kernel_rfl, by kernel_rfl, by kernel_rfl⟩

def m123 : MC :=
 .seq (
 .reg [⟨(some 6), .mov (.const (.bool false)), none⟩]) (
 .trim [0, 1, 2] [] [] (
 .seq (
 .dreg 21 [⟨(some 7), .mov (.tmp 0), none⟩,
 ⟨(some 8), .nilck (.tmp 7), none⟩,
 ⟨(some 9), .load (some 16) (.tmp 8), none⟩,
 ⟨(some 10), .mov (.tmp 1), none⟩,
 ⟨(some 11), .nilck (.tmp 10), none⟩,
 ⟨(some 12), .load (some 16) (.tmp 11), none⟩,
 ⟨(some 13), .call (.func 147) [(.tmp 9), (.tmp 12)] .pure, none⟩,
 ⟨(some 14), .mov (.tmp 13), none⟩,
 ⟨(some 15), .mov (.tmp 2), (some (14, true))⟩,
 ⟨(some 16), .mov (.tmp 15), (some (14, true))⟩,
 ⟨(some 17), .mov (.tmp 1), (some (16, false))⟩,
 ⟨(some 18), .nilck (.tmp 17), (some (16, false))⟩,
 ⟨(some 19), .load (some 16) (.tmp 18), (some (16, false))⟩,
 ⟨(some 20), .mov (.tmp 0), (some (16, false))⟩,
 ⟨(some 21), .nilck (.tmp 20), (some (16, false))⟩,
 ⟨(some 22), .load (some 16) (.tmp 21), (some (16, false))⟩,
 ⟨(some 23), .call (.func 147) [(.tmp 19), (.tmp 22)] .pure, (some (16, false))⟩,
 ⟨(some 24), .un .not (.tmp 23), (some (16, false))⟩,
 ⟨(some 25), .pick (.tmp 16) (.const (.bool true)) (.tmp 24), (some (14, true))⟩,
 ⟨(some 26), .pick (.tmp 14) (.tmp 25) (.const (.bool false)), none⟩,
 ⟨(some 6), .mov (.tmp 26), none⟩]) (
 .ret)))
theorem r123 : Runs Tryz.prog 123 m123.strip [.mov (.tmp 6)] 27 := ⟨by kernel_rfl, by kernel_rfl, Tryz.f123, Tryz.f123.body.getD .skip, Tryz.func123, by kernel_rfl, by kernel_rfl, by kernel_rfl, by kernel_rfl, by kernel_rfl⟩

def m124 : MC :=
 .seq (
 .reg [⟨(some 3), .box 49 16 (.tmp 0), none⟩,
 ⟨(some 5), .box 25 4 (.tmp 2), none⟩,
 ⟨(some 6), .alloc 49 [(.val (.bool false)), (.sl none []), (.val (.bool false)), (.sl none []), (.val (.bool false)), (.sl none []), (.val (.bool false)), (.sl none []), (.val (.bool false)), (.sl none []), (.val (.bool false)), (.sl none []), (.val (.bool false)), (.sl none []), (.val (.bool false)), (.sl none [])], none⟩]) (
 .trim [1, 3, 5, 6] [3, 5, 6] [] (
 .seq (
 .seq (
 .reg [⟨(some 7), .mov (.tmp 1), none⟩,
 ⟨(some 8), .bin .geq (.tmp 7) (.const (.int .i64 0)), none⟩,
 ⟨(some 9), .mov (.tmp 8), none⟩,
 ⟨(some 10), .mov (.tmp 1), (some (9, true))⟩,
 ⟨(some 11), .bin .lss (.tmp 10) (.const (.int .i64 4)), (some (9, true))⟩,
 ⟨(some 12), .pick (.tmp 9) (.tmp 11) (.const (.bool false)), none⟩]) (
 .trim [1, 3, 5, 6, 12] [3, 5, 6] [] (
 .cond (.tmp 12) (
 .reg [⟨(some 13), .mov (.tmp 1), none⟩,
 ⟨(some 14), .load (some 4) (.tmp 5), none⟩,
 ⟨(some 15), .iaddrA 4 4 (.tmp 3) (.tmp 13), none⟩,
 ⟨none, .store 4 (.tmp 15) (.tmp 14), none⟩]) (
 .skip)))) (
 .trim [3, 6] [3, 6] [] (
 .seq (
 .reg [⟨(some 16), .load (some 16) (.tmp 3), none⟩,
 ⟨none, .store 16 (.tmp 6) (.tmp 16), none⟩]) (
 .ret)))))
theorem r124 : Runs Tryz.prog 124 m124.strip [.load (some 16) (.tmp 6)] 17 := ⟨by kernel_rfl, by kernel_rfl, Tryz.f124, Tryz.f124.body.getD .skip, Tryz.func124, by kernel_rfl, by kernel_rfl, by kernel_rfl, by kernel_rfl, by kernel_rfl⟩

def m129 : MC :=
 .seq (
 .reg [⟨(some 2), .box 49 16 (.tmp 0), none⟩,
 ⟨(some 3), .box 49 16 (.tmp 1), none⟩,
 ⟨(some 4), .alloc 49 [(.val (.bool false)), (.sl none []), (.val (.bool false)), (.sl none []), (.val (.bool false)), (.sl none []), (.val (.bool false)), (.sl none []), (.val (.bool false)), (.sl none []), (.val (.bool false)), (.sl none []), (.val (.bool false)), (.sl none []), (.val (.bool false)), (.sl none [])], none⟩]) (
 .trim [2, 3, 4] [2, 3, 4] [] (
 .seq (
 .seq (
 .reg [⟨(some 6), .mov (.const (.int .i64 0)), none⟩]) (
 .trim [2, 3, 4, 6] [2, 3, 4] [] (
 .block 0 (
 .loop (
 .trim [2, 3, 4, 6] [2, 3, 4] [] (
 .seq (
 .reg [⟨(some 7), .bin .lss (.tmp 6) (.const (.int .i64 4)), none⟩]) (
 .trim [2, 3, 4, 6, 7] [2, 3, 4] [] (
 .seq (
 .cond (.tmp 7) (
 .skip) (
 .exit 0)) (
 .trim [2, 3, 4, 6] [2, 3, 4] [] (
 .seq (
 .block 1 (
 .seq (
 .reg [⟨(some 8), .mov (.tmp 6), none⟩,
 ⟨(some 5), .mov (.tmp 8), none⟩]) (
 .trim [2, 3, 4, 5, 6] [2, 3, 4] [] (
 .dreg 9 [⟨(some 9), .mov (.tmp 5), none⟩,
 ⟨(some 10), .mov (.tmp 5), none⟩,
 ⟨(some 11), .iaddrA 4 4 (.tmp 2) (.tmp 10), none⟩,
 ⟨(some 12), .load (some 4) (.tmp 11), none⟩,
 ⟨(some 13), .mov (.tmp 5), none⟩,
 ⟨(some 14), .iaddrA 4 4 (.tmp 3) (.tmp 13), none⟩,
 ⟨(some 15), .load (some 4) (.tmp 14), none⟩,
 ⟨(some 16), .call (.func 152) [(.tmp 12), (.tmp 15)] .pure, none⟩,
 ⟨(some 17), .iaddrA 4 4 (.tmp 4) (.tmp 9), none⟩,
 ⟨none, .store 4 (.tmp 17) (.tmp 16), none⟩])))) (
 .trim [2, 3, 4, 6] [2, 3, 4] [] (
 .reg [⟨(some 18), .bin .add (.tmp 6) (.const (.int .i64 1)), none⟩,
 ⟨(some 6), .mov (.tmp 18), none⟩])))))))))))) (
 .trim [4] [4] [] (
 .seq (
 .reg [⟨(some 19), .load (some 16) (.tmp 4), none⟩,
 ⟨none, .store 16 (.tmp 4) (.tmp 19), none⟩]) (
 .ret)))))
theorem r129 : Runs Tryz.prog 129 m129.strip [.load (some 16) (.tmp 4)] 20 := ⟨by kernel_rfl, by kernel_rfl, Tryz.f129, Tryz.f129.body.getD .skip, Tryz.func129, by kernel_rfl, by kernel_rfl, by kernel_rfl, by kernel_rfl, by kernel_rfl⟩

def m131 : MC :=
 .seq (
 .reg [⟨(some 1), .box 25 4 (.tmp 0), none⟩,
 ⟨(some 2), .mov (.const (.bool false)), none⟩]) (
 .trim [1] [1] [] (
 .seq (
 .seq (
 .reg [⟨(some 7), .faddr 1 (.tmp 1), none⟩,
 ⟨(some 8), .load none (.tmp 7), none⟩,
 ⟨(some 9), .lenL (.tmp 8), none⟩,
 ⟨(some 10), .mov (.const (.int .i64 0)), none⟩]) (
 .trim [1, 8, 9, 10] [1] [] (
 .block 0 (
 .loop (
 .trim [1, 8, 9, 10] [1] [] (
 .seq (
 .reg [⟨(some 11), .bin .lss (.tmp 10) (.tmp 9), none⟩]) (
 .trim [1, 8, 9, 10, 11] [1] [] (
 .seq (
 .cond (.tmp 11) (
 .skip) (
 .exit 0)) (
 .trim [1, 8, 9, 10] [1] [] (
 .seq (
 .block 1 (
 .seq (
 .reg [⟨(some 12), .mov (.tmp 10), none⟩,
 ⟨(some 13), .iaddrS 2 (.tmp 8) (.tmp 10), none⟩,
 ⟨(some 14), .load (some 2) (.tmp 13), none⟩,
 ⟨(some 4), .alloc 114 [(.val (.int .i64 0)), (.val (.int .i64 0))], none⟩,
 ⟨(some 3), .mov (.tmp 12), none⟩,
 ⟨none, .store 2 (.tmp 4) (.tmp 14), none⟩]) (
 .trim [1, 3, 4, 8, 9, 10] [1, 4] [] (
 .seq (
 .dreg 34 [⟨(some 15), .faddr 0 (.tmp 4), none⟩,
 ⟨(some 16), .load none (.tmp 15), none⟩,
 ⟨(some 17), .faddr 1 (.tmp 4), none⟩,
 ⟨(some 18), .load none (.tmp 17), none⟩,
 ⟨(some 19), .bin .gtr (.tmp 16) (.tmp 18), none⟩,
 ⟨(some 20), .mov (.tmp 19), none⟩,
 ⟨(some 21), .mov (.tmp 3), (some (20, false))⟩,
 ⟨(some 22), .bin .gtr (.tmp 21) (.const (.int .i64 0)), (some (20, false))⟩,
 ⟨(some 23), .mov (.tmp 22), (some (20, false))⟩,
 ⟨(some 24), .faddr 0 (.tmp 4), (some (23, true))⟩,
 ⟨(some 25), .load none (.tmp 24), (some (23, true))⟩,
 ⟨(some 26), .faddr 1 (.tmp 1), (some (23, true))⟩,
 ⟨(some 27), .load none (.tmp 26), (some (23, true))⟩,
 ⟨(some 28), .mov (.tmp 3), (some (23, true))⟩,
 ⟨(some 29), .bin .sub (.tmp 28) (.const (.int .i64 1)), (some (23, true))⟩,
 ⟨(some 30), .iaddrS 2 (.tmp 27) (.tmp 29), (some (23, true))⟩,
 ⟨(some 31), .faddr 1 (.tmp 30), (some (23, true))⟩,
 ⟨(some 32), .load none (.tmp 31), (some (23, true))⟩,
 ⟨(some 33), .bin .leq (.tmp 25) (.tmp 32), (some (23, true))⟩,
 ⟨(some 34), .mov (.tmp 33), (some (23, true))⟩,
 ⟨(some 35), .faddr 0 (.tmp 4), (some (34, false))⟩,
 ⟨(some 36), .load none (.tmp 35), (some (34, false))⟩,
 ⟨(some 37), .bin .sub (.tmp 36) (.const (.int .i64 1)), (some (34, false))⟩,
 ⟨(some 38), .faddr 1 (.tmp 1), (some (34, false))⟩,
 ⟨(some 39), .load none (.tmp 38), (some (34, false))⟩,
 ⟨(some 40), .mov (.tmp 3), (some (34, false))⟩,
 ⟨(some 41), .bin .sub (.tmp 40) (.const (.int .i64 1)), (some (34, false))⟩,
 ⟨(some 42), .iaddrS 2 (.tmp 39) (.tmp 41), (some (34, false))⟩,
 ⟨(some 43), .faddr 1 (.tmp 42), (some (34, false))⟩,
 ⟨(some 44), .load none (.tmp 43), (some (34, false))⟩,
 ⟨(some 45), .bin .eql (.tmp 37) (.tmp 44), (some (34, false))⟩,
 ⟨(some 46), .pick (.tmp 34) (.const (.bool true)) (.tmp 45), (some (23, true))⟩,
 ⟨(some 47), .pick (.tmp 23) (.tmp 46) (.const (.bool false)), (some (20, false))⟩,
 ⟨(some 48), .pick (.tmp 20) (.const (.bool true)) (.tmp 47), none⟩]) (
 .trim [1, 8, 9, 10, 48] [1] [] (
 .cond (.tmp 48) (
 .seq (
 .reg [⟨(some 2), .mov (.const (.bool false)), none⟩]) (
 .ret)) (
 .skip))))))) (
 .trim [1, 8, 9, 10] [1] [] (
 .reg [⟨(some 49), .bin .add (.tmp 10) (.const (.int .i64 1)), none⟩,
 ⟨(some 10), .mov (.tmp 49), none⟩])))))))))))) (
 .trim [1] [1] [] (
 .seq (
 .seq (
 .reg [⟨(some 50), .faddr 3 (.tmp 1), none⟩,
 ⟨(some 51), .load none (.tmp 50), none⟩,
 ⟨(some 52), .lenL (.tmp 51), none⟩,
 ⟨(some 53), .mov (.const (.int .i64 0)), none⟩]) (
 .trim [1, 51, 52, 53] [1] [] (
 .block 2 (
 .loop (
 .trim [1, 51, 52, 53] [1] [] (
 .seq (
 .reg [⟨(some 54), .bin .lss (.tmp 53) (.tmp 52), none⟩]) (
 .trim [1, 51, 52, 53, 54] [1] [] (
 .seq (
 .cond (.tmp 54) (
 .skip) (
 .exit 2)) (
 .trim [1, 51, 52, 53] [1] [] (
 .seq (
 .block 3 (
 .seq (
 .reg [⟨(some 55), .mov (.tmp 53), none⟩,
 ⟨(some 56), .iaddrS 1 (.tmp 51) (.tmp 53), none⟩,
 ⟨(some 57), .load none (.tmp 56), none⟩,
 ⟨(some 5), .mov (.tmp 55), none⟩,
 ⟨(some 6), .mov (.tmp 57), none⟩]) (
 .trim [1, 5, 6, 51, 52, 53] [1] [] (
 .seq (
 .reg [⟨(some 58), .mov (.tmp 6), none⟩,
 ⟨(some 59), .lenS (.tmp 58), none⟩,
 ⟨(some 60), .bin .gtr (.tmp 59) (.const (.int .i64 8)), none⟩,
 ⟨(some 61), .mov (.tmp 60), none⟩,
 ⟨(some 62), .mov (.tmp 5), (some (61, false))⟩,
 ⟨(some 63), .bin .gtr (.tmp 62) (.const (.int .i64 0)), (some (61, false))⟩,
 ⟨(some 64), .mov (.tmp 63), (some (61, false))⟩,
 ⟨(some 65), .faddr 3 (.tmp 1), (some (64, true))⟩,
 ⟨(some 66), .load none (.tmp 65), (some (64, true))⟩,
 ⟨(some 67), .mov (.tmp 5), (some (64, true))⟩,
 ⟨(some 68), .bin .sub (.tmp 67) (.const (.int .i64 1)), (some (64, true))⟩,
 ⟨(some 69), .iaddrS 1 (.tmp 66) (.tmp 68), (some (64, true))⟩,
 ⟨(some 70), .load none (.tmp 69), (some (64, true))⟩,
 ⟨(some 71), .mov (.tmp 6), (some (64, true))⟩,
 ⟨(some 72), .bin .geq (.tmp 70) (.tmp 71), (some (64, true))⟩,
 ⟨(some 73), .pick (.tmp 64) (.tmp 72) (.const (.bool false)), (some (61, false))⟩,
 ⟨(some 74), .pick (.tmp 61) (.const (.bool true)) (.tmp 73), none⟩]) (
 .trim [1, 51, 52, 53, 74] [1] [] (
 .cond (.tmp 74) (
 .seq (
 .reg [⟨(some 2), .mov (.const (.bool false)), none⟩]) (
 .ret)) (
 .skip))))))) (
 .trim [1, 51, 52, 53] [1] [] (
 .reg [⟨(some 75), .bin .add (.tmp 53) (.const (.int .i64 1)), none⟩,
 ⟨(some 53), .mov (.tmp 75), none⟩])))))))))))) (
 .trim [] [] [] (
 .seq (
 .reg [⟨(some 2), .mov (.const (.bool true)), none⟩]) (
 .ret)))))))
theorem r131 : Runs Tryz.prog 131 m131.strip [.mov (.tmp 2)] 76 := ⟨by kernel_rfl, by kernel_rfl, Tryz.f131, Tryz.f131.body.getD .skip, Tryz.func131, by kernel_rfl, by kernel_rfl, by kernel_rfl, by kernel_rfl, by kernel_rfl⟩

def m132 : MC :=
 .seq (
 .reg [⟨(some 1), .box 25 4 (.tmp 0), none⟩,
 ⟨(some 2), .mov (.const (.bool false)), none⟩]) (
 .trim [1] [1] [] (
 .seq (
 .reg [⟨(some 3), .faddr 1 (.tmp 1), none⟩,
 ⟨(some 4), .load none (.tmp 3), none⟩,
 ⟨(some 5), .lenL (.tmp 4), none⟩,
 ⟨(some 6), .bin .leq (.tmp 5) (.const (.int .i64 6)), none⟩,
 ⟨(some 7), .mov (.tmp 6), none⟩,
 ⟨(some 8), .faddr 3 (.tmp 1), (some (7, true))⟩,
 ⟨(some 9), .load none (.tmp 8), (some (7, true))⟩,
 ⟨(some 10), .lenL (.tmp 9), (some (7, true))⟩,
 ⟨(some 11), .bin .leq (.tmp 10) (.const (.int .i64 6)), (some (7, true))⟩,
 ⟨(some 12), .pick (.tmp 7) (.tmp 11) (.const (.bool false)), none⟩,
 ⟨(some 2), .mov (.tmp 12), none⟩]) (
 .ret)))
theorem r132 : Runs Tryz.prog 132 m132.strip [.mov (.tmp 2)] 13 := ⟨by kernel_rfl, by kernel_rfl, Tryz.f132, Tryz.f132.body.getD .skip, Tryz.func132, by kernel_rfl, by kernel_rfl, by kernel_rfl, by kernel_rfl, by kernel_rfl⟩

def m139 : MC :=
 .seq (
 .reg [⟨(some 1), .box 25 4 (.tmp 0), none⟩,
 ⟨(some 2), .mov (.const (.bool false)), none⟩]) (
 .trim [1] [1] [] (
 .seq (
 .reg [⟨(some 3), .faddr 0 (.tmp 1), none⟩,
 ⟨(some 4), .load none (.tmp 3), none⟩,
 ⟨(some 5), .un .not (.tmp 4), none⟩,
 ⟨(some 6), .mov (.tmp 5), none⟩,
 ⟨(some 7), .faddr 1 (.tmp 1), (some (6, true))⟩,
 ⟨(some 8), .load none (.tmp 7), (some (6, true))⟩,
 ⟨(some 9), .lenL (.tmp 8), (some (6, true))⟩,
 ⟨(some 10), .bin .eql (.tmp 9) (.const (.int .i64 0)), (some (6, true))⟩,
 ⟨(some 11), .pick (.tmp 6) (.tmp 10) (.const (.bool false)), none⟩,
 ⟨(some 12), .mov (.tmp 11), none⟩,
 ⟨(some 13), .faddr 2 (.tmp 1), (some (12, true))⟩,
 ⟨(some 14), .load none (.tmp 13), (some (12, true))⟩,
 ⟨(some 15), .un .not (.tmp 14), (some (12, true))⟩,
 ⟨(some 16), .pick (.tmp 12) (.tmp 15) (.const (.bool false)), none⟩,
 ⟨(some 17), .mov (.tmp 16), none⟩,
 ⟨(some 18), .faddr 3 (.tmp 1), (some (17, true))⟩,
 ⟨(some 19), .load none (.tmp 18), (some (17, true))⟩,
 ⟨(some 20), .lenL (.tmp 19), (some (17, true))⟩,
 ⟨(some 21), .bin .eql (.tmp 20) (.const (.int .i64 0)), (some (17, true))⟩,
 ⟨(some 22), .pick (.tmp 17) (.tmp 21) (.const (.bool false)), none⟩,
 ⟨(some 2), .mov (.tmp 22), none⟩]) (
 .ret)))
theorem r139 : Runs Tryz.prog 139 m139.strip [.mov (.tmp 2)] 23 := ⟨by kernel_rfl, by kernel_rfl, Tryz.f139, Tryz.f139.body.getD .skip, Tryz.func139, by kernel_rfl, by kernel_rfl, by kernel_rfl, by kernel_rfl, by kernel_rfl⟩

def m147 : MC :=
 .seq (
 .reg [⟨(some 2), .box 49 16 (.tmp 0), none⟩,
 ⟨(some 3), .box 49 16 (.tmp 1), none⟩,
 ⟨(some 4), .mov (.const (.bool false)), none⟩]) (
 .trim [2, 3] [2, 3] [] (
 .seq (
 .seq (
 .reg [⟨(some 6), .load (some 16) (.tmp 2), none⟩,
 ⟨(some 7), .call (.func 122) [(.tmp 6)] .pure, none⟩]) (
 .trim [2, 3, 7] [2, 3] [] (
 .cond (.tmp 7) (
 .seq (
 .reg [⟨(some 4), .mov (.const (.bool true)), none⟩]) (
 .ret)) (
 .skip)))) (
 .trim [2, 3] [2, 3] [] (
 .seq (
 .seq (
 .reg [⟨(some 8), .mov (.const (.int .i64 0)), none⟩]) (
 .trim [2, 3, 8] [2, 3] [] (
 .block 0 (
 .loop (
 .trim [2, 3, 8] [2, 3] [] (
 .seq (
 .reg [⟨(some 9), .bin .lss (.tmp 8) (.const (.int .i64 4)), none⟩]) (
 .trim [2, 3, 8, 9] [2, 3] [] (
 .seq (
 .cond (.tmp 9) (
 .skip) (
 .exit 0)) (
 .trim [2, 3, 8] [2, 3] [] (
 .seq (
 .block 1 (
 .seq (
 .reg [⟨(some 10), .mov (.tmp 8), none⟩,
 ⟨(some 5), .mov (.tmp 10), none⟩]) (
 .trim [2, 3, 5, 8] [2, 3] [] (
 .seq (
 .dreg 8 [⟨(some 11), .mov (.tmp 5), none⟩,
 ⟨(some 12), .iaddrA 4 4 (.tmp 2) (.tmp 11), none⟩,
 ⟨(some 13), .load (some 4) (.tmp 12), none⟩,
 ⟨(some 14), .mov (.tmp 5), none⟩,
 ⟨(some 15), .iaddrA 4 4 (.tmp 3) (.tmp 14), none⟩,
 ⟨(some 16), .load (some 4) (.tmp 15), none⟩,
 ⟨(some 17), .call (.func 159) [(.tmp 13), (.tmp 16)] .pure, none⟩,
 ⟨(some 18), .un .not (.tmp 17), none⟩]) (
 .trim [2, 3, 8, 18] [2, 3] [] (
 .cond (.tmp 18) (
 .seq (
 .reg [⟨(some 4), .mov (.const (.bool false)), none⟩]) (
 .ret)) (
 .skip))))))) (
 .trim [2, 3, 8] [2, 3] [] (
 .reg [⟨(some 19), .bin .add (.tmp 8) (.const (.int .i64 1)), none⟩,
 ⟨(some 8), .mov (.tmp 19), none⟩])))))))))))) (
 .trim [] [] [] (
 .seq (
 .reg [⟨(some 4), .mov (.const (.bool true)), none⟩]) (
 .ret)))))))
theorem r147 : Runs Tryz.prog 147 m147.strip [.mov (.tmp 4)] 20 := ⟨by kernel_rfl, by kernel_rfl, Tryz.f147, Tryz.f147.body.getD .skip, Tryz.func147, by kernel_rfl, by kernel_rfl, by kernel_rfl, by kernel_rfl, by kernel_rfl⟩

end Go.Proofs

