/- The functions, as code of the value machine (printed by program). -/
import Derived.Test.YtipppgiimemloaaGreatVh6
import Derived.Test.YtipppgiimemloaaGreatProg
set_option linter.unusedVariables false
set_option maxRecDepth 2000
namespace Go.Proofs
open Go.Vm
def m28 : MC :=
 .seq (
 .reg [⟨(some 2), .mov (.const (.string ⟨#[]⟩)), none⟩,
 ⟨(some 3), .mov (.const (.int .i64 0)), none⟩]) (
 .trim [0] [] [] (
 .seq (
 .seq (
 .reg [⟨(some 4), .mov (.tmp 0), none⟩,
 ⟨(some 5), .call (.func 45) [(.tmp 4)] .pure, none⟩,
 ⟨(some 6), .un .not (.tmp 5), none⟩]) (
 .trim [0, 6] [] [] (
 .cond (.tmp 6) (
 .seq (
 .reg [⟨(some 2), .mov (.const (.string ⟨#[]⟩)), none⟩,
 ⟨(some 3), .mov (.const (.int .i64 1)), none⟩]) (
 .ret)) (
 .skip)))) (
 .trim [0] [] [] (
 .seq (
 .reg [⟨(some 7), .mov (.tmp 0), none⟩,
 ⟨(some 8), .call (.func 31) [(.tmp 7)] .pure, none⟩,
 ⟨(some 2), .mov (.tmp 8), none⟩,
 ⟨(some 3), .mov (.const (.int .i64 0)), none⟩]) (
 .ret)))))
theorem r28 : Runs Tryz.prog 28 m28.strip [.mov (.tmp 2), .mov (.tmp 3)] 9 := ⟨by kernel_rfl, by kernel_rfl, Tryz.f28, Tryz.f28.body.getD .skip, Tryz.func28, by kernel_rfl, by kernel_rfl, by kernel_rfl, by kernel_rfl, by kernel_rfl⟩

def m31 : MH :=
 .seq (
 .pure (
 .reg [⟨(some 2), .mov (.const (.string ⟨#[]⟩)), none⟩])) (
 .trim [0] [] [] (
 .seq (
 .reg [([], (.new 6 [(.val (.pointer none)), (.sl none [])] 95 2 7))] [⟨(some 3), .mov (.tmp 7), none⟩]) (
 .trim [0, 3] [7] [] (
 .seq (
 .reg [([⟨(some 8), .mov (.tmp 3), none⟩, ⟨(some 9), .mov (.tmp 0), none⟩, ⟨(some 10), .lenL (.tmp 9), none⟩, ⟨(some 11), .conv .u64 (.tmp 10), none⟩, ⟨(some 12), .call (.func 68) [(.tmp 11)] .pure, none⟩], (.call (some 13) 67 [(.tmp 8), (.tmp 12)]))] []) (
 .trim [0, 3] [7] [] (
 .seq (
 .seq (
 .pure (
 .reg [⟨(some 14), .mov (.tmp 0), none⟩,
 ⟨(some 15), .lenL (.tmp 14), none⟩,
 ⟨(some 16), .mov (.const (.int .i64 0)), none⟩])) (
 .trim [0, 3, 15, 16] [7] [] (
 .block 0 (
 .loop (
 .trim [0, 3, 15, 16] [7] [] (
 .seq (
 .pure (
 .reg [⟨(some 17), .bin .lss (.tmp 16) (.tmp 15), none⟩])) (
 .trim [0, 3, 15, 16, 17] [7] [] (
 .seq (
 .pure (
 .cond (.tmp 17) (
 .skip) (
 .exit 0))) (
 .trim [0, 3, 15, 16] [7] [] (
 .seq (
 .block 1 (
 .seq (
 .pure (
 .reg [⟨(some 18), .mov (.tmp 16), none⟩,
 ⟨(some 4), .mov (.tmp 18), none⟩])) (
 .trim [0, 3, 4, 15, 16] [7] [] (
 .seq (
 .pure (
 .reg [⟨(some 19), .mov (.const (.int .i64 0)), none⟩])) (
 .trim [0, 3, 4, 15, 16, 19] [7] [] (
 .block 2 (
 .loop (
 .trim [0, 3, 4, 15, 16, 19] [7] [] (
 .seq (
 .pure (
 .reg [⟨(some 20), .bin .lss (.tmp 19) (.const (.int .i64 4)), none⟩])) (
 .trim [0, 3, 4, 15, 16, 19, 20] [7] [] (
 .seq (
 .pure (
 .cond (.tmp 20) (
 .skip) (
 .exit 2))) (
 .trim [0, 3, 4, 15, 16, 19] [7] [] (
 .seq (
 .block 3 (
 .seq (
 .pure (
 .reg [⟨(some 21), .mov (.tmp 19), none⟩,
 ⟨(some 5), .mov (.tmp 21), none⟩])) (
 .trim [0, 3, 4, 5, 15, 16, 19] [7] [] (
 .reg [([⟨(some 22), .mov (.tmp 3), none⟩, ⟨(some 23), .mov (.tmp 0), none⟩, ⟨(some 24), .mov (.tmp 4), none⟩, ⟨(some 25), .mov (.tmp 5), none⟩, ⟨(some 26), .iaddrS 16 (.tmp 23) (.tmp 24), none⟩, ⟨(some 27), .iaddrA 4 4 (.tmp 26) (.tmp 25), none⟩], (.call (some 28) 69 [(.tmp 22), (.tmp 27)]))] [])))) (
 .pure (
 .trim [0, 3, 4, 15, 16, 19] [7] [] (
 .reg [⟨(some 29), .bin .add (.tmp 19) (.const (.int .i64 1)), none⟩,
 ⟨(some 19), .mov (.tmp 29), none⟩])))))))))))))))) (
 .pure (
 .trim [0, 3, 15, 16] [7] [] (
 .reg [⟨(some 30), .bin .add (.tmp 16) (.const (.int .i64 1)), none⟩,
 ⟨(some 16), .mov (.tmp 30), none⟩]))))))))))))) (
 .trim [3] [7] [] (
 .seq (
 .reg [([⟨(some 31), .mov (.tmp 3), none⟩], (.call (some 32) 70 [(.tmp 31)]))] [⟨(some 2), .mov (.tmp 32), none⟩]) (
 .pure (
 .ret))))))))))
theorem r31 : Runs Tryz.prog 31 m31.flat.strip [.mov (.tmp 2)] 33 := ⟨by kernel_rfl, by kernel_rfl, Tryz.f31, Tryz.f31.body.getD .skip, Tryz.func31, by kernel_rfl, by kernel_rfl, by kernel_rfl, by kernel_rfl, by kernel_rfl⟩

def m35 : MH :=
 .seq (
 .pure (
 .reg [⟨(some 1), .box 42 12 (.tmp 0), none⟩,
 ⟨(some 2), .mov (.const (.string ⟨#[]⟩)), none⟩])) (
 .trim [1] [1] [] (
 .seq (
 .reg [([], (.new 6 [(.val (.pointer none)), (.sl none [])] 95 2 7))] [⟨(some 3), .mov (.tmp 7), none⟩]) (
 .trim [1, 3] [1, 7] [] (
 .seq (
 .seq (
 .pure (
 .reg [⟨(some 8), .load (some 12) (.tmp 1), none⟩,
 ⟨(some 9), .mov (.const (.int .i64 0)), none⟩])) (
 .trim [3, 8, 9] [7] [] (
 .block 0 (
 .loop (
 .trim [3, 8, 9] [7] [] (
 .seq (
 .pure (
 .reg [⟨(some 10), .bin .lss (.tmp 9) (.const (.int .i64 4)), none⟩])) (
 .trim [3, 8, 9, 10] [7] [] (
 .seq (
 .pure (
 .cond (.tmp 10) (
 .skip) (
 .exit 0))) (
 .trim [3, 8, 9] [7] [] (
 .seq (
 .block 1 (
 .seq (
 .pure (
 .reg [⟨(some 11), .idxA 4 3 true (.tmp 8) (.tmp 9), none⟩,
 ⟨(some 5), .alloc 40 [(.val (.int .i64 0)), (.val (.int .i64 0)), (.val (.string ⟨#[]⟩))], none⟩,
 ⟨none, .store 3 (.tmp 5) (.tmp 11), none⟩])) (
 .trim [3, 5, 8, 9] [5, 7] [] (
 .seq (
 .reg [([⟨(some 12), .mov (.tmp 3), none⟩, ⟨(some 13), .faddr 0 (.tmp 5), none⟩, ⟨(some 14), .load none (.tmp 13), none⟩, ⟨(some 15), .conv .u8 (.tmp 14), none⟩], (.call (some 16) 74 [(.tmp 12), (.tmp 15)]))] []) (
 .trim [3, 5, 8, 9] [5, 7] [] (
 .seq (
 .pure (
 .reg [⟨(some 17), .faddr 0 (.tmp 5), none⟩,
 ⟨(some 18), .load none (.tmp 17), none⟩])) (
 .trim [3, 5, 8, 9, 18] [5, 7] [] (
 .block 2 (
 .seq (
 .pure (
 .reg [⟨(some 20), .bin .eql (.tmp 18) (.const (.int .i64 1)), none⟩,
 ⟨(some 19), .mov (.tmp 20), none⟩])) (
 .trim [3, 5, 8, 9, 18, 19] [5, 7] [] (
 .cond (.tmp 19) (
 .reg [([⟨(some 21), .mov (.tmp 3), none⟩, ⟨(some 22), .faddr 1 (.tmp 5), none⟩, ⟨(some 23), .load none (.tmp 22), none⟩, ⟨(some 24), .call (.func 75) [(.tmp 23)] .pure, none⟩], (.call (some 25) 67 [(.tmp 21), (.tmp 24)]))] []) (
 .seq (
 .pure (
 .reg [⟨(some 27), .bin .eql (.tmp 18) (.const (.int .i64 2)), none⟩,
 ⟨(some 26), .mov (.tmp 27), none⟩])) (
 .trim [3, 5, 8, 9, 26] [5, 7] [] (
 .cond (.tmp 26) (
 .reg [([⟨(some 28), .mov (.tmp 3), none⟩, ⟨(some 29), .faddr 2 (.tmp 5), none⟩, ⟨(some 30), .load none (.tmp 29), none⟩, ⟨(some 31), .call (.func 76) [(.tmp 30)] .pure, none⟩], (.call (some 32) 67 [(.tmp 28), (.tmp 31)]))] []) (
 .pure (
 .skip)))))))))))))))) (
 .pure (
 .trim [3, 8, 9] [7] [] (
 .reg [⟨(some 33), .bin .add (.tmp 9) (.const (.int .i64 1)), none⟩,
 ⟨(some 9), .mov (.tmp 33), none⟩]))))))))))))) (
 .trim [3] [7] [] (
 .seq (
 .reg [([⟨(some 34), .mov (.tmp 3), none⟩], (.call (some 35) 70 [(.tmp 34)]))] [⟨(some 2), .mov (.tmp 35), none⟩]) (
 .pure (
 .ret))))))))
theorem r35 : Runs Tryz.prog 35 m35.flat.strip [.mov (.tmp 2)] 36 := ⟨by kernel_rfl, by kernel_rfl, Tryz.f35, Tryz.f35.body.getD .skip, Tryz.func35, by kernel_rfl, by kernel_rfl, by kernel_rfl, by kernel_rfl, by kernel_rfl⟩

def m36 : MC :=
 .seq (
 .reg [⟨(some 1), .box 42 12 (.tmp 0), none⟩,
 ⟨(some 2), .mov (.const (.string ⟨#[]⟩)), none⟩,
 ⟨(some 3), .mov (.const (.int .i64 0)), none⟩]) (
 .trim [1] [1] [] (
 .seq (
 .seq (
 .reg [⟨(some 4), .load (some 12) (.tmp 1), none⟩,
 ⟨(some 5), .call (.func 59) [(.tmp 4)] .pure, none⟩,
 ⟨(some 6), .un .not (.tmp 5), none⟩]) (
 .trim [1, 6] [1] [] (
 .cond (.tmp 6) (
 .seq (
 .reg [⟨(some 2), .mov (.const (.string ⟨#[]⟩)), none⟩,
 ⟨(some 3), .mov (.const (.int .i64 1)), none⟩]) (
 .ret)) (
 .skip)))) (
 .trim [1] [1] [] (
 .seq (
 .reg [⟨(some 7), .load (some 12) (.tmp 1), none⟩,
 ⟨(some 8), .call (.func 35) [(.tmp 7)] .pure, none⟩,
 ⟨(some 2), .mov (.tmp 8), none⟩,
 ⟨(some 3), .mov (.const (.int .i64 0)), none⟩]) (
 .ret)))))
theorem r36 : Runs Tryz.prog 36 m36.strip [.mov (.tmp 2), .mov (.tmp 3)] 9 := ⟨by kernel_rfl, by kernel_rfl, Tryz.f36, Tryz.f36.body.getD .skip, Tryz.func36, by kernel_rfl, by kernel_rfl, by kernel_rfl, by kernel_rfl, by kernel_rfl⟩

def m68 : MC :=
 .seq (
 .reg [⟨(some 2), .mov (.const (.string ⟨#[]⟩)), none⟩]) (
 .trim [0] [] [] (
 .seq (
 .reg [⟨(some 3), .alloc 136 [(.val (.int .u8 0)), (.val (.int .u8 0)), (.val (.int .u8 0)), (.val (.int .u8 0)), (.val (.int .u8 0)), (.val (.int .u8 0)), (.val (.int .u8 0)), (.val (.int .u8 0)), (.val (.int .u8 0)), (.val (.int .u8 0))], none⟩]) (
 .trim [0, 3] [3] [] (
 .seq (
 .reg [⟨(some 4), .mov (.const (.int .i64 9)), none⟩]) (
 .trim [0, 3, 4] [3] [] (
 .seq (
 .reg [⟨(some 5), .mov (.tmp 4), none⟩,
 ⟨(some 6), .mov (.tmp 0), none⟩,
 ⟨(some 7), .bin .rem (.tmp 6) (.const (.int .u64 128)), none⟩,
 ⟨(some 8), .conv .u8 (.tmp 7), none⟩,
 ⟨(some 9), .iaddrA 10 1 (.tmp 3) (.tmp 5), none⟩,
 ⟨none, .store 1 (.tmp 9) (.tmp 8), none⟩]) (
 .trim [0, 3, 4] [3] [] (
 .seq (
 .seq (
 .reg [⟨(some 10), .mov (.tmp 0), none⟩,
 ⟨(some 11), .bin .quo (.tmp 10) (.const (.int .u64 128)), none⟩,
 ⟨(some 0), .mov (.tmp 11), none⟩]) (
 .trim [0, 3, 4] [3] [] (
 .block 0 (
 .loop (
 .trim [0, 3, 4] [3] [] (
 .seq (
 .seq (
 .reg [⟨(some 12), .mov (.tmp 0), none⟩,
 ⟨(some 13), .bin .gtr (.tmp 12) (.const (.int .u64 0)), none⟩]) (
 .trim [0, 3, 4, 13] [3] [] (
 .cond (.tmp 13) (
 .skip) (
 .exit 0)))) (
 .trim [0, 3, 4] [3] [] (
 .seq (
 .block 1 (
 .seq (
 .reg [⟨(some 16), .mov (.tmp 4), none⟩,
 ⟨(some 17), .bin .sub (.tmp 16) (.const (.int .i64 1)), none⟩,
 ⟨(some 4), .mov (.tmp 17), none⟩]) (
 .trim [0, 3, 4] [3] [] (
 .reg [⟨(some 18), .mov (.tmp 4), none⟩,
 ⟨(some 19), .mov (.tmp 0), none⟩,
 ⟨(some 20), .bin .rem (.tmp 19) (.const (.int .u64 128)), none⟩,
 ⟨(some 21), .conv .u8 (.tmp 20), none⟩,
 ⟨(some 22), .bin .or (.tmp 21) (.const (.int .u8 128)), none⟩,
 ⟨(some 23), .iaddrA 10 1 (.tmp 3) (.tmp 18), none⟩,
 ⟨none, .store 1 (.tmp 23) (.tmp 22), none⟩])))) (
 .trim [0, 3, 4] [3] [] (
 .reg [⟨(some 14), .mov (.tmp 0), none⟩,
 ⟨(some 15), .bin .quo (.tmp 14) (.const (.int .u64 128)), none⟩,
 ⟨(some 0), .mov (.tmp 15), none⟩])))))))))) (
 .trim [3, 4] [3] [] (
 .fzb 3 (
 .seq (
 .reg [⟨(some 24), .mov (.tmp 4), none⟩,
 ⟨(some 25), .slcA 10 (.tmp 3) (some (.tmp 24)) none, none⟩,
 ⟨(some 26), .b2s (.tmp 25), none⟩,
 ⟨(some 2), .mov (.tmp 26), none⟩]) (
 .ret))))))))))))
theorem r68 : Runs Tryz.prog 68 m68.strip [.mov (.tmp 2)] 27 := ⟨by kernel_rfl, by kernel_rfl, Tryz.f68, Tryz.f68.body.getD .skip, Tryz.func68, by kernel_rfl, by kernel_rfl, by kernel_rfl, by kernel_rfl, by kernel_rfl⟩

def m69 : MH :=
 .seq (
 .reg [([⟨(some 8), .mov (.tmp 0), none⟩, ⟨(some 9), .mov (.tmp 1), none⟩, ⟨(some 10), .call (.func 110) [(.tmp 9)] .pure, none⟩], (.call (some 11) 74 [(.tmp 8), (.tmp 10)]))] []) (
 .trim [0, 1] [] [] (
 .seq (
 .reg [([⟨(some 12), .mov (.tmp 0), none⟩, ⟨(some 13), .mov (.tmp 1), none⟩, ⟨(some 14), .nilck (.tmp 13), none⟩, ⟨(some 15), .faddr 1 (.tmp 14), none⟩, ⟨(some 16), .load none (.tmp 15), none⟩, ⟨(some 17), .lenL (.tmp 16), none⟩, ⟨(some 18), .conv .u64 (.tmp 17), none⟩, ⟨(some 19), .call (.func 68) [(.tmp 18)] .pure, none⟩], (.call (some 20) 67 [(.tmp 12), (.tmp 19)]))] []) (
 .trim [0, 1] [] [] (
 .seq (
 .seq (
 .pure (
 .reg [⟨(some 21), .mov (.tmp 1), none⟩,
 ⟨(some 22), .nilck (.tmp 21), none⟩,
 ⟨(some 23), .faddr 1 (.tmp 22), none⟩,
 ⟨(some 24), .load none (.tmp 23), none⟩,
 ⟨(some 25), .lenL (.tmp 24), none⟩,
 ⟨(some 26), .mov (.const (.int .i64 0)), none⟩])) (
 .trim [0, 1, 24, 25, 26] [] [] (
 .block 0 (
 .loop (
 .trim [0, 1, 24, 25, 26] [] [] (
 .seq (
 .pure (
 .reg [⟨(some 27), .bin .lss (.tmp 26) (.tmp 25), none⟩])) (
 .trim [0, 1, 24, 25, 26, 27] [] [] (
 .seq (
 .pure (
 .cond (.tmp 27) (
 .skip) (
 .exit 0))) (
 .trim [0, 1, 24, 25, 26] [] [] (
 .seq (
 .block 1 (
 .seq (
 .pure (
 .reg [⟨(some 28), .iaddrS 2 (.tmp 24) (.tmp 26), none⟩,
 ⟨(some 29), .load (some 2) (.tmp 28), none⟩,
 ⟨(some 5), .alloc 114 [(.val (.int .i64 0)), (.val (.int .i64 0))], none⟩,
 ⟨none, .store 2 (.tmp 5) (.tmp 29), none⟩])) (
 .trim [0, 1, 5, 24, 25, 26] [5] [] (
 .dreg 8 [⟨(some 30), .mov (.tmp 0), none⟩,
 ⟨(some 31), .faddr 0 (.tmp 5), none⟩,
 ⟨(some 32), .load none (.tmp 31), none⟩,
 ⟨(some 33), .call (.func 75) [(.tmp 32)] .pure, none⟩,
 ⟨(some 34), .faddr 1 (.tmp 5), none⟩,
 ⟨(some 35), .load none (.tmp 34), none⟩,
 ⟨(some 36), .call (.func 75) [(.tmp 35)] .pure, none⟩,
 ⟨(some 37), .bin .add (.tmp 33) (.tmp 36), none⟩] (some 38) 67 [(.tmp 30), (.tmp 37)])))) (
 .pure (
 .trim [0, 1, 24, 25, 26] [] [] (
 .reg [⟨(some 39), .bin .add (.tmp 26) (.const (.int .i64 1)), none⟩,
 ⟨(some 26), .mov (.tmp 39), none⟩]))))))))))))) (
 .trim [0, 1] [] [] (
 .seq (
 .reg [([⟨(some 40), .mov (.tmp 0), none⟩, ⟨(some 41), .mov (.tmp 1), none⟩, ⟨(some 42), .nilck (.tmp 41), none⟩, ⟨(some 43), .faddr 3 (.tmp 42), none⟩, ⟨(some 44), .load none (.tmp 43), none⟩, ⟨(some 45), .lenL (.tmp 44), none⟩, ⟨(some 46), .conv .u64 (.tmp 45), none⟩, ⟨(some 47), .call (.func 68) [(.tmp 46)] .pure, none⟩], (.call (some 48) 67 [(.tmp 40), (.tmp 47)]))] []) (
 .trim [0, 1] [] [] (
 .seq (
 .pure (
 .reg [⟨(some 49), .mov (.tmp 1), none⟩,
 ⟨(some 50), .nilck (.tmp 49), none⟩,
 ⟨(some 51), .faddr 3 (.tmp 50), none⟩,
 ⟨(some 52), .load none (.tmp 51), none⟩,
 ⟨(some 53), .lenL (.tmp 52), none⟩,
 ⟨(some 54), .mov (.const (.int .i64 0)), none⟩])) (
 .trim [0, 52, 53, 54] [] [] (
 .block 2 (
 .loop (
 .trim [0, 52, 53, 54] [] [] (
 .seq (
 .pure (
 .reg [⟨(some 55), .bin .lss (.tmp 54) (.tmp 53), none⟩])) (
 .trim [0, 52, 53, 54, 55] [] [] (
 .seq (
 .pure (
 .cond (.tmp 55) (
 .skip) (
 .exit 2))) (
 .trim [0, 52, 53, 54] [] [] (
 .seq (
 .block 3 (
 .seq (
 .pure (
 .reg [⟨(some 56), .iaddrS 1 (.tmp 52) (.tmp 54), none⟩,
 ⟨(some 57), .load none (.tmp 56), none⟩,
 ⟨(some 7), .mov (.tmp 57), none⟩])) (
 .trim [0, 7, 52, 53, 54] [] [] (
 .reg [([⟨(some 58), .mov (.tmp 0), none⟩, ⟨(some 59), .mov (.tmp 7), none⟩, ⟨(some 60), .call (.func 76) [(.tmp 59)] .pure, none⟩], (.call (some 61) 67 [(.tmp 58), (.tmp 60)]))] [])))) (
 .pure (
 .trim [0, 52, 53, 54] [] [] (
 .reg [⟨(some 62), .bin .add (.tmp 54) (.const (.int .i64 1)), none⟩,
 ⟨(some 54), .mov (.tmp 62), none⟩]))))))))))))))))))))
theorem r69 : Runs Tryz.prog 69 m69.flat.strip [] 63 := ⟨by kernel_rfl, by kernel_rfl, Tryz.f69, Tryz.f69.body.getD .skip, Tryz.func69, by kernel_rfl, by kernel_rfl, by kernel_rfl, by kernel_rfl, by kernel_rfl⟩

def m75 : MC :=
 .seq (
 .reg [⟨(some 2), .mov (.const (.string ⟨#[]⟩)), none⟩]) (
 .trim [0] [] [] (
 .seq (
 .reg [⟨(some 3), .mov (.tmp 0), none⟩,
 ⟨(some 4), .call (.func 119) [(.tmp 3)] .pure, none⟩,
 ⟨(some 5), .call (.func 68) [(.tmp 4)] .pure, none⟩,
 ⟨(some 2), .mov (.tmp 5), none⟩]) (
 .ret)))
theorem r75 : Runs Tryz.prog 75 m75.strip [.mov (.tmp 2)] 6 := ⟨by kernel_rfl, by kernel_rfl, Tryz.f75, Tryz.f75.body.getD .skip, Tryz.func75, by kernel_rfl, by kernel_rfl, by kernel_rfl, by kernel_rfl, by kernel_rfl⟩

def m76 : MC :=
 .seq (
 .reg [⟨(some 2), .mov (.const (.string ⟨#[]⟩)), none⟩]) (
 .trim [0] [] [] (
 .seq (
 .reg [⟨(some 3), .mov (.tmp 0), none⟩,
 ⟨(some 4), .lenS (.tmp 3), none⟩,
 ⟨(some 5), .conv .u64 (.tmp 4), none⟩,
 ⟨(some 6), .call (.func 68) [(.tmp 5)] .pure, none⟩,
 ⟨(some 7), .mov (.tmp 0), none⟩,
 ⟨(some 8), .bin .add (.tmp 6) (.tmp 7), none⟩,
 ⟨(some 2), .mov (.tmp 8), none⟩]) (
 .ret)))
theorem r76 : Runs Tryz.prog 76 m76.strip [.mov (.tmp 2)] 9 := ⟨by kernel_rfl, by kernel_rfl, Tryz.f76, Tryz.f76.body.getD .skip, Tryz.func76, by kernel_rfl, by kernel_rfl, by kernel_rfl, by kernel_rfl, by kernel_rfl⟩

def m110 : MC :=
 .seq (
 .reg [⟨(some 2), .mov (.const (.int .u8 0)), none⟩]) (
 .trim [0, 2] [] [] (
 .seq (
 .seq (
 .reg [⟨(some 3), .mov (.tmp 0), none⟩,
 ⟨(some 4), .nilck (.tmp 3), none⟩,
 ⟨(some 5), .faddr 0 (.tmp 4), none⟩,
 ⟨(some 6), .load none (.tmp 5), none⟩]) (
 .trim [0, 2, 6] [] [] (
 .cond (.tmp 6) (
 .reg [⟨(some 7), .mov (.tmp 2), none⟩,
 ⟨(some 8), .bin .or (.tmp 7) (.const (.int .u8 1)), none⟩,
 ⟨(some 2), .mov (.tmp 8), none⟩]) (
 .skip)))) (
 .trim [0, 2] [] [] (
 .seq (
 .seq (
 .reg [⟨(some 9), .mov (.tmp 0), none⟩,
 ⟨(some 10), .nilck (.tmp 9), none⟩,
 ⟨(some 11), .faddr 2 (.tmp 10), none⟩,
 ⟨(some 12), .load none (.tmp 11), none⟩]) (
 .trim [2, 12] [] [] (
 .cond (.tmp 12) (
 .reg [⟨(some 13), .mov (.tmp 2), none⟩,
 ⟨(some 14), .bin .or (.tmp 13) (.const (.int .u8 2)), none⟩,
 ⟨(some 2), .mov (.tmp 14), none⟩]) (
 .skip)))) (
 .trim [2] [] [] (
 .seq (
 .reg [⟨(some 15), .mov (.tmp 2), none⟩,
 ⟨(some 2), .mov (.tmp 15), none⟩]) (
 .ret)))))))
theorem r110 : Runs Tryz.prog 110 m110.strip [.mov (.tmp 2)] 16 := ⟨by kernel_rfl, by kernel_rfl, Tryz.f110, Tryz.f110.body.getD .skip, Tryz.func110, by kernel_rfl, by kernel_rfl, by kernel_rfl, by kernel_rfl, by kernel_rfl⟩

def m119 : MC :=
 .seq (
 .reg [⟨(some 2), .mov (.const (.int .u64 0)), none⟩]) (
 .trim [0] [] [] (
 .seq (
 .seq (
 .reg [⟨(some 3), .mov (.tmp 0), none⟩,
 ⟨(some 4), .bin .lss (.tmp 3) (.const (.int .i64 0)), none⟩]) (
 .trim [0, 4] [] [] (
 .cond (.tmp 4) (
 .seq (
 .reg [⟨(some 5), .mov (.tmp 0), none⟩,
 ⟨(some 6), .un .xor (.tmp 5), none⟩,
 ⟨(some 7), .conv .u64 (.tmp 6), none⟩,
 ⟨(some 8), .bin .shl (.tmp 7) (.const (.int .u64 1)), none⟩,
 ⟨(some 9), .bin .or (.tmp 8) (.const (.int .u64 1)), none⟩,
 ⟨(some 2), .mov (.tmp 9), none⟩]) (
 .ret)) (
 .skip)))) (
 .trim [0] [] [] (
 .seq (
 .reg [⟨(some 10), .mov (.tmp 0), none⟩,
 ⟨(some 11), .conv .u64 (.tmp 10), none⟩,
 ⟨(some 12), .bin .shl (.tmp 11) (.const (.int .u64 1)), none⟩,
 ⟨(some 2), .mov (.tmp 12), none⟩]) (
 .ret)))))
theorem r119 : Runs Tryz.prog 119 m119.strip [.mov (.tmp 2)] 13 := ⟨by kernel_rfl, by kernel_rfl, Tryz.f119, Tryz.f119.body.getD .skip, Tryz.func119, by kernel_rfl, by kernel_rfl, by kernel_rfl, by kernel_rfl, by kernel_rfl⟩

def m144 : MC :=
 .seq (
 .reg [⟨(some 2), .mov (.const (.int .i64 0)), none⟩]) (
 .trim [0] [] [] (
 .seq (
 .seq (
 .reg [⟨(some 3), .mov (.tmp 0), none⟩,
 ⟨(some 4), .bin .and (.tmp 3) (.const (.int .u64 1)), none⟩,
 ⟨(some 5), .bin .eql (.tmp 4) (.const (.int .u64 1)), none⟩]) (
 .trim [0, 5] [] [] (
 .cond (.tmp 5) (
 .seq (
 .reg [⟨(some 6), .mov (.tmp 0), none⟩,
 ⟨(some 7), .bin .shr (.tmp 6) (.const (.int .u64 1)), none⟩,
 ⟨(some 8), .conv .i64 (.tmp 7), none⟩,
 ⟨(some 9), .un .xor (.tmp 8), none⟩,
 ⟨(some 2), .mov (.tmp 9), none⟩]) (
 .ret)) (
 .skip)))) (
 .trim [0] [] [] (
 .seq (
 .reg [⟨(some 10), .mov (.tmp 0), none⟩,
 ⟨(some 11), .bin .shr (.tmp 10) (.const (.int .u64 1)), none⟩,
 ⟨(some 12), .conv .i64 (.tmp 11), none⟩,
 ⟨(some 2), .mov (.tmp 12), none⟩]) (
 .ret)))))
theorem r144 : Runs Tryz.prog 144 m144.strip [.mov (.tmp 2)] 13 := ⟨by kernel_rfl, by kernel_rfl, Tryz.f144, Tryz.f144.body.getD .skip, Tryz.func144, by kernel_rfl, by kernel_rfl, by kernel_rfl, by kernel_rfl, by kernel_rfl⟩

end Go.Proofs

