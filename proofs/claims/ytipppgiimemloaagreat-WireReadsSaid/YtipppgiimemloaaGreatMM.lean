/- A part of the proof; what is proved stands in the last text. -/
import Derived.Test.YtipppgiimemloaaGreatVh6
import Derived.Test.YtipppgiimemloaaGreatProg
import Derived.Test.YtipppgiimemloaaGreatVm24
set_option linter.unusedVariables false
set_option maxRecDepth 2000
namespace Go.Proofs
open Go.Vm
def m28 : MC :=
 .seq (
 .reg [⟨(some 2), .mov (.const (.string ⟨#[]⟩)), none⟩,
 ⟨(some 3), .mov (.const (.int .i64 0)), none⟩]) (
 .trim [0] [] [] (
 .seq (
 .seq (
 .reg [⟨(some 4), .mov (.tmp 0), none⟩,
 ⟨(some 5), .call (.func 45) [(.tmp 4)] .pure, none⟩,
 ⟨(some 6), .un .not (.tmp 5), none⟩]) (
 .trim [0, 6] [] [] (
 .cond (.tmp 6) (
 .seq (
 .reg [⟨(some 2), .mov (.const (.string ⟨#[]⟩)), none⟩,
 ⟨(some 3), .mov (.const (.int .i64 1)), none⟩]) (
 .ret)) (
 .skip)))) (
 .trim [0] [] [] (
 .seq (
 .reg [⟨(some 7), .mov (.tmp 0), none⟩,
 ⟨(some 8), .call (.func 31) [(.tmp 7)] .pure, none⟩,
 ⟨(some 2), .mov (.tmp 8), none⟩,
 ⟨(some 3), .mov (.const (.int .i64 0)), none⟩]) (
 .ret)))))
theorem r28 : Runs Tryz.prog 28 m28.strip [.mov (.tmp 2), .mov (.tmp 3)] 9 := ⟨by kernel_rfl, by kernel_rfl, Tryz.f28, Tryz.f28.body.getD .skip, Tryz.func28, by kernel_rfl, by kernel_rfl, by kernel_rfl, by kernel_rfl, by kernel_rfl⟩

def m31 : MH :=
 .seq (
 .pure (
 .reg [⟨(some 2), .mov (.const (.string ⟨#[]⟩)), none⟩])) (
 .trim [0] [] [] (
 .seq (
 .reg [([], (.new 6 [(.val (.pointer none)), (.sl none [])] 95 2 7))] [⟨(some 3), .mov (.tmp 7), none⟩]) (
 .trim [0, 3] [7] [] (
 .seq (
 .reg [([⟨(some 8), .mov (.tmp 3), none⟩, ⟨(some 9), .mov (.tmp 0), none⟩, ⟨(some 10), .lenL (.tmp 9), none⟩, ⟨(some 11), .conv .u64 (.tmp 10), none⟩, ⟨(some 12), .call (.func 68) [(.tmp 11)] .pure, none⟩], (.call (some 13) 67 [(.tmp 8), (.tmp 12)]))] []) (
 .trim [0, 3] [7] [] (
 .seq (
 .seq (
 .pure (
 .reg [⟨(some 14), .mov (.tmp 0), none⟩,
 ⟨(some 15), .lenL (.tmp 14), none⟩,
 ⟨(some 16), .mov (.const (.int .i64 0)), none⟩])) (
 .trim [0, 3, 15, 16] [7] [] (
 .block 0 (
 .loop (
 .trim [0, 3, 15, 16] [7] [] (
 .seq (
 .pure (
 .reg [⟨(some 17), .bin .lss (.tmp 16) (.tmp 15), none⟩])) (
 .trim [0, 3, 15, 16, 17] [7] [] (
 .seq (
 .pure (
 .cond (.tmp 17) (
 .skip) (
 .exit 0))) (
 .trim [0, 3, 15, 16] [7] [] (
 .seq (
 .block 1 (
 .seq (
 .pure (
 .reg [⟨(some 18), .mov (.tmp 16), none⟩,
 ⟨(some 4), .mov (.tmp 18), none⟩])) (
 .trim [0, 3, 4, 15, 16] [7] [] (
 .seq (
 .pure (
 .reg [⟨(some 19), .mov (.const (.int .i64 0)), none⟩])) (
 .trim [0, 3, 4, 15, 16, 19] [7] [] (
 .block 2 (
 .loop (
 .trim [0, 3, 4, 15, 16, 19] [7] [] (
 .seq (
 .pure (
 .reg [⟨(some 20), .bin .lss (.tmp 19) (.const (.int .i64 4)), none⟩])) (
 .trim [0, 3, 4, 15, 16, 19, 20] [7] [] (
 .seq (
 .pure (
 .cond (.tmp 20) (
 .skip) (
 .exit 2))) (
 .trim [0, 3, 4, 15, 16, 19] [7] [] (
 .seq (
 .block 3 (
 .seq (
 .pure (
 .reg [⟨(some 21), .mov (.tmp 19), none⟩,
 ⟨(some 5), .mov (.tmp 21), none⟩])) (
 .trim [0, 3, 4, 5, 15, 16, 19] [7] [] (
 .reg [([⟨(some 22), .mov (.tmp 3), none⟩, ⟨(some 23), .mov (.tmp 0), none⟩, ⟨(some 24), .mov (.tmp 4), none⟩, ⟨(some 25), .mov (.tmp 5), none⟩, ⟨(some 26), .iaddrS 16 (.tmp 23) (.tmp 24), none⟩, ⟨(some 27), .iaddrA 4 4 (.tmp 26) (.tmp 25), none⟩], (.call (some 28) 69 [(.tmp 22), (.tmp 27)]))] [])))) (
 .pure (
 .trim [0, 3, 4, 15, 16, 19] [7] [] (
 .reg [⟨(some 29), .bin .add (.tmp 19) (.const (.int .i64 1)), none⟩,
 ⟨(some 19), .mov (.tmp 29), none⟩])))))))))))))))) (
 .pure (
 .trim [0, 3, 15, 16] [7] [] (
 .reg [⟨(some 30), .bin .add (.tmp 16) (.const (.int .i64 1)), none⟩,
 ⟨(some 16), .mov (.tmp 30), none⟩]))))))))))))) (
 .trim [3] [7] [] (
 .seq (
 .reg [([⟨(some 31), .mov (.tmp 3), none⟩], (.call (some 32) 70 [(.tmp 31)]))] [⟨(some 2), .mov (.tmp 32), none⟩]) (
 .pure (
 .ret))))))))))
theorem r31 : Runs Tryz.prog 31 m31.flat.strip [.mov (.tmp 2)] 33 := ⟨by kernel_rfl, by kernel_rfl, Tryz.f31, Tryz.f31.body.getD .skip, Tryz.func31, by kernel_rfl, by kernel_rfl, by kernel_rfl, by kernel_rfl, by kernel_rfl⟩

def m35 : MH :=
 .seq (
 .pure (
 .reg [⟨(some 1), .box 42 12 (.tmp 0), none⟩,
 ⟨(some 2), .mov (.const (.string ⟨#[]⟩)), none⟩])) (
 .trim [1] [1] [] (
 .seq (
 .reg [([], (.new 6 [(.val (.pointer none)), (.sl none [])] 95 2 7))] [⟨(some 3), .mov (.tmp 7), none⟩]) (
 .trim [1, 3] [1, 7] [] (
 .seq (
 .seq (
 .pure (
 .reg [⟨(some 8), .load (some 12) (.tmp 1), none⟩,
 ⟨(some 9), .mov (.const (.int .i64 0)), none⟩])) (
 .trim [3, 8, 9] [7] [] (
 .block 0 (
 .loop (
 .trim [3, 8, 9] [7] [] (
 .seq (
 .pure (
 .reg [⟨(some 10), .bin .lss (.tmp 9) (.const (.int .i64 4)), none⟩])) (
 .trim [3, 8, 9, 10] [7] [] (
 .seq (
 .pure (
 .cond (.tmp 10) (
 .skip) (
 .exit 0))) (
 .trim [3, 8, 9] [7] [] (
 .seq (
 .block 1 (
 .seq (
 .pure (
 .reg [⟨(some 11), .idxA 4 3 true (.tmp 8) (.tmp 9), none⟩,
 ⟨(some 5), .alloc 40 [(.val (.int .i64 0)), (.val (.int .i64 0)), (.val (.string ⟨#[]⟩))], none⟩,
 ⟨none, .store 3 (.tmp 5) (.tmp 11), none⟩])) (
 .trim [3, 5, 8, 9] [5, 7] [] (
 .seq (
 .reg [([⟨(some 12), .mov (.tmp 3), none⟩, ⟨(some 13), .faddr 0 (.tmp 5), none⟩, ⟨(some 14), .load none (.tmp 13), none⟩, ⟨(some 15), .conv .u8 (.tmp 14), none⟩], (.call (some 16) 74 [(.tmp 12), (.tmp 15)]))] []) (
 .trim [3, 5, 8, 9] [5, 7] [] (
 .seq (
 .pure (
 .reg [⟨(some 17), .faddr 0 (.tmp 5), none⟩,
 ⟨(some 18), .load none (.tmp 17), none⟩])) (
 .trim [3, 5, 8, 9, 18] [5, 7] [] (
 .block 2 (
 .seq (
 .pure (
 .reg [⟨(some 20), .bin .eql (.tmp 18) (.const (.int .i64 1)), none⟩,
 ⟨(some 19), .mov (.tmp 20), none⟩])) (
 .trim [3, 5, 8, 9, 18, 19] [5, 7] [] (
 .cond (.tmp 19) (
 .reg [([⟨(some 21), .mov (.tmp 3), none⟩, ⟨(some 22), .faddr 1 (.tmp 5), none⟩, ⟨(some 23), .load none (.tmp 22), none⟩, ⟨(some 24), .call (.func 75) [(.tmp 23)] .pure, none⟩], (.call (some 25) 67 [(.tmp 21), (.tmp 24)]))] []) (
 .seq (
 .pure (
 .reg [⟨(some 27), .bin .eql (.tmp 18) (.const (.int .i64 2)), none⟩,
 ⟨(some 26), .mov (.tmp 27), none⟩])) (
 .trim [3, 5, 8, 9, 26] [5, 7] [] (
 .cond (.tmp 26) (
 .reg [([⟨(some 28), .mov (.tmp 3), none⟩, ⟨(some 29), .faddr 2 (.tmp 5), none⟩, ⟨(some 30), .load none (.tmp 29), none⟩, ⟨(some 31), .call (.func 76) [(.tmp 30)] .pure, none⟩], (.call (some 32) 67 [(.tmp 28), (.tmp 31)]))] []) (
 .pure (
 .skip)))))))))))))))) (
 .pure (
 .trim [3, 8, 9] [7] [] (
 .reg [⟨(some 33), .bin .add (.tmp 9) (.const (.int .i64 1)), none⟩,
 ⟨(some 9), .mov (.tmp 33), none⟩]))))))))))))) (
 .trim [3] [7] [] (
 .seq (
 .reg [([⟨(some 34), .mov (.tmp 3), none⟩], (.call (some 35) 70 [(.tmp 34)]))] [⟨(some 2), .mov (.tmp 35), none⟩]) (
 .pure (
 .ret))))))))
theorem r35 : Runs Tryz.prog 35 m35.flat.strip [.mov (.tmp 2)] 36 := ⟨by kernel_rfl, by kernel_rfl, Tryz.f35, Tryz.f35.body.getD .skip, Tryz.func35, by kernel_rfl, by kernel_rfl, by kernel_rfl, by kernel_rfl, by kernel_rfl⟩

def m36 : MC :=
 .seq (
 .reg [⟨(some 1), .box 42 12 (.tmp 0), none⟩,
 ⟨(some 2), .mov (.const (.string ⟨#[]⟩)), none⟩,
 ⟨(some 3), .mov (.const (.int .i64 0)), none⟩]) (
 .trim [1] [1] [] (
 .seq (
 .seq (
 .reg [⟨(some 4), .load (some 12) (.tmp 1), none⟩,
 ⟨(some 5), .call (.func 59) [(.tmp 4)] .pure, none⟩,
 ⟨(some 6), .un .not (.tmp 5), none⟩]) (
 .trim [1, 6] [1] [] (
 .cond (.tmp 6) (
 .seq (
 .reg [⟨(some 2), .mov (.const (.string ⟨#[]⟩)), none⟩,
 ⟨(some 3), .mov (.const (.int .i64 1)), none⟩]) (
 .ret)) (
 .skip)))) (
 .trim [1] [1] [] (
 .seq (
 .reg [⟨(some 7), .load (some 12) (.tmp 1), none⟩,
 ⟨(some 8), .call (.func 35) [(.tmp 7)] .pure, none⟩,
 ⟨(some 2), .mov (.tmp 8), none⟩,
 ⟨(some 3), .mov (.const (.int .i64 0)), none⟩]) (
 .ret)))))
theorem r36 : Runs Tryz.prog 36 m36.strip [.mov (.tmp 2), .mov (.tmp 3)] 9 := ⟨by kernel_rfl, by kernel_rfl, Tryz.f36, Tryz.f36.body.getD .skip, Tryz.func36, by kernel_rfl, by kernel_rfl, by kernel_rfl, by kernel_rfl, by kernel_rfl⟩

def m68 : MC :=
 .seq (
 .reg [⟨(some 2), .mov (.const (.string ⟨#[]⟩)), none⟩]) (
 .trim [0] [] [] (
 .seq (
 .reg [⟨(some 3), .alloc 136 [(.val (.int .u8 0)), (.val (.int .u8 0)), (.val (.int .u8 0)), (.val (.int .u8 0)), (.val (.int .u8 0)), (.val (.int .u8 0)), (.val (.int .u8 0)), (.val (.int .u8 0)), (.val (.int .u8 0)), (.val (.int .u8 0))], none⟩]) (
 .trim [0, 3] [3] [] (
 .seq (
 .reg [⟨(some 4), .mov (.const (.int .i64 9)), none⟩]) (
 .trim [0, 3, 4] [3] [] (
 .seq (
 .reg [⟨(some 5), .mov (.tmp 4), none⟩,
 ⟨(some 6), .mov (.tmp 0), none⟩,
 ⟨(some 7), .bin .rem (.tmp 6) (.const (.int .u64 128)), none⟩,
 ⟨(some 8), .conv .u8 (.tmp 7), none⟩,
 ⟨(some 9), .iaddrA 10 1 (.tmp 3) (.tmp 5), none⟩,
 ⟨none, .store 1 (.tmp 9) (.tmp 8), none⟩]) (
 .trim [0, 3, 4] [3] [] (
 .seq (
 .seq (
 .reg [⟨(some 10), .mov (.tmp 0), none⟩,
 ⟨(some 11), .bin .quo (.tmp 10) (.const (.int .u64 128)), none⟩,
 ⟨(some 0), .mov (.tmp 11), none⟩]) (
 .trim [0, 3, 4] [3] [] (
 .block 0 (
 .loop (
 .trim [0, 3, 4] [3] [] (
 .seq (
 .seq (
 .reg [⟨(some 12), .mov (.tmp 0), none⟩,
 ⟨(some 13), .bin .gtr (.tmp 12) (.const (.int .u64 0)), none⟩]) (
 .trim [0, 3, 4, 13] [3] [] (
 .cond (.tmp 13) (
 .skip) (
 .exit 0)))) (
 .trim [0, 3, 4] [3] [] (
 .seq (
 .block 1 (
 .seq (
 .reg [⟨(some 16), .mov (.tmp 4), none⟩,
 ⟨(some 17), .bin .sub (.tmp 16) (.const (.int .i64 1)), none⟩,
 ⟨(some 4), .mov (.tmp 17), none⟩]) (
 .trim [0, 3, 4] [3] [] (
 .reg [⟨(some 18), .mov (.tmp 4), none⟩,
 ⟨(some 19), .mov (.tmp 0), none⟩,
 ⟨(some 20), .bin .rem (.tmp 19) (.const (.int .u64 128)), none⟩,
 ⟨(some 21), .conv .u8 (.tmp 20), none⟩,
 ⟨(some 22), .bin .or (.tmp 21) (.const (.int .u8 128)), none⟩,
 ⟨(some 23), .iaddrA 10 1 (.tmp 3) (.tmp 18), none⟩,
 ⟨none, .store 1 (.tmp 23) (.tmp 22), none⟩])))) (
 .trim [0, 3, 4] [3] [] (
 .reg [⟨(some 14), .mov (.tmp 0), none⟩,
 ⟨(some 15), .bin .quo (.tmp 14) (.const (.int .u64 128)), none⟩,
 ⟨(some 0), .mov (.tmp 15), none⟩])))))))))) (
 .trim [3, 4] [3] [] (
 .fzb 3 (
 .seq (
 .reg [⟨(some 24), .mov (.tmp 4), none⟩,
 ⟨(some 25), .slcA 10 (.tmp 3) (some (.tmp 24)) none, none⟩,
 ⟨(some 26), .b2s (.tmp 25), none⟩,
 ⟨(some 2), .mov (.tmp 26), none⟩]) (
 .ret))))))))))))
theorem r68 : Runs Tryz.prog 68 m68.strip [.mov (.tmp 2)] 27 := ⟨by kernel_rfl, by kernel_rfl, Tryz.f68, Tryz.f68.body.getD .skip, Tryz.func68, by kernel_rfl, by kernel_rfl, by kernel_rfl, by kernel_rfl, by kernel_rfl⟩

def m69 : MH :=
 .seq (
 .reg [([⟨(some 8), .mov (.tmp 0), none⟩, ⟨(some 9), .mov (.tmp 1), none⟩, ⟨(some 10), .call (.func 110) [(.tmp 9)] .pure, none⟩], (.call (some 11) 74 [(.tmp 8), (.tmp 10)]))] []) (
 .trim [0, 1] [] [] (
 .seq (
 .reg [([⟨(some 12), .mov (.tmp 0), none⟩, ⟨(some 13), .mov (.tmp 1), none⟩, ⟨(some 14), .nilck (.tmp 13), none⟩, ⟨(some 15), .faddr 1 (.tmp 14), none⟩, ⟨(some 16), .load none (.tmp 15), none⟩, ⟨(some 17), .lenL (.tmp 16), none⟩, ⟨(some 18), .conv .u64 (.tmp 17), none⟩, ⟨(some 19), .call (.func 68) [(.tmp 18)] .pure, none⟩], (.call (some 20) 67 [(.tmp 12), (.tmp 19)]))] []) (
 .trim [0, 1] [] [] (
 .seq (
 .seq (
 .pure (
 .reg [⟨(some 21), .mov (.tmp 1), none⟩,
 ⟨(some 22), .nilck (.tmp 21), none⟩,
 ⟨(some 23), .faddr 1 (.tmp 22), none⟩,
 ⟨(some 24), .load none (.tmp 23), none⟩,
 ⟨(some 25), .lenL (.tmp 24), none⟩,
 ⟨(some 26), .mov (.const (.int .i64 0)), none⟩])) (
 .trim [0, 1, 24, 25, 26] [] [] (
 .block 0 (
 .loop (
 .trim [0, 1, 24, 25, 26] [] [] (
 .seq (
 .pure (
 .reg [⟨(some 27), .bin .lss (.tmp 26) (.tmp 25), none⟩])) (
 .trim [0, 1, 24, 25, 26, 27] [] [] (
 .seq (
 .pure (
 .cond (.tmp 27) (
 .skip) (
 .exit 0))) (
 .trim [0, 1, 24, 25, 26] [] [] (
 .seq (
 .block 1 (
 .seq (
 .pure (
 .reg [⟨(some 28), .iaddrS 2 (.tmp 24) (.tmp 26), none⟩,
 ⟨(some 29), .load (some 2) (.tmp 28), none⟩,
 ⟨(some 5), .alloc 114 [(.val (.int .i64 0)), (.val (.int .i64 0))], none⟩,
 ⟨none, .store 2 (.tmp 5) (.tmp 29), none⟩])) (
 .trim [0, 1, 5, 24, 25, 26] [5] [] (
 .dreg 8 [⟨(some 30), .mov (.tmp 0), none⟩,
 ⟨(some 31), .faddr 0 (.tmp 5), none⟩,
 ⟨(some 32), .load none (.tmp 31), none⟩,
 ⟨(some 33), .call (.func 75) [(.tmp 32)] .pure, none⟩,
 ⟨(some 34), .faddr 1 (.tmp 5), none⟩,
 ⟨(some 35), .load none (.tmp 34), none⟩,
 ⟨(some 36), .call (.func 75) [(.tmp 35)] .pure, none⟩,
 ⟨(some 37), .bin .add (.tmp 33) (.tmp 36), none⟩] (some 38) 67 [(.tmp 30), (.tmp 37)])))) (
 .pure (
 .trim [0, 1, 24, 25, 26] [] [] (
 .reg [⟨(some 39), .bin .add (.tmp 26) (.const (.int .i64 1)), none⟩,
 ⟨(some 26), .mov (.tmp 39), none⟩]))))))))))))) (
 .trim [0, 1] [] [] (
 .seq (
 .reg [([⟨(some 40), .mov (.tmp 0), none⟩, ⟨(some 41), .mov (.tmp 1), none⟩, ⟨(some 42), .nilck (.tmp 41), none⟩, ⟨(some 43), .faddr 3 (.tmp 42), none⟩, ⟨(some 44), .load none (.tmp 43), none⟩, ⟨(some 45), .lenL (.tmp 44), none⟩, ⟨(some 46), .conv .u64 (.tmp 45), none⟩, ⟨(some 47), .call (.func 68) [(.tmp 46)] .pure, none⟩], (.call (some 48) 67 [(.tmp 40), (.tmp 47)]))] []) (
 .trim [0, 1] [] [] (
 .seq (
 .pure (
 .reg [⟨(some 49), .mov (.tmp 1), none⟩,
 ⟨(some 50), .nilck (.tmp 49), none⟩,
 ⟨(some 51), .faddr 3 (.tmp 50), none⟩,
 ⟨(some 52), .load none (.tmp 51), none⟩,
 ⟨(some 53), .lenL (.tmp 52), none⟩,
 ⟨(some 54), .mov (.const (.int .i64 0)), none⟩])) (
 .trim [0, 52, 53, 54] [] [] (
 .block 2 (
 .loop (
 .trim [0, 52, 53, 54] [] [] (
 .seq (
 .pure (
 .reg [⟨(some 55), .bin .lss (.tmp 54) (.tmp 53), none⟩])) (
 .trim [0, 52, 53, 54, 55] [] [] (
 .seq (
 .pure (
 .cond (.tmp 55) (
 .skip) (
 .exit 2))) (
 .trim [0, 52, 53, 54] [] [] (
 .seq (
 .block 3 (
 .seq (
 .pure (
 .reg [⟨(some 56), .iaddrS 1 (.tmp 52) (.tmp 54), none⟩,
 ⟨(some 57), .load none (.tmp 56), none⟩,
 ⟨(some 7), .mov (.tmp 57), none⟩])) (
 .trim [0, 7, 52, 53, 54] [] [] (
 .reg [([⟨(some 58), .mov (.tmp 0), none⟩, ⟨(some 59), .mov (.tmp 7), none⟩, ⟨(some 60), .call (.func 76) [(.tmp 59)] .pure, none⟩], (.call (some 61) 67 [(.tmp 58), (.tmp 60)]))] [])))) (
 .pure (
 .trim [0, 52, 53, 54] [] [] (
 .reg [⟨(some 62), .bin .add (.tmp 54) (.const (.int .i64 1)), none⟩,
 ⟨(some 54), .mov (.tmp 62), none⟩]))))))))))))))))))))
theorem r69 : Runs Tryz.prog 69 m69.flat.strip [] 63 := ⟨by kernel_rfl, by kernel_rfl, Tryz.f69, Tryz.f69.body.getD .skip, Tryz.func69, by kernel_rfl, by kernel_rfl, by kernel_rfl, by kernel_rfl, by kernel_rfl⟩

def m75 : MC :=
 .seq (
 .reg [⟨(some 2), .mov (.const (.string ⟨#[]⟩)), none⟩]) (
 .trim [0] [] [] (
 .seq (
 .reg [⟨(some 3), .mov (.tmp 0), none⟩,
 ⟨(some 4), .call (.func 119) [(.tmp 3)] .pure, none⟩,
 ⟨(some 5), .call (.func 68) [(.tmp 4)] .pure, none⟩,
 ⟨(some 2), .mov (.tmp 5), none⟩]) (
 .ret)))
theorem r75 : Runs Tryz.prog 75 m75.strip [.mov (.tmp 2)] 6 := ⟨by kernel_rfl, by kernel_rfl, Tryz.f75, Tryz.f75.body.getD .skip, Tryz.func75, by kernel_rfl, by kernel_rfl, by kernel_rfl, by kernel_rfl, by kernel_rfl⟩

def m76 : MC :=
 .seq (
 .reg [⟨(some 2), .mov (.const (.string ⟨#[]⟩)), none⟩]) (
 .trim [0] [] [] (
 .seq (
 .reg [⟨(some 3), .mov (.tmp 0), none⟩,
 ⟨(some 4), .lenS (.tmp 3), none⟩,
 ⟨(some 5), .conv .u64 (.tmp 4), none⟩,
 ⟨(some 6), .call (.func 68) [(.tmp 5)] .pure, none⟩,
 ⟨(some 7), .mov (.tmp 0), none⟩,
 ⟨(some 8), .bin .add (.tmp 6) (.tmp 7), none⟩,
 ⟨(some 2), .mov (.tmp 8), none⟩]) (
 .ret)))
theorem r76 : Runs Tryz.prog 76 m76.strip [.mov (.tmp 2)] 9 := ⟨by kernel_rfl, by kernel_rfl, Tryz.f76, Tryz.f76.body.getD .skip, Tryz.func76, by kernel_rfl, by kernel_rfl, by kernel_rfl, by kernel_rfl, by kernel_rfl⟩

def m110 : MC :=
 .seq (
 .reg [⟨(some 2), .mov (.const (.int .u8 0)), none⟩]) (
 .trim [0, 2] [] [] (
 .seq (
 .seq (
 .reg [⟨(some 3), .mov (.tmp 0), none⟩,
 ⟨(some 4), .nilck (.tmp 3), none⟩,
 ⟨(some 5), .faddr 0 (.tmp 4), none⟩,
 ⟨(some 6), .load none (.tmp 5), none⟩]) (
 .trim [0, 2, 6] [] [] (
 .cond (.tmp 6) (
 .reg [⟨(some 7), .mov (.tmp 2), none⟩,
 ⟨(some 8), .bin .or (.tmp 7) (.const (.int .u8 1)), none⟩,
 ⟨(some 2), .mov (.tmp 8), none⟩]) (
 .skip)))) (
 .trim [0, 2] [] [] (
 .seq (
 .seq (
 .reg [⟨(some 9), .mov (.tmp 0), none⟩,
 ⟨(some 10), .nilck (.tmp 9), none⟩,
 ⟨(some 11), .faddr 2 (.tmp 10), none⟩,
 ⟨(some 12), .load none (.tmp 11), none⟩]) (
 .trim [2, 12] [] [] (
 .cond (.tmp 12) (
 .reg [⟨(some 13), .mov (.tmp 2), none⟩,
 ⟨(some 14), .bin .or (.tmp 13) (.const (.int .u8 2)), none⟩,
 ⟨(some 2), .mov (.tmp 14), none⟩]) (
 .skip)))) (
 .trim [2] [] [] (
 .seq (
 .reg [⟨(some 15), .mov (.tmp 2), none⟩,
 ⟨(some 2), .mov (.tmp 15), none⟩]) (
 .ret)))))))
theorem r110 : Runs Tryz.prog 110 m110.strip [.mov (.tmp 2)] 16 := ⟨by kernel_rfl, by kernel_rfl, Tryz.f110, Tryz.f110.body.getD .skip, Tryz.func110, by kernel_rfl, by kernel_rfl, by kernel_rfl, by kernel_rfl, by kernel_rfl⟩

def m119 : MC :=
 .seq (
 .reg [⟨(some 2), .mov (.const (.int .u64 0)), none⟩]) (
 .trim [0] [] [] (
 .seq (
 .seq (
 .reg [⟨(some 3), .mov (.tmp 0), none⟩,
 ⟨(some 4), .bin .lss (.tmp 3) (.const (.int .i64 0)), none⟩]) (
 .trim [0, 4] [] [] (
 .cond (.tmp 4) (
 .seq (
 .reg [⟨(some 5), .mov (.tmp 0), none⟩,
 ⟨(some 6), .un .xor (.tmp 5), none⟩,
 ⟨(some 7), .conv .u64 (.tmp 6), none⟩,
 ⟨(some 8), .bin .shl (.tmp 7) (.const (.int .u64 1)), none⟩,
 ⟨(some 9), .bin .or (.tmp 8) (.const (.int .u64 1)), none⟩,
 ⟨(some 2), .mov (.tmp 9), none⟩]) (
 .ret)) (
 .skip)))) (
 .trim [0] [] [] (
 .seq (
 .reg [⟨(some 10), .mov (.tmp 0), none⟩,
 ⟨(some 11), .conv .u64 (.tmp 10), none⟩,
 ⟨(some 12), .bin .shl (.tmp 11) (.const (.int .u64 1)), none⟩,
 ⟨(some 2), .mov (.tmp 12), none⟩]) (
 .ret)))))
theorem r119 : Runs Tryz.prog 119 m119.strip [.mov (.tmp 2)] 13 := ⟨by kernel_rfl, by kernel_rfl, Tryz.f119, Tryz.f119.body.getD .skip, Tryz.func119, by kernel_rfl, by kernel_rfl, by kernel_rfl, by kernel_rfl, by kernel_rfl⟩

def m144 : MC :=
 .seq (
 .reg [⟨(some 2), .mov (.const (.int .i64 0)), none⟩]) (
 .trim [0] [] [] (
 .seq (
 .seq (
 .reg [⟨(some 3), .mov (.tmp 0), none⟩,
 ⟨(some 4), .bin .and (.tmp 3) (.const (.int .u64 1)), none⟩,
 ⟨(some 5), .bin .eql (.tmp 4) (.const (.int .u64 1)), none⟩]) (
 .trim [0, 5] [] [] (
 .cond (.tmp 5) (
 .seq (
 .reg [⟨(some 6), .mov (.tmp 0), none⟩,
 ⟨(some 7), .bin .shr (.tmp 6) (.const (.int .u64 1)), none⟩,
 ⟨(some 8), .conv .i64 (.tmp 7), none⟩,
 ⟨(some 9), .un .xor (.tmp 8), none⟩,
 ⟨(some 2), .mov (.tmp 9), none⟩]) (
 .ret)) (
 .skip)))) (
 .trim [0] [] [] (
 .seq (
 .reg [⟨(some 10), .mov (.tmp 0), none⟩,
 ⟨(some 11), .bin .shr (.tmp 10) (.const (.int .u64 1)), none⟩,
 ⟨(some 12), .conv .i64 (.tmp 11), none⟩,
 ⟨(some 2), .mov (.tmp 12), none⟩]) (
 .ret)))))
theorem r144 : Runs Tryz.prog 144 m144.strip [.mov (.tmp 2)] 13 := ⟨by kernel_rfl, by kernel_rfl, Tryz.f144, Tryz.f144.body.getD .skip, Tryz.func144, by kernel_rfl, by kernel_rfl, by kernel_rfl, by kernel_rfl, by kernel_rfl⟩

end Go.Proofs


namespace Go.Proofs
open Go.Vm
def m61 : MC :=
 .seq (
 .reg [⟨(some 2), .mov (.const (.pointer none)), none⟩]) (
 .trim [0] [] [] (
 .seq (
 .reg [⟨(some 3), .mov (.tmp 0), none⟩,
 ⟨(some 4), .build [(.val (.string ⟨#[]⟩)), (.val (.int .i64 0))] [(0, 1, (.tmp 3))], none⟩,
 ⟨(some 5), .box 131 2 (.tmp 4), none⟩,
 ⟨(some 2), .mov (.tmp 5), none⟩]) (
 .ret)))
theorem r61 : Runs Tryz.prog 61 m61.strip [.mov (.tmp 2)] 6 := ⟨by kernel_rfl, by kernel_rfl, Tryz.f61, Tryz.f61.body.getD .skip, Tryz.func61, by kernel_rfl, by kernel_rfl, by kernel_rfl, by kernel_rfl, by kernel_rfl⟩

def m63 : MC :=
 .seq (
 .reg [⟨(some 2), .mov (.const (.int .i64 0)), none⟩]) (
 .trim [0] [1000000] [] (
 .seq (
 .seq (
 .reg [⟨(some 3), .mov (.tmp 0), none⟩,
 ⟨(some 4), .binP false (.tmp 3) (.const (.pointer none)), none⟩]) (
 .trim [0, 4] [1000000] [] (
 .cond (.tmp 4) (
 .seq (
 .reg [⟨(some 2), .mov (.const (.int .i64 7)), none⟩]) (
 .ret)) (
 .skip)))) (
 .trim [0] [1000000] [] (
 .seq (
 .reg [⟨(some 5), .mov (.tmp 0), none⟩,
 ⟨(some 6), .nilck (.tmp 5), none⟩,
 ⟨(some 7), .faddr 1 (.tmp 6), none⟩,
 ⟨(some 8), .load none (.tmp 7), none⟩,
 ⟨(some 2), .mov (.tmp 8), none⟩]) (
 .ret)))))
theorem r63 : Runs Tryz.prog 63 m63.strip [.mov (.tmp 2)] 9 := ⟨by kernel_rfl, by kernel_rfl, Tryz.f63, Tryz.f63.body.getD .skip, Tryz.func63, by kernel_rfl, by kernel_rfl, by kernel_rfl, by kernel_rfl, by kernel_rfl⟩

def m64 : MC :=
 .seq (
 .reg [⟨(some 2), .mov (.const (.int .i64 0)), none⟩]) (
 .trim [0] [1000000] [] (
 .seq (
 .seq (
 .reg [⟨(some 3), .mov (.tmp 0), none⟩,
 ⟨(some 4), .binP false (.tmp 3) (.const (.pointer none)), none⟩]) (
 .trim [0, 4] [1000000] [] (
 .cond (.tmp 4) (
 .seq (
 .reg [⟨(some 2), .mov (.const (.int .i64 0)), none⟩]) (
 .ret)) (
 .skip)))) (
 .trim [0] [1000000] [] (
 .seq (
 .reg [⟨(some 5), .mov (.tmp 0), none⟩,
 ⟨(some 6), .nilck (.tmp 5), none⟩,
 ⟨(some 7), .faddr 0 (.tmp 6), none⟩,
 ⟨(some 8), .load none (.tmp 7), none⟩,
 ⟨(some 9), .lenS (.tmp 8), none⟩,
 ⟨(some 2), .mov (.tmp 9), none⟩]) (
 .ret)))))
theorem r64 : Runs Tryz.prog 64 m64.strip [.mov (.tmp 2)] 10 := ⟨by kernel_rfl, by kernel_rfl, Tryz.f64, Tryz.f64.body.getD .skip, Tryz.func64, by kernel_rfl, by kernel_rfl, by kernel_rfl, by kernel_rfl, by kernel_rfl⟩

def m105 : MC :=
 .seq (
 .reg [⟨(some 4), .mov (.const (.int .i64 0)), none⟩]) (
 .trim [0, 1] [1000000] [] (
 .seq (
 .reg [⟨(some 6), .mov (.tmp 0), none⟩,
 ⟨(some 7), .call (.func 141) [(.tmp 6)] (.obj [(1000000, 1000000)] [] [] []), none⟩,
 ⟨(some 5), .mov (.tmp 7), none⟩]) (
 .trim [0, 1, 5] [1000000] [] (
 .seq (
 .seq (
 .reg [⟨(some 8), .mov (.tmp 5), none⟩,
 ⟨(some 9), .mov (.tmp 1), none⟩,
 ⟨(some 10), .conv .u64 (.tmp 9), none⟩,
 ⟨(some 11), .bin .gtr (.tmp 8) (.tmp 10), none⟩]) (
 .trim [0, 5, 11] [1000000] [] (
 .cond (.tmp 11) (
 .seq (
 .reg [⟨(some 12), .mov (.tmp 0), none⟩,
 ⟨(some 13), .call (.func 107) [(.tmp 12), (.const (.int .i64 2))] (.obj [(1000000, 1000000)] [] [] []), none⟩]) (
 .trim [] [1000000] [] (
 .seq (
 .reg [⟨(some 4), .mov (.const (.int .i64 0)), none⟩]) (
 .ret)))) (
 .skip)))) (
 .trim [5] [1000000] [] (
 .seq (
 .reg [⟨(some 14), .mov (.tmp 5), none⟩,
 ⟨(some 15), .conv .i64 (.tmp 14), none⟩,
 ⟨(some 4), .mov (.tmp 15), none⟩]) (
 .ret)))))))
theorem r105 : Runs Tryz.prog 105 m105.strip [.mov (.tmp 4)] 16 := ⟨by kernel_rfl, by kernel_rfl, Tryz.f105, Tryz.f105.body.getD .skip, Tryz.func105, by kernel_rfl, by kernel_rfl, by kernel_rfl, by kernel_rfl, by kernel_rfl⟩

def m107 : MC :=
 .seq (
 .reg [⟨(some 4), .mov (.tmp 0), none⟩,
 ⟨(some 5), .binP true (.tmp 4) (.const (.pointer none)), none⟩,
 ⟨(some 6), .mov (.tmp 5), none⟩,
 ⟨(some 7), .mov (.tmp 0), (some (6, true))⟩,
 ⟨(some 8), .nilck (.tmp 7), (some (6, true))⟩,
 ⟨(some 9), .faddr 1 (.tmp 8), (some (6, true))⟩,
 ⟨(some 10), .load none (.tmp 9), (some (6, true))⟩,
 ⟨(some 11), .bin .eql (.tmp 10) (.const (.int .i64 0)), (some (6, true))⟩,
 ⟨(some 12), .pick (.tmp 6) (.tmp 11) (.const (.bool false)), none⟩,
 ⟨(some 13), .mov (.tmp 12), none⟩,
 ⟨(some 14), .mov (.tmp 1), (some (13, true))⟩,
 ⟨(some 15), .bin .neq (.tmp 14) (.const (.int .i64 0)), (some (13, true))⟩,
 ⟨(some 16), .pick (.tmp 13) (.tmp 15) (.const (.bool false)), none⟩]) (
 .trim [0, 1, 16] [1000000] [] (
 .cond (.tmp 16) (
 .reg [⟨(some 17), .mov (.tmp 0), none⟩,
 ⟨(some 18), .mov (.tmp 0), none⟩,
 ⟨(some 19), .mov (.tmp 1), none⟩,
 ⟨(some 20), .nilck (.tmp 17), none⟩,
 ⟨(some 21), .faddr 0 (.tmp 20), none⟩,
 ⟨none, .store 1 (.tmp 21) (.const (.string ⟨#[]⟩)), none⟩,
 ⟨(some 22), .nilck (.tmp 18), none⟩,
 ⟨(some 23), .faddr 1 (.tmp 22), none⟩,
 ⟨none, .store 1 (.tmp 23) (.tmp 19), none⟩]) (
 .skip)))
theorem r107 : Runs Tryz.prog 107 m107.strip [] 24 := ⟨by kernel_rfl, by kernel_rfl, Tryz.f107, Tryz.f107.body.getD .skip, Tryz.func107, by kernel_rfl, by kernel_rfl, by kernel_rfl, by kernel_rfl, by kernel_rfl⟩

def m113 : MC :=
 .seq (
 .reg [⟨(some 2), .mov (.const (.int .u8 0)), none⟩]) (
 .trim [0] [1000000] [] (
 .seq (
 .seq (
 .reg [⟨(some 4), .mov (.tmp 0), none⟩,
 ⟨(some 5), .call (.func 64) [(.tmp 4)] (.obj [(1000000, 1000000)] [] [] []), none⟩,
 ⟨(some 6), .bin .eql (.tmp 5) (.const (.int .i64 0)), none⟩]) (
 .trim [0, 6] [1000000] [] (
 .cond (.tmp 6) (
 .seq (
 .reg [⟨(some 7), .mov (.tmp 0), none⟩,
 ⟨(some 8), .call (.func 107) [(.tmp 7), (.const (.int .i64 3))] (.obj [(1000000, 1000000)] [] [] []), none⟩]) (
 .trim [] [1000000] [] (
 .seq (
 .reg [⟨(some 2), .mov (.const (.int .u8 0)), none⟩]) (
 .ret)))) (
 .skip)))) (
 .trim [0] [1000000] [] (
 .seq (
 .reg [⟨(some 9), .mov (.tmp 0), none⟩,
 ⟨(some 10), .nilck (.tmp 9), none⟩,
 ⟨(some 11), .faddr 0 (.tmp 10), none⟩,
 ⟨(some 12), .load none (.tmp 11), none⟩,
 ⟨(some 13), .idxS (.tmp 12) (.const (.int .i64 0)), none⟩,
 ⟨(some 3), .mov (.tmp 13), none⟩]) (
 .trim [0, 3] [1000000] [] (
 .seq (
 .reg [⟨(some 14), .mov (.tmp 0), none⟩,
 ⟨(some 15), .mov (.tmp 0), none⟩,
 ⟨(some 16), .nilck (.tmp 15), none⟩,
 ⟨(some 17), .faddr 0 (.tmp 16), none⟩,
 ⟨(some 18), .load none (.tmp 17), none⟩,
 ⟨(some 19), .slcS (.tmp 18) (some (.const (.int .i64 1))) none, none⟩,
 ⟨(some 20), .nilck (.tmp 14), none⟩,
 ⟨(some 21), .faddr 0 (.tmp 20), none⟩,
 ⟨none, .store 1 (.tmp 21) (.tmp 19), none⟩]) (
 .trim [3] [1000000] [] (
 .seq (
 .reg [⟨(some 22), .mov (.tmp 3), none⟩,
 ⟨(some 2), .mov (.tmp 22), none⟩]) (
 .ret)))))))))
theorem r113 : Runs Tryz.prog 113 m113.strip [.mov (.tmp 2)] 23 := ⟨by kernel_rfl, by kernel_rfl, Tryz.f113, Tryz.f113.body.getD .skip, Tryz.func113, by kernel_rfl, by kernel_rfl, by kernel_rfl, by kernel_rfl, by kernel_rfl⟩

def m114 : MC :=
 .seq (
 .reg [⟨(some 2), .mov (.const (.int .i64 0)), none⟩]) (
 .trim [0] [1000000] [] (
 .seq (
 .reg [⟨(some 3), .mov (.tmp 0), none⟩,
 ⟨(some 4), .call (.func 141) [(.tmp 3)] (.obj [(1000000, 1000000)] [] [] []), none⟩,
 ⟨(some 5), .call (.func 144) [(.tmp 4)] .pure, none⟩,
 ⟨(some 2), .mov (.tmp 5), none⟩]) (
 .ret)))
theorem r114 : Runs Tryz.prog 114 m114.strip [.mov (.tmp 2)] 6 := ⟨by kernel_rfl, by kernel_rfl, Tryz.f114, Tryz.f114.body.getD .skip, Tryz.func114, by kernel_rfl, by kernel_rfl, by kernel_rfl, by kernel_rfl, by kernel_rfl⟩

def m115 : MC :=
 .seq (
 .reg [⟨(some 4), .mov (.const (.string ⟨#[]⟩)), none⟩]) (
 .trim [0, 1] [1000000] [] (
 .seq (
 .reg [⟨(some 7), .mov (.tmp 0), none⟩,
 ⟨(some 8), .call (.func 141) [(.tmp 7)] (.obj [(1000000, 1000000)] [] [] []), none⟩,
 ⟨(some 5), .mov (.tmp 8), none⟩]) (
 .trim [0, 1, 5] [1000000] [] (
 .seq (
 .block 0 (
 .seq (
 .reg [⟨(some 10), .mov (.tmp 5), none⟩,
 ⟨(some 11), .mov (.tmp 1), none⟩,
 ⟨(some 12), .minmax true [(.tmp 11), (.const (.int .i64 0))], none⟩,
 ⟨(some 13), .conv .u64 (.tmp 12), none⟩,
 ⟨(some 14), .bin .gtr (.tmp 10) (.tmp 13), none⟩,
 ⟨(some 9), .mov (.tmp 14), none⟩]) (
 .trim [0, 5, 9] [1000000] [] (
 .cond (.tmp 9) (
 .reg [⟨(some 15), .mov (.tmp 0), none⟩,
 ⟨(some 16), .call (.func 107) [(.tmp 15), (.const (.int .i64 9))] (.obj [(1000000, 1000000)] [] [] []), none⟩]) (
 .seq (
 .reg [⟨(some 18), .mov (.tmp 5), none⟩,
 ⟨(some 19), .mov (.tmp 0), none⟩,
 ⟨(some 20), .call (.func 64) [(.tmp 19)] (.obj [(1000000, 1000000)] [] [] []), none⟩,
 ⟨(some 21), .conv .u64 (.tmp 20), none⟩,
 ⟨(some 22), .bin .gtr (.tmp 18) (.tmp 21), none⟩,
 ⟨(some 17), .mov (.tmp 22), none⟩]) (
 .trim [0, 5, 17] [1000000] [] (
 .cond (.tmp 17) (
 .reg [⟨(some 23), .mov (.tmp 0), none⟩,
 ⟨(some 24), .call (.func 107) [(.tmp 23), (.const (.int .i64 3))] (.obj [(1000000, 1000000)] [] [] []), none⟩]) (
 .skip)))))))) (
 .trim [0, 5] [1000000] [] (
 .seq (
 .seq (
 .reg [⟨(some 25), .mov (.tmp 0), none⟩,
 ⟨(some 26), .call (.func 63) [(.tmp 25)] (.obj [(1000000, 1000000)] [] [] []), none⟩,
 ⟨(some 27), .bin .neq (.tmp 26) (.const (.int .i64 0)), none⟩]) (
 .trim [0, 5, 27] [1000000] [] (
 .cond (.tmp 27) (
 .seq (
 .reg [⟨(some 4), .mov (.const (.string ⟨#[]⟩)), none⟩]) (
 .ret)) (
 .skip)))) (
 .trim [0, 5] [1000000] [] (
 .seq (
 .reg [⟨(some 28), .mov (.tmp 0), none⟩,
 ⟨(some 29), .nilck (.tmp 28), none⟩,
 ⟨(some 30), .faddr 0 (.tmp 29), none⟩,
 ⟨(some 31), .load none (.tmp 30), none⟩,
 ⟨(some 32), .mov (.tmp 5), none⟩,
 ⟨(some 33), .slcS (.tmp 31) none (some (.tmp 32)), none⟩,
 ⟨(some 6), .mov (.tmp 33), none⟩]) (
 .trim [0, 5, 6] [1000000] [] (
 .seq (
 .reg [⟨(some 34), .mov (.tmp 0), none⟩,
 ⟨(some 35), .mov (.tmp 0), none⟩,
 ⟨(some 36), .nilck (.tmp 35), none⟩,
 ⟨(some 37), .faddr 0 (.tmp 36), none⟩,
 ⟨(some 38), .load none (.tmp 37), none⟩,
 ⟨(some 39), .mov (.tmp 5), none⟩,
 ⟨(some 40), .slcS (.tmp 38) (some (.tmp 39)) none, none⟩,
 ⟨(some 41), .nilck (.tmp 34), none⟩,
 ⟨(some 42), .faddr 0 (.tmp 41), none⟩,
 ⟨none, .store 1 (.tmp 42) (.tmp 40), none⟩]) (
 .trim [6] [1000000] [] (
 .seq (
 .reg [⟨(some 43), .mov (.tmp 6), none⟩,
 ⟨(some 4), .mov (.tmp 43), none⟩]) (
 .ret)))))))))))))
theorem r115 : Runs Tryz.prog 115 m115.strip [.mov (.tmp 4)] 44 := ⟨by kernel_rfl, by kernel_rfl, Tryz.f115, Tryz.f115.body.getD .skip, Tryz.func115, by kernel_rfl, by kernel_rfl, by kernel_rfl, by kernel_rfl, by kernel_rfl⟩

def m141 : MC :=
 .seq (
 .reg [⟨(some 2), .mov (.const (.int .u64 0)), none⟩]) (
 .trim [0] [1000000] [] (
 .seq (
 .reg [⟨(some 3), .mov (.const (.int .u64 0)), none⟩]) (
 .trim [0, 3] [1000000] [] (
 .seq (
 .seq (
 .reg [⟨(some 4), .mov (.const (.bool true)), none⟩]) (
 .trim [0, 3, 4] [1000000] [] (
 .block 0 (
 .loop (
 .trim [0, 3, 4] [1000000] [] (
 .seq (
 .seq (
 .reg [⟨(some 6), .mov (.tmp 0), none⟩,
 ⟨(some 7), .call (.func 63) [(.tmp 6)] (.obj [(1000000, 1000000)] [] [] []), none⟩,
 ⟨(some 8), .bin .eql (.tmp 7) (.const (.int .i64 0)), none⟩]) (
 .trim [0, 3, 4, 8] [1000000] [] (
 .cond (.tmp 8) (
 .skip) (
 .exit 0)))) (
 .trim [0, 3, 4] [1000000] [] (
 .seq (
 .block 1 (
 .seq (
 .reg [⟨(some 9), .mov (.tmp 0), none⟩,
 ⟨(some 10), .call (.func 113) [(.tmp 9)] (.obj [(1000000, 1000000)] [] [] []), none⟩,
 ⟨(some 5), .mov (.tmp 10), none⟩]) (
 .trim [0, 3, 4, 5] [1000000] [] (
 .block 2 (
 .seq (
 .reg [⟨(some 18), .mov (.tmp 0), none⟩,
 ⟨(some 19), .call (.func 63) [(.tmp 18)] (.obj [(1000000, 1000000)] [] [] []), none⟩,
 ⟨(some 20), .bin .neq (.tmp 19) (.const (.int .i64 0)), none⟩,
 ⟨(some 17), .mov (.tmp 20), none⟩]) (
 .trim [0, 3, 4, 5, 17] [1000000] [] (
 .cond (.tmp 17) (
 .skip) (
 .seq (
 .seq (
 .reg [⟨(some 22), .mov (.tmp 4), none⟩,
 ⟨(some 23), .mov (.tmp 22), none⟩,
 ⟨(some 24), .mov (.tmp 5), (some (23, true))⟩,
 ⟨(some 25), .bin .eql (.tmp 24) (.const (.int .u8 128)), (some (23, true))⟩,
 ⟨(some 26), .pick (.tmp 23) (.tmp 25) (.const (.bool false)), none⟩,
 ⟨(some 21), .mov (.tmp 26), none⟩]) (
 .trim [0, 3, 5, 21] [1000000] [] (
 .cond (.tmp 21) (
 .skip) (
 .reg [⟨(some 27), .mov (.tmp 3), none⟩,
 ⟨(some 28), .bin .gtr (.tmp 27) (.const (.int .u64 144115188075855871)), none⟩,
 ⟨(some 21), .mov (.tmp 28), none⟩])))) (
 .trim [0, 3, 5, 21] [1000000] [] (
 .cond (.tmp 21) (
 .reg [⟨(some 29), .mov (.tmp 0), none⟩,
 ⟨(some 30), .call (.func 107) [(.tmp 29), (.const (.int .i64 2))] (.obj [(1000000, 1000000)] [] [] []), none⟩]) (
 .seq (
 .reg [⟨(some 32), .mov (.tmp 5), none⟩,
 ⟨(some 33), .bin .lss (.tmp 32) (.const (.int .u8 128)), none⟩,
 ⟨(some 31), .mov (.tmp 33), none⟩]) (
 .trim [0, 3, 5, 31] [1000000] [] (
 .cond (.tmp 31) (
 .seq (
 .reg [⟨(some 34), .mov (.tmp 3), none⟩,
 ⟨(some 35), .bin .mul (.tmp 34) (.const (.int .u64 128)), none⟩,
 ⟨(some 36), .mov (.tmp 5), none⟩,
 ⟨(some 37), .conv .u64 (.tmp 36), none⟩,
 ⟨(some 38), .bin .add (.tmp 35) (.tmp 37), none⟩,
 ⟨(some 2), .mov (.tmp 38), none⟩]) (
 .ret)) (
 .reg [⟨(some 11), .mov (.tmp 3), none⟩,
 ⟨(some 12), .bin .mul (.tmp 11) (.const (.int .u64 128)), none⟩,
 ⟨(some 13), .mov (.tmp 5), none⟩,
 ⟨(some 14), .bin .sub (.tmp 13) (.const (.int .u8 128)), none⟩,
 ⟨(some 15), .conv .u64 (.tmp 14), none⟩,
 ⟨(some 16), .bin .add (.tmp 12) (.tmp 15), none⟩,
 ⟨(some 3), .mov (.tmp 16), none⟩])))))))))))))) (
 .trim [0, 3] [1000000] [] (
 .reg [⟨(some 4), .mov (.const (.bool false)), none⟩])))))))))) (
 .trim [] [1000000] [] (
 .seq (
 .reg [⟨(some 2), .mov (.const (.int .u64 0)), none⟩]) (
 .ret)))))))
theorem r141 : Runs Tryz.prog 141 m141.strip [.mov (.tmp 2)] 39 := ⟨by kernel_rfl, by kernel_rfl, Tryz.f141, Tryz.f141.body.getD .skip, Tryz.func141, by kernel_rfl, by kernel_rfl, by kernel_rfl, by kernel_rfl, by kernel_rfl⟩

end Go.Proofs


namespace Go.Proofs
open Go.Vm
def m9 : MC :=
 .seq (
 .reg [⟨(some 2), .mov (.const (.bool false)), none⟩]) (
 .trim [0] [] [] (
 .seq (
 .seq (
 .reg [⟨(some 11), .call (.func 27) [] .pure, none⟩,
 ⟨(some 12), .un .not (.tmp 11), none⟩,
 ⟨(some 13), .mov (.tmp 12), none⟩,
 ⟨(some 14), .mov (.tmp 0), (some (13, false))⟩,
 ⟨(some 15), .lenS (.tmp 14), (some (13, false))⟩,
 ⟨(some 16), .bin .gtr (.tmp 15) (.const (.int .i64 1500)), (some (13, false))⟩,
 ⟨(some 17), .pick (.tmp 13) (.const (.bool true)) (.tmp 16), none⟩]) (
 .trim [0, 17] [] [] (
 .cond (.tmp 17) (
 .seq (
 .reg [⟨(some 18), .call (.func 27) [] .pure, none⟩,
 ⟨(some 2), .mov (.tmp 18), none⟩]) (
 .ret)) (
 .skip)))) (
 .trim [0] [] [] (
 .seq (
 .reg [⟨(some 20), .mov (.tmp 0), none⟩,
 ⟨(some 21), .call (.func 29) [(.tmp 20)] .pure, none⟩,
 ⟨(some 19), .mov (.tmp 21), none⟩,
 ⟨(some 22), .ext (.tmp 19) 0, none⟩,
 ⟨(some 23), .ext (.tmp 19) 1, none⟩,
 ⟨(some 3), .mov (.tmp 22), none⟩,
 ⟨(some 4), .mov (.tmp 23), none⟩]) (
 .trim [0, 3, 4] [] [] (
 .seq (
 .reg [⟨(some 25), .mov (.tmp 0), none⟩,
 ⟨(some 26), .call (.func 32) [(.tmp 25)] .pure, none⟩,
 ⟨(some 24), .mov (.tmp 26), none⟩,
 ⟨(some 27), .ext (.tmp 24) 0, none⟩,
 ⟨(some 28), .ext (.tmp 24) 1, none⟩,
 ⟨(some 5), .mov (.tmp 27), none⟩,
 ⟨(some 6), .mov (.tmp 28), none⟩]) (
 .trim [0, 3, 4, 5, 6] [] [] (
 .seq (
 .reg [⟨(some 30), .mov (.tmp 0), none⟩,
 ⟨(some 31), .call (.func 33) [(.tmp 30)] .pure, none⟩,
 ⟨(some 29), .mov (.tmp 31), none⟩,
 ⟨(some 32), .ext (.tmp 29) 0, none⟩,
 ⟨(some 33), .ext (.tmp 29) 1, none⟩,
 ⟨(some 7), .alloc 42 [(.val (.int .i64 0)), (.val (.int .i64 0)), (.val (.string ⟨#[]⟩)), (.val (.int .i64 0)), (.val (.int .i64 0)), (.val (.string ⟨#[]⟩)), (.val (.int .i64 0)), (.val (.int .i64 0)), (.val (.string ⟨#[]⟩)), (.val (.int .i64 0)), (.val (.int .i64 0)), (.val (.string ⟨#[]⟩))], none⟩,
 ⟨none, .store 12 (.tmp 7) (.tmp 32), none⟩,
 ⟨(some 8), .mov (.tmp 33), none⟩]) (
 .trim [0, 3, 4, 5, 6, 7, 8] [7] [] (
 .seq (
 .reg [⟨(some 35), .mov (.tmp 0), none⟩,
 ⟨(some 36), .call (.func 34) [(.tmp 35)] .pure, none⟩,
 ⟨(some 34), .mov (.tmp 36), none⟩,
 ⟨(some 37), .ext (.tmp 34) 0, none⟩,
 ⟨(some 38), .ext (.tmp 34) 1, none⟩,
 ⟨(some 9), .alloc 42 [(.val (.int .i64 0)), (.val (.int .i64 0)), (.val (.string ⟨#[]⟩)), (.val (.int .i64 0)), (.val (.int .i64 0)), (.val (.string ⟨#[]⟩)), (.val (.int .i64 0)), (.val (.int .i64 0)), (.val (.string ⟨#[]⟩)), (.val (.int .i64 0)), (.val (.int .i64 0)), (.val (.string ⟨#[]⟩))], none⟩,
 ⟨none, .store 12 (.tmp 9) (.tmp 37), none⟩,
 ⟨(some 10), .mov (.tmp 38), none⟩]) (
 .trim [0, 3, 4, 5, 6, 7, 8, 9, 10] [7, 9] [] (
 .seq (
 .seq (
 .reg [⟨(some 39), .mov (.tmp 3), none⟩,
 ⟨(some 40), .mov (.tmp 5), none⟩,
 ⟨(some 41), .call (.func 16) [(.tmp 39), (.tmp 40)] .pure, none⟩,
 ⟨(some 42), .un .not (.tmp 41), none⟩,
 ⟨(some 43), .mov (.tmp 42), none⟩,
 ⟨(some 44), .mov (.tmp 4), (some (43, false))⟩,
 ⟨(some 45), .bin .eql (.tmp 44) (.const (.int .i64 0)), (some (43, false))⟩,
 ⟨(some 46), .mov (.tmp 6), (some (43, false))⟩,
 ⟨(some 47), .binB true (.tmp 45) (.tmp 46), (some (43, false))⟩,
 ⟨(some 48), .pick (.tmp 43) (.const (.bool true)) (.tmp 47), none⟩,
 ⟨(some 49), .mov (.tmp 48), none⟩,
 ⟨(some 50), .load (some 12) (.tmp 7), (some (49, false))⟩,
 ⟨(some 51), .load (some 12) (.tmp 9), (some (49, false))⟩,
 ⟨(some 52), .eqs true [.i, .i, .s, .i, .i, .s, .i, .i, .s, .i, .i, .s] (.tmp 50) (.tmp 51), (some (49, false))⟩,
 ⟨(some 53), .pick (.tmp 49) (.const (.bool true)) (.tmp 52), none⟩,
 ⟨(some 54), .mov (.tmp 53), none⟩,
 ⟨(some 55), .mov (.tmp 8), (some (54, false))⟩,
 ⟨(some 56), .bin .eql (.tmp 55) (.const (.int .i64 0)), (some (54, false))⟩,
 ⟨(some 57), .mov (.tmp 10), (some (54, false))⟩,
 ⟨(some 58), .binB true (.tmp 56) (.tmp 57), (some (54, false))⟩,
 ⟨(some 59), .pick (.tmp 54) (.const (.bool true)) (.tmp 58), none⟩,
 ⟨(some 60), .mov (.tmp 59), none⟩,
 ⟨(some 61), .mov (.tmp 6), (some (60, false))⟩,
 ⟨(some 62), .un .not (.tmp 61), (some (60, false))⟩,
 ⟨(some 63), .mov (.tmp 62), (some (60, false))⟩,
 ⟨(some 64), .mov (.tmp 4), (some (63, true))⟩,
 ⟨(some 65), .bin .neq (.tmp 64) (.const (.int .i64 2)), (some (63, true))⟩,
 ⟨(some 66), .pick (.tmp 63) (.tmp 65) (.const (.bool false)), (some (60, false))⟩,
 ⟨(some 67), .pick (.tmp 60) (.const (.bool true)) (.tmp 66), none⟩,
 ⟨(some 68), .mov (.tmp 67), none⟩,
 ⟨(some 69), .mov (.tmp 10), (some (68, false))⟩,
 ⟨(some 70), .un .not (.tmp 69), (some (68, false))⟩,
 ⟨(some 71), .mov (.tmp 70), (some (68, false))⟩,
 ⟨(some 72), .mov (.tmp 8), (some (71, true))⟩,
 ⟨(some 73), .bin .neq (.tmp 72) (.const (.int .i64 2)), (some (71, true))⟩,
 ⟨(some 74), .pick (.tmp 71) (.tmp 73) (.const (.bool false)), (some (68, false))⟩,
 ⟨(some 75), .pick (.tmp 68) (.const (.bool true)) (.tmp 74), none⟩]) (
 .trim [0, 3, 6, 7, 10, 75] [7] [] (
 .cond (.tmp 75) (
 .seq (
 .reg [⟨(some 2), .mov (.const (.bool false)), none⟩]) (
 .ret)) (
 .skip)))) (
 .trim [0, 3, 6, 7, 10] [7] [] (
 .seq (
 .reg [⟨(some 76), .mov (.tmp 6), none⟩,
 ⟨(some 77), .un .not (.tmp 76), none⟩,
 ⟨(some 78), .mov (.tmp 77), none⟩,
 ⟨(some 79), .mov (.tmp 3), (some (78, false))⟩,
 ⟨(some 80), .call (.func 31) [(.tmp 79)] .pure, (some (78, false))⟩,
 ⟨(some 81), .mov (.tmp 0), (some (78, false))⟩,
 ⟨(some 82), .bin .eql (.tmp 80) (.tmp 81), (some (78, false))⟩,
 ⟨(some 83), .pick (.tmp 78) (.const (.bool true)) (.tmp 82), none⟩,
 ⟨(some 84), .mov (.tmp 83), none⟩,
 ⟨(some 85), .mov (.tmp 10), (some (84, true))⟩,
 ⟨(some 86), .un .not (.tmp 85), (some (84, true))⟩,
 ⟨(some 87), .mov (.tmp 86), (some (84, true))⟩,
 ⟨(some 88), .load (some 12) (.tmp 7), (some (87, false))⟩,
 ⟨(some 89), .call (.func 35) [(.tmp 88)] .pure, (some (87, false))⟩,
 ⟨(some 90), .mov (.tmp 0), (some (87, false))⟩,
 ⟨(some 91), .bin .eql (.tmp 89) (.tmp 90), (some (87, false))⟩,
 ⟨(some 92), .pick (.tmp 87) (.const (.bool true)) (.tmp 91), (some (84, true))⟩,
 ⟨(some 93), .pick (.tmp 84) (.tmp 92) (.const (.bool false)), none⟩,
 ⟨(some 2), .mov (.tmp 93), none⟩]) (
 .ret)))))))))))))))
theorem r9 : Runs Tryz.prog 9 m9.strip [.mov (.tmp 2)] 94 := ⟨by kernel_rfl, by kernel_rfl, Tryz.f9, Tryz.f9.body.getD .skip, Tryz.func9, by kernel_rfl, by kernel_rfl, by kernel_rfl, by kernel_rfl, by kernel_rfl⟩

def m27 : MC :=
 .seq (
 .reg [⟨(some 0), .mov (.const (.bool false)), none⟩]) (
 .trim [] [] [] (
 .seq (
 .reg [⟨(some 12), .call (.func 28) [(.const (.slice none 0 0))] .pure, none⟩,
 ⟨(some 11), .mov (.tmp 12), none⟩,
 ⟨(some 13), .ext (.tmp 11) 0, none⟩,
 ⟨(some 14), .ext (.tmp 11) 1, none⟩,
 ⟨(some 1), .mov (.tmp 13), none⟩,
 ⟨(some 2), .mov (.tmp 14), none⟩]) (
 .trim [1, 2] [] [] (
 .seq (
 .reg [⟨(some 16), .build [(.val (.int .i64 0)), (.val (.int .i64 0)), (.val (.string ⟨#[]⟩))] [(0, 1, (.const (.int .i64 1))), (1, 1, (.const (.int .i64 1)))], none⟩,
 ⟨(some 17), .build [(.val (.int .i64 0)), (.val (.int .i64 0)), (.val (.string ⟨#[]⟩)), (.val (.int .i64 0)), (.val (.int .i64 0)), (.val (.string ⟨#[]⟩)), (.val (.int .i64 0)), (.val (.int .i64 0)), (.val (.string ⟨#[]⟩)), (.val (.int .i64 0)), (.val (.int .i64 0)), (.val (.string ⟨#[]⟩))] [(0, 3, (.tmp 16))], none⟩,
 ⟨(some 18), .call (.func 36) [(.tmp 17)] .pure, none⟩,
 ⟨(some 15), .mov (.tmp 18), none⟩,
 ⟨(some 19), .ext (.tmp 15) 0, none⟩,
 ⟨(some 20), .ext (.tmp 15) 1, none⟩,
 ⟨(some 3), .mov (.tmp 19), none⟩,
 ⟨(some 4), .mov (.tmp 20), none⟩]) (
 .trim [1, 2, 3, 4] [] [] (
 .seq (
 .reg [⟨(some 22), .build [(.val (.int .i64 0)), (.val (.int .i64 0)), (.val (.string ⟨#[]⟩))] [(0, 1, (.const (.int .i64 3)))], none⟩,
 ⟨(some 23), .build [(.val (.int .i64 0)), (.val (.int .i64 0)), (.val (.string ⟨#[]⟩)), (.val (.int .i64 0)), (.val (.int .i64 0)), (.val (.string ⟨#[]⟩)), (.val (.int .i64 0)), (.val (.int .i64 0)), (.val (.string ⟨#[]⟩)), (.val (.int .i64 0)), (.val (.int .i64 0)), (.val (.string ⟨#[]⟩))] [(0, 3, (.tmp 22))], none⟩,
 ⟨(some 24), .call (.func 36) [(.tmp 23)] .pure, none⟩,
 ⟨(some 21), .mov (.tmp 24), none⟩,
 ⟨(some 25), .ext (.tmp 21) 0, none⟩,
 ⟨(some 26), .ext (.tmp 21) 1, none⟩,
 ⟨(some 5), .mov (.tmp 25), none⟩,
 ⟨(some 6), .mov (.tmp 26), none⟩]) (
 .trim [1, 2, 3, 4, 6] [] [] (
 .seq (
 .reg [⟨(some 28), .call (.func 29) [(.const (.string ⟨#[1]⟩))] .pure, none⟩,
 ⟨(some 27), .mov (.tmp 28), none⟩,
 ⟨(some 29), .ext (.tmp 27) 0, none⟩,
 ⟨(some 30), .ext (.tmp 27) 1, none⟩,
 ⟨(some 7), .mov (.tmp 29), none⟩,
 ⟨(some 8), .mov (.tmp 30), none⟩]) (
 .trim [1, 2, 3, 4, 6, 8] [] [] (
 .seq (
 .reg [⟨(some 32), .mov (.tmp 3), none⟩,
 ⟨(some 33), .call (.func 33) [(.tmp 32)] .pure, none⟩,
 ⟨(some 31), .mov (.tmp 33), none⟩,
 ⟨(some 34), .ext (.tmp 31) 0, none⟩,
 ⟨(some 35), .ext (.tmp 31) 1, none⟩,
 ⟨(some 9), .alloc 42 [(.val (.int .i64 0)), (.val (.int .i64 0)), (.val (.string ⟨#[]⟩)), (.val (.int .i64 0)), (.val (.int .i64 0)), (.val (.string ⟨#[]⟩)), (.val (.int .i64 0)), (.val (.int .i64 0)), (.val (.string ⟨#[]⟩)), (.val (.int .i64 0)), (.val (.int .i64 0)), (.val (.string ⟨#[]⟩))], none⟩,
 ⟨none, .store 12 (.tmp 9) (.tmp 34), none⟩,
 ⟨(some 10), .mov (.tmp 35), none⟩]) (
 .trim [1, 2, 3, 4, 6, 8, 9, 10] [9] [] (
 .seq (
 .reg [⟨(some 36), .mov (.tmp 1), none⟩,
 ⟨(some 37), .bin .eql (.tmp 36) (.const (.string ⟨#[0]⟩)), none⟩,
 ⟨(some 38), .mov (.tmp 37), none⟩,
 ⟨(some 39), .mov (.tmp 2), (some (38, true))⟩,
 ⟨(some 40), .bin .eql (.tmp 39) (.const (.int .i64 0)), (some (38, true))⟩,
 ⟨(some 41), .pick (.tmp 38) (.tmp 40) (.const (.bool false)), none⟩,
 ⟨(some 42), .mov (.tmp 41), none⟩,
 ⟨(some 43), .mov (.tmp 3), (some (42, true))⟩,
 ⟨(some 44), .bin .eql (.tmp 43) (.const (.string ⟨#[1, 2, 0, 0, 0]⟩)), (some (42, true))⟩,
 ⟨(some 45), .pick (.tmp 42) (.tmp 44) (.const (.bool false)), none⟩,
 ⟨(some 46), .mov (.tmp 45), none⟩,
 ⟨(some 47), .mov (.tmp 4), (some (46, true))⟩,
 ⟨(some 48), .bin .eql (.tmp 47) (.const (.int .i64 0)), (some (46, true))⟩,
 ⟨(some 49), .pick (.tmp 46) (.tmp 48) (.const (.bool false)), none⟩,
 ⟨(some 50), .mov (.tmp 49), none⟩,
 ⟨(some 51), .mov (.tmp 6), (some (50, true))⟩,
 ⟨(some 52), .bin .eql (.tmp 51) (.const (.int .i64 1)), (some (50, true))⟩,
 ⟨(some 53), .pick (.tmp 50) (.tmp 52) (.const (.bool false)), none⟩,
 ⟨(some 54), .mov (.tmp 53), none⟩,
 ⟨(some 55), .mov (.tmp 8), (some (54, true))⟩,
 ⟨(some 56), .bin .eql (.tmp 55) (.const (.int .i64 2)), (some (54, true))⟩,
 ⟨(some 57), .pick (.tmp 54) (.tmp 56) (.const (.bool false)), none⟩,
 ⟨(some 58), .mov (.tmp 57), none⟩,
 ⟨(some 59), .iaddrA 4 3 (.tmp 9) (.const (.int .i64 0)), (some (58, true))⟩,
 ⟨(some 60), .faddr 1 (.tmp 59), (some (58, true))⟩,
 ⟨(some 61), .load none (.tmp 60), (some (58, true))⟩,
 ⟨(some 62), .bin .eql (.tmp 61) (.const (.int .i64 1)), (some (58, true))⟩,
 ⟨(some 63), .pick (.tmp 58) (.tmp 62) (.const (.bool false)), none⟩,
 ⟨(some 64), .mov (.tmp 63), none⟩,
 ⟨(some 65), .mov (.tmp 10), (some (64, true))⟩,
 ⟨(some 66), .bin .eql (.tmp 65) (.const (.int .i64 0)), (some (64, true))⟩,
 ⟨(some 67), .pick (.tmp 64) (.tmp 66) (.const (.bool false)), none⟩,
 ⟨(some 0), .mov (.tmp 67), none⟩]) (
 .ret)))))))))))))
theorem r27 : Runs Tryz.prog 27 m27.strip [.mov (.tmp 0)] 68 := ⟨by kernel_rfl, by kernel_rfl, Tryz.f27, Tryz.f27.body.getD .skip, Tryz.func27, by kernel_rfl, by kernel_rfl, by kernel_rfl, by kernel_rfl, by kernel_rfl⟩

def m32 : MC :=
 .seq (
 .reg [⟨(some 2), .nilsl 49 16, none⟩,
 ⟨(some 3), .mov (.const (.bool false)), none⟩]) (
 .trim [0] [] [] (
 .seq (
 .reg [⟨(some 7), .mov (.tmp 0), none⟩,
 ⟨(some 8), .build [(.val (.string ⟨#[]⟩)), (.val (.int .i64 0)), (.val (.int .i64 0))] [(0, 1, (.tmp 7))], none⟩,
 ⟨(some 9), .box 105 3 (.tmp 8), none⟩,
 ⟨(some 4), .mov (.tmp 9), none⟩]) (
 .trim [0, 4] [9] [] (
 .seq (
 .reg [⟨(some 11), .mov (.tmp 4), none⟩,
 ⟨(some 12), .call (.func 71) [(.tmp 11)] (.obj [(9, 1000000)] [] [] []), none⟩,
 ⟨(some 10), .mov (.tmp 12), none⟩,
 ⟨(some 13), .ext (.tmp 10) 0, none⟩,
 ⟨(some 14), .ext (.tmp 10) 1, none⟩,
 ⟨(some 5), .mov (.tmp 13), none⟩,
 ⟨(some 6), .mov (.tmp 14), none⟩]) (
 .trim [0, 4, 5, 6] [9] [] (
 .seq (
 .seq (
 .reg [⟨(some 15), .mov (.tmp 6), none⟩,
 ⟨(some 16), .un .not (.tmp 15), none⟩,
 ⟨(some 17), .mov (.tmp 16), none⟩,
 ⟨(some 18), .mov (.tmp 4), (some (17, false))⟩,
 ⟨(some 19), .nilck (.tmp 18), (some (17, false))⟩,
 ⟨(some 20), .faddr 1 (.tmp 19), (some (17, false))⟩,
 ⟨(some 21), .load none (.tmp 20), (some (17, false))⟩,
 ⟨(some 22), .mov (.tmp 0), (some (17, false))⟩,
 ⟨(some 23), .lenS (.tmp 22), (some (17, false))⟩,
 ⟨(some 24), .bin .neq (.tmp 21) (.tmp 23), (some (17, false))⟩,
 ⟨(some 25), .pick (.tmp 17) (.const (.bool true)) (.tmp 24), none⟩]) (
 .trim [5, 25] [] [] (
 .cond (.tmp 25) (
 .seq (
 .reg [⟨(some 2), .nilsl 49 16, none⟩,
 ⟨(some 3), .mov (.const (.bool false)), none⟩]) (
 .ret)) (
 .skip)))) (
 .trim [5] [] [] (
 .seq (
 .reg [⟨(some 26), .mov (.tmp 5), none⟩,
 ⟨(some 2), .mov (.tmp 26), none⟩,
 ⟨(some 3), .mov (.const (.bool true)), none⟩]) (
 .ret)))))))))
theorem r32 : Runs Tryz.prog 32 m32.strip [.mov (.tmp 2), .mov (.tmp 3)] 27 := ⟨by kernel_rfl, by kernel_rfl, Tryz.f32, Tryz.f32.body.getD .skip, Tryz.func32, by kernel_rfl, by kernel_rfl, by kernel_rfl, by kernel_rfl, by kernel_rfl⟩

def m34 : MC :=
 .seq (
 .reg [⟨(some 2), .alloc 42 [(.val (.int .i64 0)), (.val (.int .i64 0)), (.val (.string ⟨#[]⟩)), (.val (.int .i64 0)), (.val (.int .i64 0)), (.val (.string ⟨#[]⟩)), (.val (.int .i64 0)), (.val (.int .i64 0)), (.val (.string ⟨#[]⟩)), (.val (.int .i64 0)), (.val (.int .i64 0)), (.val (.string ⟨#[]⟩))], none⟩,
 ⟨(some 3), .mov (.const (.bool false)), none⟩]) (
 .trim [0, 2] [2] [] (
 .seq (
 .reg [⟨(some 7), .mov (.tmp 0), none⟩,
 ⟨(some 8), .build [(.val (.string ⟨#[]⟩)), (.val (.int .i64 0)), (.val (.int .i64 0))] [(0, 1, (.tmp 7))], none⟩,
 ⟨(some 9), .box 105 3 (.tmp 8), none⟩,
 ⟨(some 4), .mov (.tmp 9), none⟩]) (
 .trim [0, 2, 4] [2, 9] [] (
 .seq (
 .reg [⟨(some 11), .mov (.tmp 4), none⟩,
 ⟨(some 12), .call (.func 73) [(.tmp 11)] (.obj [(9, 1000000)] [] [] []), none⟩,
 ⟨(some 10), .mov (.tmp 12), none⟩,
 ⟨(some 13), .ext (.tmp 10) 0, none⟩,
 ⟨(some 14), .ext (.tmp 10) 1, none⟩,
 ⟨(some 5), .alloc 42 [(.val (.int .i64 0)), (.val (.int .i64 0)), (.val (.string ⟨#[]⟩)), (.val (.int .i64 0)), (.val (.int .i64 0)), (.val (.string ⟨#[]⟩)), (.val (.int .i64 0)), (.val (.int .i64 0)), (.val (.string ⟨#[]⟩)), (.val (.int .i64 0)), (.val (.int .i64 0)), (.val (.string ⟨#[]⟩))], none⟩,
 ⟨none, .store 12 (.tmp 5) (.tmp 13), none⟩,
 ⟨(some 6), .mov (.tmp 14), none⟩]) (
 .trim [0, 2, 4, 5, 6] [2, 5, 9] [] (
 .seq (
 .seq (
 .reg [⟨(some 15), .mov (.tmp 6), none⟩,
 ⟨(some 16), .un .not (.tmp 15), none⟩,
 ⟨(some 17), .mov (.tmp 16), none⟩,
 ⟨(some 18), .mov (.tmp 4), (some (17, false))⟩,
 ⟨(some 19), .nilck (.tmp 18), (some (17, false))⟩,
 ⟨(some 20), .faddr 1 (.tmp 19), (some (17, false))⟩,
 ⟨(some 21), .load none (.tmp 20), (some (17, false))⟩,
 ⟨(some 22), .mov (.tmp 0), (some (17, false))⟩,
 ⟨(some 23), .lenS (.tmp 22), (some (17, false))⟩,
 ⟨(some 24), .bin .neq (.tmp 21) (.tmp 23), (some (17, false))⟩,
 ⟨(some 25), .pick (.tmp 17) (.const (.bool true)) (.tmp 24), none⟩]) (
 .trim [2, 5, 25] [2, 5] [] (
 .cond (.tmp 25) (
 .seq (
 .reg [⟨(some 26), .build [(.val (.int .i64 0)), (.val (.int .i64 0)), (.val (.string ⟨#[]⟩)), (.val (.int .i64 0)), (.val (.int .i64 0)), (.val (.string ⟨#[]⟩)), (.val (.int .i64 0)), (.val (.int .i64 0)), (.val (.string ⟨#[]⟩)), (.val (.int .i64 0)), (.val (.int .i64 0)), (.val (.string ⟨#[]⟩))] [], none⟩,
 ⟨none, .store 12 (.tmp 2) (.tmp 26), none⟩,
 ⟨(some 3), .mov (.const (.bool false)), none⟩]) (
 .ret)) (
 .skip)))) (
 .trim [2, 5] [2, 5] [] (
 .seq (
 .reg [⟨(some 27), .load (some 12) (.tmp 5), none⟩,
 ⟨none, .store 12 (.tmp 2) (.tmp 27), none⟩,
 ⟨(some 3), .mov (.const (.bool true)), none⟩]) (
 .ret)))))))))
theorem r34 : Runs Tryz.prog 34 m34.strip [.load (some 12) (.tmp 2), .mov (.tmp 3)] 28 := ⟨by kernel_rfl, by kernel_rfl, Tryz.f34, Tryz.f34.body.getD .skip, Tryz.func34, by kernel_rfl, by kernel_rfl, by kernel_rfl, by kernel_rfl, by kernel_rfl⟩

def m71 : MC :=
 .seq (
 .reg [⟨(some 2), .nilsl 49 16, none⟩,
 ⟨(some 3), .mov (.const (.bool false)), none⟩]) (
 .trim [0] [1000000] [] (
 .seq (
 .reg [⟨(some 11), .mov (.tmp 0), none⟩,
 ⟨(some 12), .call (.func 111) [(.tmp 11)] (.obj [(1000000, 1000000)] [] [] []), none⟩,
 ⟨(some 4), .mov (.tmp 12), none⟩]) (
 .trim [0, 4] [1000000] [] (
 .seq (
 .seq (
 .reg [⟨(some 13), .mov (.tmp 4), none⟩,
 ⟨(some 14), .bin .gtr (.tmp 13) (.const (.int .u64 4)), none⟩]) (
 .trim [0, 4, 14] [1000000] [] (
 .cond (.tmp 14) (
 .seq (
 .reg [⟨(some 2), .nilsl 49 16, none⟩,
 ⟨(some 3), .mov (.const (.bool false)), none⟩]) (
 .fz [2] (
 .ret))) (
 .skip)))) (
 .trim [0, 4] [1000000] [] (
 .seq (
 .reg [⟨(some 5), .nilsl 49 16, none⟩]) (
 .trim [0, 4, 5] [1000000] [(5, 49, 16)] (
 .seq (
 .seq (
 .reg [⟨(some 6), .mov (.const (.int .u64 0)), none⟩]) (
 .trim [0, 4, 5, 6] [1000000] [(5, 49, 16)] (
 .block 0 (
 .loop (
 .trim [0, 4, 5, 6] [1000000] [(5, 49, 16)] (
 .seq (
 .seq (
 .reg [⟨(some 15), .mov (.tmp 6), none⟩,
 ⟨(some 16), .mov (.tmp 4), none⟩,
 ⟨(some 17), .bin .lss (.tmp 15) (.tmp 16), none⟩]) (
 .trim [0, 4, 5, 6, 17] [1000000] [(5, 49, 16)] (
 .cond (.tmp 17) (
 .skip) (
 .exit 0)))) (
 .trim [0, 4, 5, 6] [1000000] [(5, 49, 16)] (
 .seq (
 .block 1 (
 .seq (
 .reg [⟨(some 20), .build [(.val (.bool false)), (.sl none []), (.val (.bool false)), (.sl none []), (.val (.bool false)), (.sl none []), (.val (.bool false)), (.sl none []), (.val (.bool false)), (.sl none []), (.val (.bool false)), (.sl none []), (.val (.bool false)), (.sl none []), (.val (.bool false)), (.sl none [])] [], none⟩,
 ⟨(some 7), .alloc 49 [(.val (.bool false)), (.sl none []), (.val (.bool false)), (.sl none []), (.val (.bool false)), (.sl none []), (.val (.bool false)), (.sl none []), (.val (.bool false)), (.sl none []), (.val (.bool false)), (.sl none []), (.val (.bool false)), (.sl none []), (.val (.bool false)), (.sl none [])], none⟩,
 ⟨none, .store 16 (.tmp 7) (.tmp 20), none⟩]) (
 .trim [0, 4, 5, 6, 7] [7, 1000000] [(5, 49, 16)] (
 .seq (
 .seq (
 .reg [⟨(some 8), .mov (.const (.int .i64 0)), none⟩]) (
 .trim [0, 4, 5, 6, 7, 8] [7, 1000000] [(5, 49, 16)] (
 .block 2 (
 .loop (
 .trim [0, 4, 5, 6, 7, 8] [7, 1000000] [(5, 49, 16)] (
 .seq (
 .seq (
 .reg [⟨(some 21), .mov (.tmp 8), none⟩,
 ⟨(some 22), .bin .lss (.tmp 21) (.const (.int .i64 4)), none⟩]) (
 .trim [0, 4, 5, 6, 7, 8, 22] [7, 1000000] [(5, 49, 16)] (
 .cond (.tmp 22) (
 .skip) (
 .exit 2)))) (
 .trim [0, 4, 5, 6, 7, 8] [7, 1000000] [(5, 49, 16)] (
 .seq (
 .block 3 (
 .seq (
 .reg [⟨(some 26), .mov (.tmp 0), none⟩,
 ⟨(some 27), .call (.func 112) [(.tmp 26)] (.obj [(1000000, 1000000)] [] [] []), none⟩,
 ⟨(some 25), .mov (.tmp 27), none⟩,
 ⟨(some 28), .ext (.tmp 25) 0, none⟩,
 ⟨(some 29), .ext (.tmp 25) 1, none⟩,
 ⟨(some 9), .alloc 25 [(.val (.bool false)), (.sl none []), (.val (.bool false)), (.sl none [])], none⟩,
 ⟨none, .store 4 (.tmp 9) (.tmp 28), none⟩,
 ⟨(some 10), .mov (.tmp 29), none⟩]) (
 .trim [0, 4, 5, 6, 7, 8, 9, 10] [7, 9, 1000000] [(5, 49, 16)] (
 .seq (
 .seq (
 .reg [⟨(some 30), .mov (.tmp 10), none⟩,
 ⟨(some 31), .un .not (.tmp 30), none⟩]) (
 .trim [0, 4, 5, 6, 7, 8, 9, 31] [7, 9, 1000000] [(5, 49, 16)] (
 .cond (.tmp 31) (
 .seq (
 .reg [⟨(some 2), .nilsl 49 16, none⟩,
 ⟨(some 3), .mov (.const (.bool false)), none⟩]) (
 .fz [2] (
 .ret))) (
 .skip)))) (
 .trim [0, 4, 5, 6, 7, 8, 9] [7, 9, 1000000] [(5, 49, 16)] (
 .reg [⟨(some 32), .mov (.tmp 8), none⟩,
 ⟨(some 33), .load (some 4) (.tmp 9), none⟩,
 ⟨(some 34), .iaddrA 4 4 (.tmp 7) (.tmp 32), none⟩,
 ⟨none, .store 4 (.tmp 34) (.tmp 33), none⟩])))))) (
 .trim [0, 4, 5, 6, 7, 8] [7, 1000000] [(5, 49, 16)] (
 .reg [⟨(some 23), .mov (.tmp 8), none⟩,
 ⟨(some 24), .bin .add (.tmp 23) (.const (.int .i64 1)), none⟩,
 ⟨(some 8), .mov (.tmp 24), none⟩])))))))))) (
 .trim [0, 4, 5, 6, 7] [7, 1000000] [(5, 49, 16)] (
 .reg [⟨(some 35), .mov (.tmp 5), none⟩,
 ⟨(some 36), .load (some 16) (.tmp 7), none⟩,
 ⟨(some 37), .bslice 49 16 [(.val (.bool false)), (.sl none []), (.val (.bool false)), (.sl none []), (.val (.bool false)), (.sl none []), (.val (.bool false)), (.sl none []), (.val (.bool false)), (.sl none []), (.val (.bool false)), (.sl none []), (.val (.bool false)), (.sl none []), (.val (.bool false)), (.sl none [])] 1 [(0, 16, (.tmp 36))], none⟩,
 ⟨(some 38), .append 49 16 256 (.tmp 35) (.tmp 37), none⟩,
 ⟨(some 5), .mov (.tmp 38), none⟩])))))) (
 .trim [0, 4, 5, 6] [1000000] [(5, 49, 16)] (
 .reg [⟨(some 18), .mov (.tmp 6), none⟩,
 ⟨(some 19), .bin .add (.tmp 18) (.const (.int .u64 1)), none⟩,
 ⟨(some 6), .mov (.tmp 19), none⟩])))))))))) (
 .trim [0, 5] [1000000] [(5, 49, 16)] (
 .seq (
 .seq (
 .reg [⟨(some 39), .mov (.tmp 0), none⟩,
 ⟨(some 40), .nilck (.tmp 39), none⟩,
 ⟨(some 41), .faddr 2 (.tmp 40), none⟩,
 ⟨(some 42), .load none (.tmp 41), none⟩,
 ⟨(some 43), .bin .neq (.tmp 42) (.const (.int .i64 0)), none⟩,
 ⟨(some 44), .mov (.tmp 43), none⟩,
 ⟨(some 45), .mov (.tmp 5), (some (44, false))⟩,
 ⟨(some 46), .call (.func 19) [(.tmp 45)] .pure, (some (44, false))⟩,
 ⟨(some 47), .un .not (.tmp 46), (some (44, false))⟩,
 ⟨(some 48), .pick (.tmp 44) (.const (.bool true)) (.tmp 47), none⟩]) (
 .trim [5, 48] [1000000] [(5, 49, 16)] (
 .cond (.tmp 48) (
 .seq (
 .reg [⟨(some 2), .nilsl 49 16, none⟩,
 ⟨(some 3), .mov (.const (.bool false)), none⟩]) (
 .fz [2] (
 .ret))) (
 .skip)))) (
 .trim [5] [1000000] [(5, 49, 16)] (
 .seq (
 .reg [⟨(some 49), .mov (.tmp 5), none⟩,
 ⟨(some 2), .mov (.tmp 49), none⟩,
 ⟨(some 3), .mov (.const (.bool true)), none⟩]) (
 .fz [2] (
 .ret))))))))))))))
theorem r71 : Runs Tryz.prog 71 m71.strip [.mov (.tmp 2), .mov (.tmp 3)] 50 := ⟨by kernel_rfl, by kernel_rfl, Tryz.f71, Tryz.f71.body.getD .skip, Tryz.func71, by kernel_rfl, by kernel_rfl, by kernel_rfl, by kernel_rfl, by kernel_rfl⟩

def m73 : MC :=
 .seq (
 .reg [⟨(some 2), .alloc 42 [(.val (.int .i64 0)), (.val (.int .i64 0)), (.val (.string ⟨#[]⟩)), (.val (.int .i64 0)), (.val (.int .i64 0)), (.val (.string ⟨#[]⟩)), (.val (.int .i64 0)), (.val (.int .i64 0)), (.val (.string ⟨#[]⟩)), (.val (.int .i64 0)), (.val (.int .i64 0)), (.val (.string ⟨#[]⟩))], none⟩,
 ⟨(some 3), .mov (.const (.bool false)), none⟩]) (
 .trim [0, 2] [2, 1000000] [] (
 .seq (
 .reg [⟨(some 6), .build [(.val (.int .i64 0)), (.val (.int .i64 0)), (.val (.string ⟨#[]⟩)), (.val (.int .i64 0)), (.val (.int .i64 0)), (.val (.string ⟨#[]⟩)), (.val (.int .i64 0)), (.val (.int .i64 0)), (.val (.string ⟨#[]⟩)), (.val (.int .i64 0)), (.val (.int .i64 0)), (.val (.string ⟨#[]⟩))] [], none⟩,
 ⟨(some 4), .alloc 42 [(.val (.int .i64 0)), (.val (.int .i64 0)), (.val (.string ⟨#[]⟩)), (.val (.int .i64 0)), (.val (.int .i64 0)), (.val (.string ⟨#[]⟩)), (.val (.int .i64 0)), (.val (.int .i64 0)), (.val (.string ⟨#[]⟩)), (.val (.int .i64 0)), (.val (.int .i64 0)), (.val (.string ⟨#[]⟩))], none⟩,
 ⟨none, .store 12 (.tmp 4) (.tmp 6), none⟩]) (
 .trim [0, 2, 4] [2, 4, 1000000] [] (
 .seq (
 .seq (
 .reg [⟨(some 5), .mov (.const (.int .i64 0)), none⟩]) (
 .trim [0, 2, 4, 5] [2, 4, 1000000] [] (
 .block 0 (
 .loop (
 .trim [0, 2, 4, 5] [2, 4, 1000000] [] (
 .seq (
 .seq (
 .reg [⟨(some 7), .mov (.tmp 5), none⟩,
 ⟨(some 8), .bin .lss (.tmp 7) (.const (.int .i64 4)), none⟩]) (
 .trim [0, 2, 4, 5, 8] [2, 4, 1000000] [] (
 .cond (.tmp 8) (
 .skip) (
 .exit 0)))) (
 .trim [0, 2, 4, 5] [2, 4, 1000000] [] (
 .seq (
 .block 1 (
 .seq (
 .reg [⟨(some 11), .mov (.tmp 5), none⟩,
 ⟨(some 12), .mov (.tmp 0), none⟩,
 ⟨(some 13), .call (.func 116) [(.tmp 12)] (.obj [(1000000, 1000000)] [] [] []), none⟩,
 ⟨(some 14), .conv .i64 (.tmp 13), none⟩,
 ⟨(some 15), .iaddrA 4 3 (.tmp 4) (.tmp 11), none⟩,
 ⟨(some 16), .faddr 0 (.tmp 15), none⟩,
 ⟨none, .store 1 (.tmp 16) (.tmp 14), none⟩]) (
 .trim [0, 2, 4, 5] [2, 4, 1000000] [] (
 .seq (
 .seq (
 .reg [⟨(some 17), .mov (.tmp 5), none⟩,
 ⟨(some 18), .iaddrA 4 3 (.tmp 4) (.tmp 17), none⟩,
 ⟨(some 19), .faddr 0 (.tmp 18), none⟩,
 ⟨(some 20), .load none (.tmp 19), none⟩,
 ⟨(some 21), .bin .eql (.tmp 20) (.const (.int .i64 1)), none⟩]) (
 .trim [0, 2, 4, 5, 21] [2, 4, 1000000] [] (
 .cond (.tmp 21) (
 .reg [⟨(some 22), .mov (.tmp 5), none⟩,
 ⟨(some 23), .mov (.tmp 0), none⟩,
 ⟨(some 24), .call (.func 117) [(.tmp 23)] (.obj [(1000000, 1000000)] [] [] []), none⟩,
 ⟨(some 25), .iaddrA 4 3 (.tmp 4) (.tmp 22), none⟩,
 ⟨(some 26), .faddr 1 (.tmp 25), none⟩,
 ⟨none, .store 1 (.tmp 26) (.tmp 24), none⟩]) (
 .skip)))) (
 .trim [0, 2, 4, 5] [2, 4, 1000000] [] (
 .seq (
 .reg [⟨(some 27), .mov (.tmp 5), none⟩,
 ⟨(some 28), .iaddrA 4 3 (.tmp 4) (.tmp 27), none⟩,
 ⟨(some 29), .faddr 0 (.tmp 28), none⟩,
 ⟨(some 30), .load none (.tmp 29), none⟩,
 ⟨(some 31), .bin .eql (.tmp 30) (.const (.int .i64 2)), none⟩]) (
 .trim [0, 2, 4, 5, 31] [2, 4, 1000000] [] (
 .cond (.tmp 31) (
 .reg [⟨(some 32), .mov (.tmp 5), none⟩,
 ⟨(some 33), .mov (.tmp 0), none⟩,
 ⟨(some 34), .call (.func 118) [(.tmp 33), (.const (.int .i64 8))] (.obj [(1000000, 1000000)] [] [] []), none⟩,
 ⟨(some 35), .iaddrA 4 3 (.tmp 4) (.tmp 32), none⟩,
 ⟨(some 36), .faddr 2 (.tmp 35), none⟩,
 ⟨none, .store 1 (.tmp 36) (.tmp 34), none⟩]) (
 .skip))))))))) (
 .trim [0, 2, 4, 5] [2, 4, 1000000] [] (
 .reg [⟨(some 9), .mov (.tmp 5), none⟩,
 ⟨(some 10), .bin .add (.tmp 9) (.const (.int .i64 1)), none⟩,
 ⟨(some 5), .mov (.tmp 10), none⟩])))))))))) (
 .trim [0, 2, 4] [2, 4, 1000000] [] (
 .seq (
 .seq (
 .reg [⟨(some 37), .mov (.tmp 0), none⟩,
 ⟨(some 38), .nilck (.tmp 37), none⟩,
 ⟨(some 39), .faddr 2 (.tmp 38), none⟩,
 ⟨(some 40), .load none (.tmp 39), none⟩,
 ⟨(some 41), .bin .neq (.tmp 40) (.const (.int .i64 0)), none⟩,
 ⟨(some 42), .mov (.tmp 41), none⟩,
 ⟨(some 43), .load (some 12) (.tmp 4), (some (42, false))⟩,
 ⟨(some 44), .call (.func 37) [(.tmp 43)] .pure, (some (42, false))⟩,
 ⟨(some 45), .un .not (.tmp 44), (some (42, false))⟩,
 ⟨(some 46), .pick (.tmp 42) (.const (.bool true)) (.tmp 45), none⟩]) (
 .trim [2, 4, 46] [2, 4, 1000000] [] (
 .cond (.tmp 46) (
 .seq (
 .reg [⟨(some 47), .build [(.val (.int .i64 0)), (.val (.int .i64 0)), (.val (.string ⟨#[]⟩)), (.val (.int .i64 0)), (.val (.int .i64 0)), (.val (.string ⟨#[]⟩)), (.val (.int .i64 0)), (.val (.int .i64 0)), (.val (.string ⟨#[]⟩)), (.val (.int .i64 0)), (.val (.int .i64 0)), (.val (.string ⟨#[]⟩))] [], none⟩,
 ⟨none, .store 12 (.tmp 2) (.tmp 47), none⟩,
 ⟨(some 3), .mov (.const (.bool false)), none⟩]) (
 .ret)) (
 .skip)))) (
 .trim [2, 4] [2, 4, 1000000] [] (
 .seq (
 .reg [⟨(some 48), .load (some 12) (.tmp 4), none⟩,
 ⟨none, .store 12 (.tmp 2) (.tmp 48), none⟩,
 ⟨(some 3), .mov (.const (.bool true)), none⟩]) (
 .ret)))))))))
theorem r73 : Runs Tryz.prog 73 m73.strip [.load (some 12) (.tmp 2), .mov (.tmp 3)] 49 := ⟨by kernel_rfl, by kernel_rfl, Tryz.f73, Tryz.f73.body.getD .skip, Tryz.func73, by kernel_rfl, by kernel_rfl, by kernel_rfl, by kernel_rfl, by kernel_rfl⟩

def m111 : MC :=
 .seq (
 .reg [⟨(some 2), .mov (.const (.int .u64 0)), none⟩]) (
 .trim [0] [1000000] [] (
 .seq (
 .reg [⟨(some 3), .mov (.const (.int .u64 0)), none⟩]) (
 .trim [0, 3] [1000000] [] (
 .seq (
 .reg [⟨(some 4), .mov (.const (.int .i64 0)), none⟩]) (
 .trim [0, 3, 4] [1000000] [] (
 .block 0 (
 .loop (
 .trim [0, 3, 4] [1000000] [] (
 .seq (
 .block 1 (
 .seq (
 .reg [⟨(some 8), .mov (.tmp 0), none⟩,
 ⟨(some 9), .call (.func 116) [(.tmp 8)] (.obj [(1000000, 1000000)] [] [] []), none⟩,
 ⟨(some 5), .mov (.tmp 9), none⟩]) (
 .trim [0, 3, 4, 5] [1000000] [] (
 .seq (
 .seq (
 .reg [⟨(some 10), .mov (.tmp 0), none⟩,
 ⟨(some 11), .nilck (.tmp 10), none⟩,
 ⟨(some 12), .faddr 2 (.tmp 11), none⟩,
 ⟨(some 13), .load none (.tmp 12), none⟩,
 ⟨(some 14), .bin .neq (.tmp 13) (.const (.int .i64 0)), none⟩]) (
 .trim [0, 3, 4, 5, 14] [1000000] [] (
 .cond (.tmp 14) (
 .seq (
 .reg [⟨(some 2), .mov (.const (.int .u64 0)), none⟩]) (
 .ret)) (
 .skip)))) (
 .trim [0, 3, 4, 5] [1000000] [] (
 .seq (
 .seq (
 .reg [⟨(some 15), .mov (.tmp 4), none⟩,
 ⟨(some 16), .bin .eql (.tmp 15) (.const (.int .i64 0)), none⟩,
 ⟨(some 17), .mov (.tmp 16), none⟩,
 ⟨(some 18), .mov (.tmp 5), (some (17, true))⟩,
 ⟨(some 19), .bin .eql (.tmp 18) (.const (.int .u8 128)), (some (17, true))⟩,
 ⟨(some 20), .pick (.tmp 17) (.tmp 19) (.const (.bool false)), none⟩,
 ⟨(some 21), .mov (.tmp 20), none⟩,
 ⟨(some 22), .mov (.tmp 3), (some (21, false))⟩,
 ⟨(some 23), .bin .geq (.tmp 22) (.const (.int .u64 144115188075855872)), (some (21, false))⟩,
 ⟨(some 24), .pick (.tmp 21) (.const (.bool true)) (.tmp 23), none⟩]) (
 .trim [0, 3, 4, 5, 24] [1000000] [] (
 .cond (.tmp 24) (
 .seq (
 .reg [⟨(some 25), .mov (.tmp 0), none⟩,
 ⟨(some 26), .call (.func 143) [(.tmp 25), (.const (.int .i64 2))] (.obj [(1000000, 1000000)] [] [] []), none⟩,
 ⟨(some 2), .mov (.tmp 26), none⟩]) (
 .ret)) (
 .skip)))) (
 .trim [0, 3, 4, 5] [1000000] [] (
 .seq (
 .reg [⟨(some 27), .mov (.tmp 3), none⟩,
 ⟨(some 28), .bin .mul (.tmp 27) (.const (.int .u64 128)), none⟩,
 ⟨(some 29), .mov (.tmp 5), none⟩,
 ⟨(some 30), .bin .rem (.tmp 29) (.const (.int .u8 128)), none⟩,
 ⟨(some 31), .conv .u64 (.tmp 30), none⟩,
 ⟨(some 32), .bin .add (.tmp 28) (.tmp 31), none⟩,
 ⟨(some 3), .mov (.tmp 32), none⟩]) (
 .trim [0, 3, 4, 5] [1000000] [] (
 .seq (
 .reg [⟨(some 33), .mov (.tmp 5), none⟩,
 ⟨(some 34), .bin .lss (.tmp 33) (.const (.int .u8 128)), none⟩]) (
 .trim [0, 3, 4, 34] [1000000] [] (
 .cond (.tmp 34) (
 .seq (
 .reg [⟨(some 35), .mov (.tmp 3), none⟩,
 ⟨(some 2), .mov (.tmp 35), none⟩]) (
 .ret)) (
 .skip))))))))))))) (
 .trim [0, 3, 4] [1000000] [] (
 .reg [⟨(some 6), .mov (.tmp 4), none⟩,
 ⟨(some 7), .bin .add (.tmp 6) (.const (.int .i64 1)), none⟩,
 ⟨(some 4), .mov (.tmp 7), none⟩])))))))))))
theorem r111 : Runs Tryz.prog 111 m111.strip [.mov (.tmp 2)] 36 := ⟨by kernel_rfl, by kernel_rfl, Tryz.f111, Tryz.f111.body.getD .skip, Tryz.func111, by kernel_rfl, by kernel_rfl, by kernel_rfl, by kernel_rfl, by kernel_rfl⟩

def m112 : MC :=
 .seq (
 .reg [⟨(some 2), .alloc 25 [(.val (.bool false)), (.sl none []), (.val (.bool false)), (.sl none [])], none⟩,
 ⟨(some 3), .mov (.const (.bool false)), none⟩]) (
 .trim [0, 2] [2, 1000000] [] (
 .seq (
 .reg [⟨(some 11), .mov (.tmp 0), none⟩,
 ⟨(some 12), .call (.func 116) [(.tmp 11)] (.obj [(1000000, 1000000)] [] [] []), none⟩,
 ⟨(some 4), .mov (.tmp 12), none⟩]) (
 .trim [0, 2, 4] [2, 1000000] [] (
 .seq (
 .reg [⟨(some 13), .mov (.tmp 4), none⟩,
 ⟨(some 14), .bin .rem (.tmp 13) (.const (.int .u8 2)), none⟩,
 ⟨(some 15), .bin .eql (.tmp 14) (.const (.int .u8 1)), none⟩,
 ⟨(some 16), .mov (.tmp 4), none⟩,
 ⟨(some 17), .bin .quo (.tmp 16) (.const (.int .u8 2)), none⟩,
 ⟨(some 18), .bin .eql (.tmp 17) (.const (.int .u8 1)), none⟩,
 ⟨(some 19), .build [(.val (.bool false)), (.val (.slice none 0 0)), (.val (.bool false)), (.val (.slice none 0 0))] [(0, 1, (.tmp 15)), (2, 1, (.tmp 18))], none⟩,
 ⟨(some 5), .alloc 25 [(.val (.bool false)), (.val (.slice none 0 0)), (.val (.bool false)), (.val (.slice none 0 0))], none⟩,
 ⟨none, .store 4 (.tmp 5) (.tmp 19), none⟩]) (
 .trim [0, 2, 4, 5] [2, 5, 1000000] [] (
 .own 5 [(1, (5, 114, 2)), (3, (5, 9, 1))] (
 .seq (
 .reg [⟨(some 20), .mov (.tmp 0), none⟩,
 ⟨(some 21), .call (.func 111) [(.tmp 20)] (.obj [(1000000, 1000000)] [] [] []), none⟩,
 ⟨(some 6), .mov (.tmp 21), none⟩]) (
 .trim [0, 2, 4, 5, 6] [2, 5, 1000000] [(5, 114, 2), (5, 9, 1)] (
 .seq (
 .seq (
 .reg [⟨(some 22), .mov (.tmp 4), none⟩,
 ⟨(some 23), .bin .gtr (.tmp 22) (.const (.int .u8 3)), none⟩,
 ⟨(some 24), .mov (.tmp 23), none⟩,
 ⟨(some 25), .mov (.tmp 6), (some (24, false))⟩,
 ⟨(some 26), .bin .gtr (.tmp 25) (.const (.int .u64 6)), (some (24, false))⟩,
 ⟨(some 27), .pick (.tmp 24) (.const (.bool true)) (.tmp 26), none⟩]) (
 .trim [0, 2, 5, 6, 27] [2, 5, 1000000] [(5, 114, 2), (5, 9, 1)] (
 .cond (.tmp 27) (
 .seq (
 .reg [⟨(some 28), .load (some 4) (.tmp 5), none⟩,
 ⟨none, .store 4 (.tmp 2) (.tmp 28), none⟩,
 ⟨(some 3), .mov (.const (.bool false)), none⟩]) (
 .fzb 2 (
 .ret))) (
 .skip)))) (
 .trim [0, 2, 5, 6] [2, 5, 1000000] [(5, 114, 2), (5, 9, 1)] (
 .seq (
 .seq (
 .reg [⟨(some 7), .mov (.const (.int .u64 0)), none⟩]) (
 .trim [0, 2, 5, 6, 7] [2, 5, 1000000] [(5, 114, 2), (5, 9, 1)] (
 .block 0 (
 .loop (
 .trim [0, 2, 5, 6, 7] [2, 5, 1000000] [(5, 114, 2), (5, 9, 1)] (
 .seq (
 .seq (
 .reg [⟨(some 29), .mov (.tmp 7), none⟩,
 ⟨(some 30), .mov (.tmp 6), none⟩,
 ⟨(some 31), .bin .lss (.tmp 29) (.tmp 30), none⟩]) (
 .trim [0, 2, 5, 6, 7, 31] [2, 5, 1000000] [(5, 114, 2), (5, 9, 1)] (
 .cond (.tmp 31) (
 .skip) (
 .exit 0)))) (
 .trim [0, 2, 5, 6, 7] [2, 5, 1000000] [(5, 114, 2), (5, 9, 1)] (
 .seq (
 .block 1 (
 .seq (
 .reg [⟨(some 34), .mov (.tmp 0), none⟩,
 ⟨(some 35), .call (.func 117) [(.tmp 34)] (.obj [(1000000, 1000000)] [] [] []), none⟩,
 ⟨(some 8), .mov (.tmp 35), none⟩]) (
 .trim [0, 2, 5, 6, 7, 8] [2, 5, 1000000] [(5, 114, 2), (5, 9, 1)] (
 .dany [(⟨(some 36), .faddr 1 (.tmp 5), none⟩, []),
 (⟨(some 37), .load none (.tmp 36), none⟩, [0]),
 (⟨(some 38), .mov (.tmp 8), none⟩, []),
 (⟨(some 39), .mov (.tmp 0), none⟩, []),
 (⟨(some 40), .call (.func 117) [(.tmp 39)] (.obj [(1000000, 1000000)] [] [] []), none⟩, [3]),
 (⟨(some 41), .build [(.val (.int .i64 0)), (.val (.int .i64 0))] [(0, 1, (.tmp 38)), (1, 1, (.tmp 40))], none⟩, [2, 4]),
 (⟨(some 42), .bslice 114 2 [(.val (.int .i64 0)), (.val (.int .i64 0))] 1 [(0, 2, (.tmp 41))], none⟩, [5]),
 (⟨(some 43), .append 114 2 16 (.tmp 37) (.tmp 42), none⟩, [1, 6, 4]),
 (⟨(some 44), .faddr 1 (.tmp 5), none⟩, [0, 1, 2, 3, 4, 5, 6, 7]),
 (⟨none, .store 1 (.tmp 44) (.tmp 43), none⟩, [8, 7, 7, 0, 1, 2, 3, 4, 5, 6, 7])])))) (
 .trim [0, 2, 5, 6, 7] [2, 5, 1000000] [(5, 114, 2), (5, 9, 1)] (
 .reg [⟨(some 32), .mov (.tmp 7), none⟩,
 ⟨(some 33), .bin .add (.tmp 32) (.const (.int .u64 1)), none⟩,
 ⟨(some 7), .mov (.tmp 33), none⟩])))))))))) (
 .trim [0, 2, 5] [2, 5, 1000000] [(5, 114, 2), (5, 9, 1)] (
 .seq (
 .reg [⟨(some 45), .mov (.tmp 0), none⟩,
 ⟨(some 46), .call (.func 111) [(.tmp 45)] (.obj [(1000000, 1000000)] [] [] []), none⟩,
 ⟨(some 9), .mov (.tmp 46), none⟩]) (
 .trim [0, 2, 5, 9] [2, 5, 1000000] [(5, 114, 2), (5, 9, 1)] (
 .seq (
 .seq (
 .reg [⟨(some 47), .mov (.tmp 9), none⟩,
 ⟨(some 48), .bin .gtr (.tmp 47) (.const (.int .u64 6)), none⟩]) (
 .trim [0, 2, 5, 9, 48] [2, 5, 1000000] [(5, 114, 2), (5, 9, 1)] (
 .cond (.tmp 48) (
 .seq (
 .reg [⟨(some 49), .load (some 4) (.tmp 5), none⟩,
 ⟨none, .store 4 (.tmp 2) (.tmp 49), none⟩,
 ⟨(some 3), .mov (.const (.bool false)), none⟩]) (
 .fzb 2 (
 .ret))) (
 .skip)))) (
 .trim [0, 2, 5, 9] [2, 5, 1000000] [(5, 114, 2), (5, 9, 1)] (
 .seq (
 .seq (
 .reg [⟨(some 10), .mov (.const (.int .u64 0)), none⟩]) (
 .trim [0, 2, 5, 9, 10] [2, 5, 1000000] [(5, 114, 2), (5, 9, 1)] (
 .block 2 (
 .loop (
 .trim [0, 2, 5, 9, 10] [2, 5, 1000000] [(5, 114, 2), (5, 9, 1)] (
 .seq (
 .seq (
 .reg [⟨(some 50), .mov (.tmp 10), none⟩,
 ⟨(some 51), .mov (.tmp 9), none⟩,
 ⟨(some 52), .bin .lss (.tmp 50) (.tmp 51), none⟩]) (
 .trim [0, 2, 5, 9, 10, 52] [2, 5, 1000000] [(5, 114, 2), (5, 9, 1)] (
 .cond (.tmp 52) (
 .skip) (
 .exit 2)))) (
 .trim [0, 2, 5, 9, 10] [2, 5, 1000000] [(5, 114, 2), (5, 9, 1)] (
 .seq (
 .block 3 (
 .dany [(⟨(some 55), .faddr 3 (.tmp 5), none⟩, []),
 (⟨(some 56), .load none (.tmp 55), none⟩, [0]),
 (⟨(some 57), .mov (.tmp 0), none⟩, []),
 (⟨(some 58), .call (.func 118) [(.tmp 57), (.const (.int .i64 8))] (.obj [(1000000, 1000000)] [] [] []), none⟩, [2]),
 (⟨(some 59), .bslice 9 1 [(.val (.string ⟨#[]⟩))] 1 [(0, 1, (.tmp 58))], none⟩, [3]),
 (⟨(some 60), .append 9 1 16 (.tmp 56) (.tmp 59), none⟩, [1, 4, 3]),
 (⟨(some 61), .faddr 3 (.tmp 5), none⟩, [0, 1, 2, 3, 4, 5]),
 (⟨none, .store 1 (.tmp 61) (.tmp 60), none⟩, [6, 5, 5, 0, 1, 2, 3, 4, 5])])) (
 .trim [0, 2, 5, 9, 10] [2, 5, 1000000] [(5, 114, 2), (5, 9, 1)] (
 .reg [⟨(some 53), .mov (.tmp 10), none⟩,
 ⟨(some 54), .bin .add (.tmp 53) (.const (.int .u64 1)), none⟩,
 ⟨(some 10), .mov (.tmp 54), none⟩])))))))))) (
 .trim [0, 2, 5] [2, 5, 1000000] [(5, 114, 2), (5, 9, 1)] (
 .seq (
 .dany [(⟨(some 62), .load (some 4) (.tmp 5), none⟩, []),
 (⟨(some 63), .mov (.tmp 0), none⟩, []),
 (⟨(some 64), .nilck (.tmp 63), none⟩, [1]),
 (⟨(some 65), .faddr 2 (.tmp 64), none⟩, [2]),
 (⟨(some 66), .load none (.tmp 65), none⟩, [3]),
 (⟨(some 67), .bin .eql (.tmp 66) (.const (.int .i64 0)), none⟩, [4]),
 (⟨none, .store 4 (.tmp 2) (.tmp 62), none⟩, [0, 0]),
 (⟨(some 3), .mov (.tmp 67), none⟩, [5, 6, 0, 1, 2, 3, 4, 5, 6])]) (
 .fzb 2 (
 .ret)))))))))))))))))))))
theorem r112 : Runs Tryz.prog 112 m112.strip [.load (some 4) (.tmp 2), .mov (.tmp 3)] 68 := ⟨by kernel_rfl, by kernel_rfl, Tryz.f112, Tryz.f112.body.getD .skip, Tryz.func112, by kernel_rfl, by kernel_rfl, by kernel_rfl, by kernel_rfl, by kernel_rfl⟩

def m116 : MC :=
 .seq (
 .reg [⟨(some 2), .mov (.const (.int .u8 0)), none⟩]) (
 .trim [0] [1000000] [] (
 .seq (
 .seq (
 .dreg 17 [⟨(some 3), .mov (.tmp 0), none⟩,
 ⟨(some 4), .nilck (.tmp 3), none⟩,
 ⟨(some 5), .faddr 2 (.tmp 4), none⟩,
 ⟨(some 6), .load none (.tmp 5), none⟩,
 ⟨(some 7), .bin .neq (.tmp 6) (.const (.int .i64 0)), none⟩,
 ⟨(some 8), .mov (.tmp 7), none⟩,
 ⟨(some 9), .mov (.tmp 0), (some (8, false))⟩,
 ⟨(some 10), .nilck (.tmp 9), (some (8, false))⟩,
 ⟨(some 11), .faddr 1 (.tmp 10), (some (8, false))⟩,
 ⟨(some 12), .load none (.tmp 11), (some (8, false))⟩,
 ⟨(some 13), .mov (.tmp 0), (some (8, false))⟩,
 ⟨(some 14), .nilck (.tmp 13), (some (8, false))⟩,
 ⟨(some 15), .faddr 0 (.tmp 14), (some (8, false))⟩,
 ⟨(some 16), .load none (.tmp 15), (some (8, false))⟩,
 ⟨(some 17), .lenS (.tmp 16), (some (8, false))⟩,
 ⟨(some 18), .bin .geq (.tmp 12) (.tmp 17), (some (8, false))⟩,
 ⟨(some 19), .pick (.tmp 8) (.const (.bool true)) (.tmp 18), none⟩]) (
 .trim [0, 19] [1000000] [] (
 .cond (.tmp 19) (
 .seq (
 .reg [⟨(some 20), .mov (.tmp 0), none⟩,
 ⟨(some 21), .call (.func 143) [(.tmp 20), (.const (.int .i64 3))] (.obj [(1000000, 1000000)] [] [] []), none⟩,
 ⟨(some 22), .conv .u8 (.tmp 21), none⟩,
 ⟨(some 2), .mov (.tmp 22), none⟩]) (
 .ret)) (
 .skip)))) (
 .trim [0] [1000000] [] (
 .seq (
 .reg [⟨(some 23), .mov (.tmp 0), none⟩,
 ⟨(some 24), .nilck (.tmp 23), none⟩,
 ⟨(some 25), .faddr 1 (.tmp 24), none⟩,
 ⟨(some 26), .load none (.tmp 25), none⟩,
 ⟨(some 27), .bin .add (.tmp 26) (.const (.int .i64 1)), none⟩,
 ⟨(some 28), .nilck (.tmp 23), none⟩,
 ⟨(some 29), .faddr 1 (.tmp 28), none⟩,
 ⟨none, .store 1 (.tmp 29) (.tmp 27), none⟩]) (
 .trim [0] [1000000] [] (
 .seq (
 .dreg 11 [⟨(some 30), .mov (.tmp 0), none⟩,
 ⟨(some 31), .nilck (.tmp 30), none⟩,
 ⟨(some 32), .faddr 0 (.tmp 31), none⟩,
 ⟨(some 33), .load none (.tmp 32), none⟩,
 ⟨(some 34), .mov (.tmp 0), none⟩,
 ⟨(some 35), .nilck (.tmp 34), none⟩,
 ⟨(some 36), .faddr 1 (.tmp 35), none⟩,
 ⟨(some 37), .load none (.tmp 36), none⟩,
 ⟨(some 38), .bin .sub (.tmp 37) (.const (.int .i64 1)), none⟩,
 ⟨(some 39), .idxS (.tmp 33) (.tmp 38), none⟩,
 ⟨(some 2), .mov (.tmp 39), none⟩]) (
 .ret)))))))
theorem r116 : Runs Tryz.prog 116 m116.strip [.mov (.tmp 2)] 40 := ⟨by kernel_rfl, by kernel_rfl, Tryz.f116, Tryz.f116.body.getD .skip, Tryz.func116, by kernel_rfl, by kernel_rfl, by kernel_rfl, by kernel_rfl, by kernel_rfl⟩

def m117 : MC :=
 .seq (
 .reg [⟨(some 2), .mov (.const (.int .i64 0)), none⟩]) (
 .trim [0] [1000000] [] (
 .seq (
 .reg [⟨(some 4), .mov (.tmp 0), none⟩,
 ⟨(some 5), .call (.func 111) [(.tmp 4)] (.obj [(1000000, 1000000)] [] [] []), none⟩,
 ⟨(some 3), .mov (.tmp 5), none⟩]) (
 .trim [3] [1000000] [] (
 .seq (
 .seq (
 .reg [⟨(some 6), .mov (.tmp 3), none⟩,
 ⟨(some 7), .bin .rem (.tmp 6) (.const (.int .u64 2)), none⟩,
 ⟨(some 8), .bin .eql (.tmp 7) (.const (.int .u64 1)), none⟩]) (
 .trim [3, 8] [1000000] [] (
 .cond (.tmp 8) (
 .seq (
 .reg [⟨(some 9), .mov (.tmp 3), none⟩,
 ⟨(some 10), .bin .quo (.tmp 9) (.const (.int .u64 2)), none⟩,
 ⟨(some 11), .conv .i64 (.tmp 10), none⟩,
 ⟨(some 12), .bin .sub (.const (.int .i64 (-1))) (.tmp 11), none⟩,
 ⟨(some 2), .mov (.tmp 12), none⟩]) (
 .ret)) (
 .skip)))) (
 .trim [3] [1000000] [] (
 .seq (
 .reg [⟨(some 13), .mov (.tmp 3), none⟩,
 ⟨(some 14), .bin .quo (.tmp 13) (.const (.int .u64 2)), none⟩,
 ⟨(some 15), .conv .i64 (.tmp 14), none⟩,
 ⟨(some 2), .mov (.tmp 15), none⟩]) (
 .ret)))))))
theorem r117 : Runs Tryz.prog 117 m117.strip [.mov (.tmp 2)] 16 := ⟨by kernel_rfl, by kernel_rfl, Tryz.f117, Tryz.f117.body.getD .skip, Tryz.func117, by kernel_rfl, by kernel_rfl, by kernel_rfl, by kernel_rfl, by kernel_rfl⟩

def m118 : MC :=
 .seq (
 .reg [⟨(some 4), .mov (.const (.string ⟨#[]⟩)), none⟩]) (
 .trim [0, 1] [1000000] [] (
 .seq (
 .reg [⟨(some 6), .mov (.tmp 0), none⟩,
 ⟨(some 7), .call (.func 111) [(.tmp 6)] (.obj [(1000000, 1000000)] [] [] []), none⟩,
 ⟨(some 5), .mov (.tmp 7), none⟩]) (
 .trim [0, 1, 5] [1000000] [] (
 .seq (
 .seq (
 .reg [⟨(some 8), .mov (.tmp 0), none⟩,
 ⟨(some 9), .nilck (.tmp 8), none⟩,
 ⟨(some 10), .faddr 2 (.tmp 9), none⟩,
 ⟨(some 11), .load none (.tmp 10), none⟩,
 ⟨(some 12), .bin .eql (.tmp 11) (.const (.int .i64 0)), none⟩,
 ⟨(some 13), .mov (.tmp 12), none⟩,
 ⟨(some 14), .mov (.tmp 5), (some (13, true))⟩,
 ⟨(some 15), .mov (.tmp 1), (some (13, true))⟩,
 ⟨(some 16), .minmax true [(.tmp 15), (.const (.int .i64 0))], (some (13, true))⟩,
 ⟨(some 17), .conv .u64 (.tmp 16), (some (13, true))⟩,
 ⟨(some 18), .bin .gtr (.tmp 14) (.tmp 17), (some (13, true))⟩,
 ⟨(some 19), .pick (.tmp 13) (.tmp 18) (.const (.bool false)), none⟩]) (
 .trim [0, 5, 19] [1000000] [] (
 .cond (.tmp 19) (
 .reg [⟨(some 20), .mov (.tmp 0), none⟩,
 ⟨(some 21), .call (.func 143) [(.tmp 20), (.const (.int .i64 9))] (.obj [(1000000, 1000000)] [] [] []), none⟩]) (
 .skip)))) (
 .trim [0, 5] [1000000] [] (
 .seq (
 .seq (
 .dreg 20 [⟨(some 22), .mov (.tmp 0), none⟩,
 ⟨(some 23), .nilck (.tmp 22), none⟩,
 ⟨(some 24), .faddr 2 (.tmp 23), none⟩,
 ⟨(some 25), .load none (.tmp 24), none⟩,
 ⟨(some 26), .bin .eql (.tmp 25) (.const (.int .i64 0)), none⟩,
 ⟨(some 27), .mov (.tmp 26), none⟩,
 ⟨(some 28), .mov (.tmp 5), (some (27, true))⟩,
 ⟨(some 29), .mov (.tmp 0), (some (27, true))⟩,
 ⟨(some 30), .nilck (.tmp 29), (some (27, true))⟩,
 ⟨(some 31), .faddr 0 (.tmp 30), (some (27, true))⟩,
 ⟨(some 32), .load none (.tmp 31), (some (27, true))⟩,
 ⟨(some 33), .lenS (.tmp 32), (some (27, true))⟩,
 ⟨(some 34), .mov (.tmp 0), (some (27, true))⟩,
 ⟨(some 35), .nilck (.tmp 34), (some (27, true))⟩,
 ⟨(some 36), .faddr 1 (.tmp 35), (some (27, true))⟩,
 ⟨(some 37), .load none (.tmp 36), (some (27, true))⟩,
 ⟨(some 38), .bin .sub (.tmp 33) (.tmp 37), (some (27, true))⟩,
 ⟨(some 39), .conv .u64 (.tmp 38), (some (27, true))⟩,
 ⟨(some 40), .bin .gtr (.tmp 28) (.tmp 39), (some (27, true))⟩,
 ⟨(some 41), .pick (.tmp 27) (.tmp 40) (.const (.bool false)), none⟩]) (
 .trim [0, 5, 41] [1000000] [] (
 .cond (.tmp 41) (
 .reg [⟨(some 42), .mov (.tmp 0), none⟩,
 ⟨(some 43), .call (.func 143) [(.tmp 42), (.const (.int .i64 3))] (.obj [(1000000, 1000000)] [] [] []), none⟩]) (
 .skip)))) (
 .trim [0, 5] [1000000] [] (
 .seq (
 .seq (
 .reg [⟨(some 44), .mov (.tmp 0), none⟩,
 ⟨(some 45), .nilck (.tmp 44), none⟩,
 ⟨(some 46), .faddr 2 (.tmp 45), none⟩,
 ⟨(some 47), .load none (.tmp 46), none⟩,
 ⟨(some 48), .bin .neq (.tmp 47) (.const (.int .i64 0)), none⟩]) (
 .trim [0, 5, 48] [1000000] [] (
 .cond (.tmp 48) (
 .seq (
 .reg [⟨(some 4), .mov (.const (.string ⟨#[]⟩)), none⟩]) (
 .ret)) (
 .skip)))) (
 .trim [0, 5] [1000000] [] (
 .seq (
 .reg [⟨(some 49), .mov (.tmp 0), none⟩,
 ⟨(some 50), .nilck (.tmp 49), none⟩,
 ⟨(some 51), .faddr 1 (.tmp 50), none⟩,
 ⟨(some 52), .load none (.tmp 51), none⟩,
 ⟨(some 53), .mov (.tmp 5), none⟩,
 ⟨(some 54), .conv .i64 (.tmp 53), none⟩,
 ⟨(some 55), .bin .add (.tmp 52) (.tmp 54), none⟩,
 ⟨(some 56), .nilck (.tmp 49), none⟩,
 ⟨(some 57), .faddr 1 (.tmp 56), none⟩,
 ⟨none, .store 1 (.tmp 57) (.tmp 55), none⟩]) (
 .trim [0, 5] [1000000] [] (
 .seq (
 .dreg 17 [⟨(some 58), .mov (.tmp 0), none⟩,
 ⟨(some 59), .nilck (.tmp 58), none⟩,
 ⟨(some 60), .faddr 0 (.tmp 59), none⟩,
 ⟨(some 61), .load none (.tmp 60), none⟩,
 ⟨(some 62), .mov (.tmp 0), none⟩,
 ⟨(some 63), .nilck (.tmp 62), none⟩,
 ⟨(some 64), .faddr 1 (.tmp 63), none⟩,
 ⟨(some 65), .load none (.tmp 64), none⟩,
 ⟨(some 66), .mov (.tmp 5), none⟩,
 ⟨(some 67), .conv .i64 (.tmp 66), none⟩,
 ⟨(some 68), .bin .sub (.tmp 65) (.tmp 67), none⟩,
 ⟨(some 69), .mov (.tmp 0), none⟩,
 ⟨(some 70), .nilck (.tmp 69), none⟩,
 ⟨(some 71), .faddr 1 (.tmp 70), none⟩,
 ⟨(some 72), .load none (.tmp 71), none⟩,
 ⟨(some 73), .slcS (.tmp 61) (some (.tmp 68)) (some (.tmp 72)), none⟩,
 ⟨(some 4), .mov (.tmp 73), none⟩]) (
 .ret)))))))))))))
theorem r118 : Runs Tryz.prog 118 m118.strip [.mov (.tmp 4)] 74 := ⟨by kernel_rfl, by kernel_rfl, Tryz.f118, Tryz.f118.body.getD .skip, Tryz.func118, by kernel_rfl, by kernel_rfl, by kernel_rfl, by kernel_rfl, by kernel_rfl⟩

def m143 : MC :=
 .seq (
 .reg [⟨(some 4), .mov (.const (.int .u64 0)), none⟩]) (
 .trim [0, 1] [1000000] [] (
 .seq (
 .seq (
 .reg [⟨(some 5), .mov (.tmp 0), none⟩,
 ⟨(some 6), .nilck (.tmp 5), none⟩,
 ⟨(some 7), .faddr 2 (.tmp 6), none⟩,
 ⟨(some 8), .load none (.tmp 7), none⟩,
 ⟨(some 9), .bin .eql (.tmp 8) (.const (.int .i64 0)), none⟩]) (
 .trim [0, 1, 9] [1000000] [] (
 .cond (.tmp 9) (
 .reg [⟨(some 10), .mov (.tmp 0), none⟩,
 ⟨(some 11), .mov (.tmp 1), none⟩,
 ⟨(some 12), .nilck (.tmp 10), none⟩,
 ⟨(some 13), .faddr 2 (.tmp 12), none⟩,
 ⟨none, .store 1 (.tmp 13) (.tmp 11), none⟩]) (
 .skip)))) (
 .trim [] [1000000] [] (
 .seq (
 .reg [⟨(some 4), .mov (.const (.int .u64 0)), none⟩]) (
 .ret)))))
theorem r143 : Runs Tryz.prog 143 m143.strip [.mov (.tmp 4)] 14 := ⟨by kernel_rfl, by kernel_rfl, Tryz.f143, Tryz.f143.body.getD .skip, Tryz.func143, by kernel_rfl, by kernel_rfl, by kernel_rfl, by kernel_rfl, by kernel_rfl⟩

end Go.Proofs


namespace Go.Proofs
open Go.Vm
def m29 : MC :=
 .seq (
 .reg [⟨(some 2), .nilsl 49 16, none⟩,
 ⟨(some 3), .mov (.const (.int .i64 0)), none⟩]) (
 .trim [0] [] [] (
 .seq (
 .reg [⟨(some 6), .mov (.tmp 0), none⟩,
 ⟨(some 7), .call (.func 61) [(.tmp 6)] (.obj [] [] [(5, 7)] []), none⟩,
 ⟨(some 4), .mov (.tmp 7), none⟩]) (
 .trim [4] [7] [] (
 .seq (
 .reg [⟨(some 8), .mov (.tmp 4), none⟩,
 ⟨(some 9), .call (.func 62) [(.tmp 8)] (.obj [(7, 1000000)] [] [] [((2, 49, 16), (9, 49, 16))]), none⟩,
 ⟨(some 5), .mov (.tmp 9), none⟩]) (
 .trim [4, 5] [7] [(9, 49, 16)] (
 .seq (
 .seq (
 .reg [⟨(some 10), .mov (.tmp 4), none⟩,
 ⟨(some 11), .call (.func 63) [(.tmp 10)] (.obj [(7, 1000000)] [] [] []), none⟩,
 ⟨(some 12), .bin .neq (.tmp 11) (.const (.int .i64 0)), none⟩,
 ⟨(some 13), .mov (.tmp 12), none⟩,
 ⟨(some 14), .mov (.tmp 4), (some (13, false))⟩,
 ⟨(some 15), .call (.func 64) [(.tmp 14)] (.obj [(7, 1000000)] [] [] []), (some (13, false))⟩,
 ⟨(some 16), .bin .gtr (.tmp 15) (.const (.int .i64 0)), (some (13, false))⟩,
 ⟨(some 17), .pick (.tmp 13) (.const (.bool true)) (.tmp 16), none⟩]) (
 .trim [5, 17] [] [(9, 49, 16)] (
 .cond (.tmp 17) (
 .seq (
 .reg [⟨(some 2), .nilsl 49 16, none⟩,
 ⟨(some 3), .mov (.const (.int .i64 2)), none⟩]) (
 .ret)) (
 .skip)))) (
 .trim [5] [] [(9, 49, 16)] (
 .seq (
 .reg [⟨(some 18), .mov (.tmp 5), none⟩,
 ⟨(some 2), .mov (.tmp 18), none⟩,
 ⟨(some 3), .mov (.const (.int .i64 0)), none⟩]) (
 .ret)))))))))
theorem r29 : Runs Tryz.prog 29 m29.strip [.mov (.tmp 2), .mov (.tmp 3)] 19 := ⟨by kernel_rfl, by kernel_rfl, Tryz.f29, Tryz.f29.body.getD .skip, Tryz.func29, by kernel_rfl, by kernel_rfl, by kernel_rfl, by kernel_rfl, by kernel_rfl⟩

def m33 : MC :=
 .seq (
 .reg [⟨(some 2), .alloc 42 [(.val (.int .i64 0)), (.val (.int .i64 0)), (.val (.string ⟨#[]⟩)), (.val (.int .i64 0)), (.val (.int .i64 0)), (.val (.string ⟨#[]⟩)), (.val (.int .i64 0)), (.val (.int .i64 0)), (.val (.string ⟨#[]⟩)), (.val (.int .i64 0)), (.val (.int .i64 0)), (.val (.string ⟨#[]⟩))], none⟩,
 ⟨(some 3), .mov (.const (.int .i64 0)), none⟩]) (
 .trim [0, 2] [2] [] (
 .seq (
 .reg [⟨(some 6), .mov (.tmp 0), none⟩,
 ⟨(some 7), .call (.func 61) [(.tmp 6)] (.obj [] [] [(5, 7)] []), none⟩,
 ⟨(some 4), .mov (.tmp 7), none⟩]) (
 .trim [2, 4] [2, 7] [] (
 .seq (
 .reg [⟨(some 8), .mov (.tmp 4), none⟩,
 ⟨(some 9), .call (.func 72) [(.tmp 8)] (.obj [(7, 1000000)] [] [] []), none⟩,
 ⟨(some 5), .alloc 42 [(.val (.int .i64 0)), (.val (.int .i64 0)), (.val (.string ⟨#[]⟩)), (.val (.int .i64 0)), (.val (.int .i64 0)), (.val (.string ⟨#[]⟩)), (.val (.int .i64 0)), (.val (.int .i64 0)), (.val (.string ⟨#[]⟩)), (.val (.int .i64 0)), (.val (.int .i64 0)), (.val (.string ⟨#[]⟩))], none⟩,
 ⟨none, .store 12 (.tmp 5) (.tmp 9), none⟩]) (
 .trim [2, 4, 5] [2, 5, 7] [] (
 .seq (
 .seq (
 .reg [⟨(some 10), .mov (.tmp 4), none⟩,
 ⟨(some 11), .call (.func 63) [(.tmp 10)] (.obj [(7, 1000000)] [] [] []), none⟩,
 ⟨(some 12), .bin .neq (.tmp 11) (.const (.int .i64 0)), none⟩,
 ⟨(some 13), .mov (.tmp 12), none⟩,
 ⟨(some 14), .mov (.tmp 4), (some (13, false))⟩,
 ⟨(some 15), .call (.func 64) [(.tmp 14)] (.obj [(7, 1000000)] [] [] []), (some (13, false))⟩,
 ⟨(some 16), .bin .gtr (.tmp 15) (.const (.int .i64 0)), (some (13, false))⟩,
 ⟨(some 17), .pick (.tmp 13) (.const (.bool true)) (.tmp 16), none⟩]) (
 .trim [2, 5, 17] [2, 5] [] (
 .cond (.tmp 17) (
 .seq (
 .reg [⟨(some 18), .build [(.val (.int .i64 0)), (.val (.int .i64 0)), (.val (.string ⟨#[]⟩)), (.val (.int .i64 0)), (.val (.int .i64 0)), (.val (.string ⟨#[]⟩)), (.val (.int .i64 0)), (.val (.int .i64 0)), (.val (.string ⟨#[]⟩)), (.val (.int .i64 0)), (.val (.int .i64 0)), (.val (.string ⟨#[]⟩))] [], none⟩,
 ⟨none, .store 12 (.tmp 2) (.tmp 18), none⟩,
 ⟨(some 3), .mov (.const (.int .i64 2)), none⟩]) (
 .ret)) (
 .skip)))) (
 .trim [2, 5] [2, 5] [] (
 .seq (
 .reg [⟨(some 19), .load (some 12) (.tmp 5), none⟩,
 ⟨none, .store 12 (.tmp 2) (.tmp 19), none⟩,
 ⟨(some 3), .mov (.const (.int .i64 0)), none⟩]) (
 .ret)))))))))
theorem r33 : Runs Tryz.prog 33 m33.strip [.load (some 12) (.tmp 2), .mov (.tmp 3)] 20 := ⟨by kernel_rfl, by kernel_rfl, Tryz.f33, Tryz.f33.body.getD .skip, Tryz.func33, by kernel_rfl, by kernel_rfl, by kernel_rfl, by kernel_rfl, by kernel_rfl⟩

def m62 : MC :=
 .seq (
 .reg [⟨(some 2), .nilsl 49 16, none⟩]) (
 .trim [0, 2] [1000000] [(2, 49, 16)] (
 .seq (
 .seq (
 .reg [⟨(some 5), .mov (.tmp 0), none⟩,
 ⟨(some 6), .call (.func 105) [(.tmp 5), (.const (.int .i64 4))] (.obj [(1000000, 1000000)] [] [] []), none⟩,
 ⟨(some 7), .mov (.const (.int .i64 0)), none⟩]) (
 .trim [0, 2, 6, 7] [1000000] [(2, 49, 16)] (
 .block 0 (
 .loop (
 .trim [0, 2, 6, 7] [1000000] [(2, 49, 16)] (
 .seq (
 .reg [⟨(some 8), .bin .lss (.tmp 7) (.tmp 6), none⟩]) (
 .trim [0, 2, 6, 7, 8] [1000000] [(2, 49, 16)] (
 .seq (
 .cond (.tmp 8) (
 .skip) (
 .exit 0)) (
 .trim [0, 2, 6, 7] [1000000] [(2, 49, 16)] (
 .seq (
 .block 1 (
 .seq (
 .reg [⟨(some 3), .alloc 49 [(.val (.bool false)), (.sl none []), (.val (.bool false)), (.sl none []), (.val (.bool false)), (.sl none []), (.val (.bool false)), (.sl none []), (.val (.bool false)), (.sl none []), (.val (.bool false)), (.sl none []), (.val (.bool false)), (.sl none []), (.val (.bool false)), (.sl none [])], none⟩]) (
 .trim [0, 2, 3, 6, 7] [3, 1000000] [(2, 49, 16)] (
 .seq (
 .seq (
 .reg [⟨(some 9), .mov (.const (.int .i64 0)), none⟩]) (
 .trim [0, 2, 3, 6, 7, 9] [3, 1000000] [(2, 49, 16)] (
 .block 2 (
 .loop (
 .trim [0, 2, 3, 6, 7, 9] [3, 1000000] [(2, 49, 16)] (
 .seq (
 .reg [⟨(some 10), .bin .lss (.tmp 9) (.const (.int .i64 4)), none⟩]) (
 .trim [0, 2, 3, 6, 7, 9, 10] [3, 1000000] [(2, 49, 16)] (
 .seq (
 .cond (.tmp 10) (
 .skip) (
 .exit 2)) (
 .trim [0, 2, 3, 6, 7, 9] [3, 1000000] [(2, 49, 16)] (
 .seq (
 .block 3 (
 .seq (
 .reg [⟨(some 11), .mov (.tmp 9), none⟩,
 ⟨(some 4), .mov (.tmp 11), none⟩]) (
 .trim [0, 2, 3, 4, 6, 7, 9] [3, 1000000] [(2, 49, 16)] (
 .reg [⟨(some 12), .mov (.tmp 4), none⟩,
 ⟨(some 13), .mov (.tmp 0), none⟩,
 ⟨(some 14), .call (.func 106) [(.tmp 13)] (.obj [(1000000, 1000000)] [] [] []), none⟩,
 ⟨(some 15), .iaddrA 4 4 (.tmp 3) (.tmp 12), none⟩,
 ⟨none, .store 4 (.tmp 15) (.tmp 14), none⟩])))) (
 .trim [0, 2, 3, 6, 7, 9] [3, 1000000] [(2, 49, 16)] (
 .reg [⟨(some 16), .bin .add (.tmp 9) (.const (.int .i64 1)), none⟩,
 ⟨(some 9), .mov (.tmp 16), none⟩])))))))))))) (
 .trim [0, 2, 3, 6, 7] [3, 1000000] [(2, 49, 16)] (
 .reg [⟨(some 17), .mov (.tmp 2), none⟩,
 ⟨(some 18), .load (some 16) (.tmp 3), none⟩,
 ⟨(some 19), .bslice 49 16 [(.val (.bool false)), (.sl none []), (.val (.bool false)), (.sl none []), (.val (.bool false)), (.sl none []), (.val (.bool false)), (.sl none []), (.val (.bool false)), (.sl none []), (.val (.bool false)), (.sl none []), (.val (.bool false)), (.sl none []), (.val (.bool false)), (.sl none [])] 1 [(0, 16, (.tmp 18))], none⟩,
 ⟨(some 20), .append 49 16 256 (.tmp 17) (.tmp 19), none⟩,
 ⟨(some 2), .mov (.tmp 20), none⟩])))))) (
 .trim [0, 2, 6, 7] [1000000] [(2, 49, 16)] (
 .reg [⟨(some 21), .bin .add (.tmp 7) (.const (.int .i64 1)), none⟩,
 ⟨(some 7), .mov (.tmp 21), none⟩])))))))))))) (
 .trim [0, 2] [1000000] [(2, 49, 16)] (
 .seq (
 .seq (
 .reg [⟨(some 22), .mov (.tmp 0), none⟩,
 ⟨(some 23), .call (.func 63) [(.tmp 22)] (.obj [(1000000, 1000000)] [] [] []), none⟩,
 ⟨(some 24), .bin .eql (.tmp 23) (.const (.int .i64 0)), none⟩,
 ⟨(some 25), .mov (.tmp 24), none⟩,
 ⟨(some 26), .mov (.tmp 2), (some (25, true))⟩,
 ⟨(some 27), .call (.func 45) [(.tmp 26)] .pure, (some (25, true))⟩,
 ⟨(some 28), .un .not (.tmp 27), (some (25, true))⟩,
 ⟨(some 29), .pick (.tmp 25) (.tmp 28) (.const (.bool false)), none⟩]) (
 .trim [0, 2, 29] [1000000] [(2, 49, 16)] (
 .cond (.tmp 29) (
 .reg [⟨(some 30), .mov (.tmp 0), none⟩,
 ⟨(some 31), .call (.func 107) [(.tmp 30), (.const (.int .i64 2))] (.obj [(1000000, 1000000)] [] [] []), none⟩]) (
 .skip)))) (
 .trim [0, 2] [1000000] [(2, 49, 16)] (
 .seq (
 .seq (
 .reg [⟨(some 32), .mov (.tmp 0), none⟩,
 ⟨(some 33), .call (.func 63) [(.tmp 32)] (.obj [(1000000, 1000000)] [] [] []), none⟩,
 ⟨(some 34), .bin .neq (.tmp 33) (.const (.int .i64 0)), none⟩]) (
 .trim [2, 34] [1000000] [(2, 49, 16)] (
 .cond (.tmp 34) (
 .seq (
 .reg [⟨(some 2), .nilsl 49 16, none⟩]) (
 .ret)) (
 .skip)))) (
 .trim [2] [1000000] [(2, 49, 16)] (
 .seq (
 .reg [⟨(some 35), .mov (.tmp 2), none⟩,
 ⟨(some 2), .mov (.tmp 35), none⟩]) (
 .ret)))))))))
theorem r62 : Runs Tryz.prog 62 m62.strip [.mov (.tmp 2)] 36 := ⟨by kernel_rfl, by kernel_rfl, Tryz.f62, Tryz.f62.body.getD .skip, Tryz.func62, by kernel_rfl, by kernel_rfl, by kernel_rfl, by kernel_rfl, by kernel_rfl⟩

def m72 : MC :=
 .seq (
 .reg [⟨(some 2), .alloc 42 [(.val (.int .i64 0)), (.val (.int .i64 0)), (.val (.string ⟨#[]⟩)), (.val (.int .i64 0)), (.val (.int .i64 0)), (.val (.string ⟨#[]⟩)), (.val (.int .i64 0)), (.val (.int .i64 0)), (.val (.string ⟨#[]⟩)), (.val (.int .i64 0)), (.val (.int .i64 0)), (.val (.string ⟨#[]⟩))], none⟩]) (
 .trim [0, 2] [2, 1000000] [] (
 .seq (
 .seq (
 .reg [⟨(some 5), .mov (.const (.int .i64 0)), none⟩]) (
 .trim [0, 2, 5] [2, 1000000] [] (
 .block 0 (
 .loop (
 .trim [0, 2, 5] [2, 1000000] [] (
 .seq (
 .reg [⟨(some 6), .bin .lss (.tmp 5) (.const (.int .i64 4)), none⟩]) (
 .trim [0, 2, 5, 6] [2, 1000000] [] (
 .seq (
 .cond (.tmp 6) (
 .skip) (
 .exit 0)) (
 .trim [0, 2, 5] [2, 1000000] [] (
 .seq (
 .block 1 (
 .seq (
 .reg [⟨(some 7), .mov (.tmp 5), none⟩,
 ⟨(some 3), .mov (.tmp 7), none⟩]) (
 .trim [0, 2, 3, 5] [2, 1000000] [] (
 .seq (
 .reg [⟨(some 8), .mov (.tmp 3), none⟩,
 ⟨(some 9), .iaddrA 4 3 (.tmp 2) (.tmp 8), none⟩,
 ⟨(some 4), .mov (.tmp 9), none⟩]) (
 .trim [0, 2, 4, 5] [2, 1000000] [] (
 .seq (
 .reg [⟨(some 10), .mov (.tmp 4), none⟩,
 ⟨(some 11), .mov (.tmp 0), none⟩,
 ⟨(some 12), .call (.func 113) [(.tmp 11)] (.obj [(1000000, 1000000)] [] [] []), none⟩,
 ⟨(some 13), .conv .i64 (.tmp 12), none⟩,
 ⟨(some 14), .nilck (.tmp 10), none⟩,
 ⟨(some 15), .faddr 0 (.tmp 14), none⟩,
 ⟨none, .store 1 (.tmp 15) (.tmp 13), none⟩]) (
 .trim [0, 2, 4, 5] [2, 1000000] [] (
 .seq (
 .reg [⟨(some 16), .mov (.tmp 4), none⟩,
 ⟨(some 17), .nilck (.tmp 16), none⟩,
 ⟨(some 18), .faddr 0 (.tmp 17), none⟩,
 ⟨(some 19), .load none (.tmp 18), none⟩]) (
 .trim [0, 2, 4, 5, 19] [2, 1000000] [] (
 .block 2 (
 .seq (
 .reg [⟨(some 21), .bin .eql (.tmp 19) (.const (.int .i64 1)), none⟩,
 ⟨(some 20), .mov (.tmp 21), none⟩]) (
 .trim [0, 2, 4, 5, 19, 20] [2, 1000000] [] (
 .cond (.tmp 20) (
 .reg [⟨(some 22), .mov (.tmp 4), none⟩,
 ⟨(some 23), .mov (.tmp 0), none⟩,
 ⟨(some 24), .call (.func 114) [(.tmp 23)] (.obj [(1000000, 1000000)] [] [] []), none⟩,
 ⟨(some 25), .nilck (.tmp 22), none⟩,
 ⟨(some 26), .faddr 1 (.tmp 25), none⟩,
 ⟨none, .store 1 (.tmp 26) (.tmp 24), none⟩]) (
 .seq (
 .reg [⟨(some 28), .bin .eql (.tmp 19) (.const (.int .i64 2)), none⟩,
 ⟨(some 27), .mov (.tmp 28), none⟩]) (
 .trim [0, 2, 4, 5, 27] [2, 1000000] [] (
 .cond (.tmp 27) (
 .reg [⟨(some 29), .mov (.tmp 4), none⟩,
 ⟨(some 30), .mov (.tmp 0), none⟩,
 ⟨(some 31), .call (.func 115) [(.tmp 30), (.const (.int .i64 8))] (.obj [(1000000, 1000000)] [] [] []), none⟩,
 ⟨(some 32), .nilck (.tmp 29), none⟩,
 ⟨(some 33), .faddr 2 (.tmp 32), none⟩,
 ⟨none, .store 1 (.tmp 33) (.tmp 31), none⟩]) (
 .skip))))))))))))))))) (
 .trim [0, 2, 5] [2, 1000000] [] (
 .reg [⟨(some 34), .bin .add (.tmp 5) (.const (.int .i64 1)), none⟩,
 ⟨(some 5), .mov (.tmp 34), none⟩])))))))))))) (
 .trim [0, 2] [2, 1000000] [] (
 .seq (
 .seq (
 .reg [⟨(some 35), .load (some 12) (.tmp 2), none⟩,
 ⟨(some 36), .call (.func 59) [(.tmp 35)] .pure, none⟩,
 ⟨(some 37), .un .not (.tmp 36), none⟩]) (
 .trim [0, 2, 37] [2, 1000000] [] (
 .cond (.tmp 37) (
 .reg [⟨(some 38), .mov (.tmp 0), none⟩,
 ⟨(some 39), .call (.func 107) [(.tmp 38), (.const (.int .i64 2))] (.obj [(1000000, 1000000)] [] [] []), none⟩]) (
 .skip)))) (
 .trim [0, 2] [2, 1000000] [] (
 .seq (
 .seq (
 .reg [⟨(some 40), .mov (.tmp 0), none⟩,
 ⟨(some 41), .call (.func 63) [(.tmp 40)] (.obj [(1000000, 1000000)] [] [] []), none⟩,
 ⟨(some 42), .bin .neq (.tmp 41) (.const (.int .i64 0)), none⟩]) (
 .trim [2, 42] [2, 1000000] [] (
 .cond (.tmp 42) (
 .seq (
 .reg [⟨(some 43), .build [(.val (.int .i64 0)), (.val (.int .i64 0)), (.val (.string ⟨#[]⟩)), (.val (.int .i64 0)), (.val (.int .i64 0)), (.val (.string ⟨#[]⟩)), (.val (.int .i64 0)), (.val (.int .i64 0)), (.val (.string ⟨#[]⟩)), (.val (.int .i64 0)), (.val (.int .i64 0)), (.val (.string ⟨#[]⟩))] [], none⟩,
 ⟨none, .store 12 (.tmp 2) (.tmp 43), none⟩]) (
 .ret)) (
 .skip)))) (
 .trim [2] [2, 1000000] [] (
 .seq (
 .reg [⟨(some 44), .load (some 12) (.tmp 2), none⟩,
 ⟨none, .store 12 (.tmp 2) (.tmp 44), none⟩]) (
 .ret)))))))))
theorem r72 : Runs Tryz.prog 72 m72.strip [.load (some 12) (.tmp 2)] 45 := ⟨by kernel_rfl, by kernel_rfl, Tryz.f72, Tryz.f72.body.getD .skip, Tryz.func72, by kernel_rfl, by kernel_rfl, by kernel_rfl, by kernel_rfl, by kernel_rfl⟩

def m106 : MC :=
 .seq (
 .reg [⟨(some 2), .alloc 25 [(.val (.bool false)), (.val (.slice none 0 0)), (.val (.bool false)), (.val (.slice none 0 0))], none⟩]) (
 .trim [0, 2] [2, 1000000] [] (
 .own 2 [(1, (2, 114, 2)), (3, (2, 9, 1))] (
 .seq (
 .reg [⟨(some 5), .mov (.tmp 0), none⟩,
 ⟨(some 6), .call (.func 113) [(.tmp 5)] (.obj [(1000000, 1000000)] [] [] []), none⟩,
 ⟨(some 3), .mov (.tmp 6), none⟩]) (
 .trim [0, 2, 3] [2, 1000000] [(2, 114, 2), (2, 9, 1)] (
 .seq (
 .seq (
 .reg [⟨(some 7), .mov (.tmp 3), none⟩,
 ⟨(some 8), .bin .gtr (.tmp 7) (.const (.int .u8 3)), none⟩]) (
 .trim [0, 2, 3, 8] [2, 1000000] [(2, 114, 2), (2, 9, 1)] (
 .cond (.tmp 8) (
 .reg [⟨(some 9), .mov (.tmp 0), none⟩,
 ⟨(some 10), .call (.func 107) [(.tmp 9), (.const (.int .i64 2))] (.obj [(1000000, 1000000)] [] [] []), none⟩]) (
 .skip)))) (
 .trim [0, 2, 3] [2, 1000000] [(2, 114, 2), (2, 9, 1)] (
 .seq (
 .reg [⟨(some 11), .mov (.tmp 3), none⟩,
 ⟨(some 12), .bin .and (.tmp 11) (.const (.int .u8 1)), none⟩,
 ⟨(some 13), .bin .neq (.tmp 12) (.const (.int .u8 0)), none⟩,
 ⟨(some 14), .mov (.tmp 3), none⟩,
 ⟨(some 15), .bin .and (.tmp 14) (.const (.int .u8 2)), none⟩,
 ⟨(some 16), .bin .neq (.tmp 15) (.const (.int .u8 0)), none⟩,
 ⟨(some 17), .faddr 0 (.tmp 2), none⟩,
 ⟨none, .store 1 (.tmp 17) (.tmp 13), none⟩,
 ⟨(some 18), .faddr 2 (.tmp 2), none⟩,
 ⟨none, .store 1 (.tmp 18) (.tmp 16), none⟩]) (
 .trim [0, 2] [2, 1000000] [(2, 114, 2), (2, 9, 1)] (
 .seq (
 .seq (
 .reg [⟨(some 19), .mov (.tmp 0), none⟩,
 ⟨(some 20), .call (.func 105) [(.tmp 19), (.const (.int .i64 6))] (.obj [(1000000, 1000000)] [] [] []), none⟩,
 ⟨(some 21), .mov (.const (.int .i64 0)), none⟩]) (
 .trim [0, 2, 20, 21] [2, 1000000] [(2, 114, 2), (2, 9, 1)] (
 .block 0 (
 .loop (
 .trim [0, 2, 20, 21] [2, 1000000] [(2, 114, 2), (2, 9, 1)] (
 .seq (
 .reg [⟨(some 22), .bin .lss (.tmp 21) (.tmp 20), none⟩]) (
 .trim [0, 2, 20, 21, 22] [2, 1000000] [(2, 114, 2), (2, 9, 1)] (
 .seq (
 .cond (.tmp 22) (
 .skip) (
 .exit 0)) (
 .trim [0, 2, 20, 21] [2, 1000000] [(2, 114, 2), (2, 9, 1)] (
 .seq (
 .block 1 (
 .seq (
 .reg [⟨(some 23), .mov (.tmp 0), none⟩,
 ⟨(some 24), .call (.func 114) [(.tmp 23)] (.obj [(1000000, 1000000)] [] [] []), none⟩,
 ⟨(some 4), .mov (.tmp 24), none⟩]) (
 .trim [0, 2, 4, 20, 21] [2, 1000000] [(2, 114, 2), (2, 9, 1)] (
 .dany [(⟨(some 25), .faddr 1 (.tmp 2), none⟩, []),
 (⟨(some 26), .load none (.tmp 25), none⟩, [0]),
 (⟨(some 27), .mov (.tmp 4), none⟩, []),
 (⟨(some 28), .mov (.tmp 0), none⟩, []),
 (⟨(some 29), .call (.func 114) [(.tmp 28)] (.obj [(1000000, 1000000)] [] [] []), none⟩, [3]),
 (⟨(some 30), .build [(.val (.int .i64 0)), (.val (.int .i64 0))] [(0, 1, (.tmp 27)), (1, 1, (.tmp 29))], none⟩, [2, 4]),
 (⟨(some 31), .bslice 114 2 [(.val (.int .i64 0)), (.val (.int .i64 0))] 1 [(0, 2, (.tmp 30))], none⟩, [5]),
 (⟨(some 32), .append 114 2 16 (.tmp 26) (.tmp 31), none⟩, [1, 6, 4]),
 (⟨(some 33), .faddr 1 (.tmp 2), none⟩, [0, 1, 2, 3, 4, 5, 6, 7]),
 (⟨none, .store 1 (.tmp 33) (.tmp 32), none⟩, [8, 7, 7, 0, 1, 2, 3, 4, 5, 6, 7])])))) (
 .trim [0, 2, 20, 21] [2, 1000000] [(2, 114, 2), (2, 9, 1)] (
 .reg [⟨(some 34), .bin .add (.tmp 21) (.const (.int .i64 1)), none⟩,
 ⟨(some 21), .mov (.tmp 34), none⟩])))))))))))) (
 .trim [0, 2] [2, 1000000] [(2, 114, 2), (2, 9, 1)] (
 .seq (
 .seq (
 .reg [⟨(some 35), .mov (.tmp 0), none⟩,
 ⟨(some 36), .call (.func 105) [(.tmp 35), (.const (.int .i64 6))] (.obj [(1000000, 1000000)] [] [] []), none⟩,
 ⟨(some 37), .mov (.const (.int .i64 0)), none⟩]) (
 .trim [0, 2, 36, 37] [2, 1000000] [(2, 114, 2), (2, 9, 1)] (
 .block 2 (
 .loop (
 .trim [0, 2, 36, 37] [2, 1000000] [(2, 114, 2), (2, 9, 1)] (
 .seq (
 .reg [⟨(some 38), .bin .lss (.tmp 37) (.tmp 36), none⟩]) (
 .trim [0, 2, 36, 37, 38] [2, 1000000] [(2, 114, 2), (2, 9, 1)] (
 .seq (
 .cond (.tmp 38) (
 .skip) (
 .exit 2)) (
 .trim [0, 2, 36, 37] [2, 1000000] [(2, 114, 2), (2, 9, 1)] (
 .seq (
 .block 3 (
 .dany [(⟨(some 39), .faddr 3 (.tmp 2), none⟩, []),
 (⟨(some 40), .load none (.tmp 39), none⟩, [0]),
 (⟨(some 41), .mov (.tmp 0), none⟩, []),
 (⟨(some 42), .call (.func 115) [(.tmp 41), (.const (.int .i64 8))] (.obj [(1000000, 1000000)] [] [] []), none⟩, [2]),
 (⟨(some 43), .bslice 9 1 [(.val (.string ⟨#[]⟩))] 1 [(0, 1, (.tmp 42))], none⟩, [3]),
 (⟨(some 44), .append 9 1 16 (.tmp 40) (.tmp 43), none⟩, [1, 4, 3]),
 (⟨(some 45), .faddr 3 (.tmp 2), none⟩, [0, 1, 2, 3, 4, 5]),
 (⟨none, .store 1 (.tmp 45) (.tmp 44), none⟩, [6, 5, 5, 0, 1, 2, 3, 4, 5])])) (
 .trim [0, 2, 36, 37] [2, 1000000] [(2, 114, 2), (2, 9, 1)] (
 .reg [⟨(some 46), .bin .add (.tmp 37) (.const (.int .i64 1)), none⟩,
 ⟨(some 37), .mov (.tmp 46), none⟩])))))))))))) (
 .trim [2] [2, 1000000] [(2, 114, 2), (2, 9, 1)] (
 .seq (
 .reg [⟨(some 47), .load (some 4) (.tmp 2), none⟩,
 ⟨none, .store 4 (.tmp 2) (.tmp 47), none⟩]) (
 .fzb 2 (
 .ret)))))))))))))))
theorem r106 : Runs Tryz.prog 106 m106.strip [.load (some 4) (.tmp 2)] 48 := ⟨by kernel_rfl, by kernel_rfl, Tryz.f106, Tryz.f106.body.getD .skip, Tryz.func106, by kernel_rfl, by kernel_rfl, by kernel_rfl, by kernel_rfl, by kernel_rfl⟩

end Go.Proofs

