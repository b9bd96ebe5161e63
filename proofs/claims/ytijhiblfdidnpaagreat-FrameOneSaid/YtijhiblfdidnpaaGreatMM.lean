/- A part of the proof; what is proved stands in the last text. -/
import Derived.Test.YtijhiblfdidnpaaGreatVh6
import Derived.Test.YtijhiblfdidnpaaGreatProg
import Derived.Test.YtijhiblfdidnpaaGreatVm24
set_option linter.unusedVariables false
set_option maxRecDepth 2000
namespace Go.Proofs
open Go.Vm
def m21 : MH :=
 .seq (
 .pure (
 .reg [⟨(some 1), .box 29 12 (.tmp 0), none⟩,
 ⟨(some 2), .mov (.const (.string ⟨#[]⟩)), none⟩])) (
 .trim [1] [1] [] (
 .seq (
 .reg [([], (.new 6 [(.val (.pointer none)), (.sl none [])] 54 2 7))] [⟨(some 3), .mov (.tmp 7), none⟩]) (
 .trim [1, 3] [1, 7] [] (
 .seq (
 .seq (
 .pure (
 .reg [⟨(some 8), .load (some 12) (.tmp 1), none⟩,
 ⟨(some 9), .mov (.const (.int .i64 0)), none⟩])) (
 .trim [3, 8, 9] [7] [] (
 .block 0 (
 .loop (
 .trim [3, 8, 9] [7] [] (
 .seq (
 .pure (
 .reg [⟨(some 10), .bin .lss (.tmp 9) (.const (.int .i64 4)), none⟩])) (
 .trim [3, 8, 9, 10] [7] [] (
 .seq (
 .pure (
 .cond (.tmp 10) (
 .skip) (
 .exit 0))) (
 .trim [3, 8, 9] [7] [] (
 .seq (
 .block 1 (
 .seq (
 .pure (
 .reg [⟨(some 11), .idxA 4 3 true (.tmp 8) (.tmp 9), none⟩,
 ⟨(some 5), .alloc 27 [(.val (.int .i64 0)), (.val (.int .i64 0)), (.val (.string ⟨#[]⟩))], none⟩,
 ⟨none, .store 3 (.tmp 5) (.tmp 11), none⟩])) (
 .trim [3, 5, 8, 9] [5, 7] [] (
 .seq (
 .reg [([⟨(some 12), .mov (.tmp 3), none⟩, ⟨(some 13), .faddr 0 (.tmp 5), none⟩, ⟨(some 14), .load none (.tmp 13), none⟩, ⟨(some 15), .conv .u8 (.tmp 14), none⟩], (.call (some 16) 18 [(.tmp 12), (.tmp 15)]))] []) (
 .trim [3, 5, 8, 9] [5, 7] [] (
 .seq (
 .pure (
 .reg [⟨(some 17), .faddr 0 (.tmp 5), none⟩,
 ⟨(some 18), .load none (.tmp 17), none⟩])) (
 .trim [3, 5, 8, 9, 18] [5, 7] [] (
 .block 2 (
 .seq (
 .pure (
 .reg [⟨(some 20), .bin .eql (.tmp 18) (.const (.int .i64 1)), none⟩,
 ⟨(some 19), .mov (.tmp 20), none⟩])) (
 .trim [3, 5, 8, 9, 18, 19] [5, 7] [] (
 .cond (.tmp 19) (
 .reg [([⟨(some 21), .mov (.tmp 3), none⟩, ⟨(some 22), .faddr 1 (.tmp 5), none⟩, ⟨(some 23), .load none (.tmp 22), none⟩, ⟨(some 24), .call (.func 57) [(.tmp 23)] .pure, none⟩], (.call (some 25) 20 [(.tmp 21), (.tmp 24)]))] []) (
 .seq (
 .pure (
 .reg [⟨(some 27), .bin .eql (.tmp 18) (.const (.int .i64 2)), none⟩,
 ⟨(some 26), .mov (.tmp 27), none⟩])) (
 .trim [3, 5, 8, 9, 26] [5, 7] [] (
 .cond (.tmp 26) (
 .reg [([⟨(some 28), .mov (.tmp 3), none⟩, ⟨(some 29), .faddr 2 (.tmp 5), none⟩, ⟨(some 30), .load none (.tmp 29), none⟩, ⟨(some 31), .call (.func 58) [(.tmp 30)] .pure, none⟩], (.call (some 32) 20 [(.tmp 28), (.tmp 31)]))] []) (
 .pure (
 .skip)))))))))))))))) (
 .pure (
 .trim [3, 8, 9] [7] [] (
 .reg [⟨(some 33), .bin .add (.tmp 9) (.const (.int .i64 1)), none⟩,
 ⟨(some 9), .mov (.tmp 33), none⟩]))))))))))))) (
 .trim [3] [7] [] (
 .seq (
 .reg [([⟨(some 34), .mov (.tmp 3), none⟩], (.call (some 35) 22 [(.tmp 34)]))] [⟨(some 2), .mov (.tmp 35), none⟩]) (
 .pure (
 .ret))))))))
theorem r21 : Runs Tryz.prog 21 m21.flat.strip [.mov (.tmp 2)] 36 := ⟨by kernel_rfl, by kernel_rfl, Tryz.f21, Tryz.f21.body.getD .skip, Tryz.func21, by kernel_rfl, by kernel_rfl, by kernel_rfl, by kernel_rfl, by kernel_rfl⟩

def m23 : MC :=
 .seq (
 .reg [⟨(some 2), .mov (.const (.string ⟨#[]⟩)), none⟩]) (
 .trim [0] [] [] (
 .seq (
 .reg [⟨(some 3), .alloc 100 [(.val (.int .u8 0)), (.val (.int .u8 0)), (.val (.int .u8 0)), (.val (.int .u8 0)), (.val (.int .u8 0)), (.val (.int .u8 0)), (.val (.int .u8 0)), (.val (.int .u8 0)), (.val (.int .u8 0)), (.val (.int .u8 0))], none⟩]) (
 .trim [0, 3] [3] [] (
 .seq (
 .reg [⟨(some 4), .mov (.const (.int .i64 9)), none⟩]) (
 .trim [0, 3, 4] [3] [] (
 .seq (
 .reg [⟨(some 5), .mov (.tmp 4), none⟩,
 ⟨(some 6), .mov (.tmp 0), none⟩,
 ⟨(some 7), .bin .rem (.tmp 6) (.const (.int .u64 128)), none⟩,
 ⟨(some 8), .conv .u8 (.tmp 7), none⟩,
 ⟨(some 9), .iaddrA 10 1 (.tmp 3) (.tmp 5), none⟩,
 ⟨none, .store 1 (.tmp 9) (.tmp 8), none⟩]) (
 .trim [0, 3, 4] [3] [] (
 .seq (
 .seq (
 .reg [⟨(some 10), .mov (.tmp 0), none⟩,
 ⟨(some 11), .bin .quo (.tmp 10) (.const (.int .u64 128)), none⟩,
 ⟨(some 0), .mov (.tmp 11), none⟩]) (
 .trim [0, 3, 4] [3] [] (
 .block 0 (
 .loop (
 .trim [0, 3, 4] [3] [] (
 .seq (
 .seq (
 .reg [⟨(some 12), .mov (.tmp 0), none⟩,
 ⟨(some 13), .bin .gtr (.tmp 12) (.const (.int .u64 0)), none⟩]) (
 .trim [0, 3, 4, 13] [3] [] (
 .cond (.tmp 13) (
 .skip) (
 .exit 0)))) (
 .trim [0, 3, 4] [3] [] (
 .seq (
 .block 1 (
 .seq (
 .reg [⟨(some 16), .mov (.tmp 4), none⟩,
 ⟨(some 17), .bin .sub (.tmp 16) (.const (.int .i64 1)), none⟩,
 ⟨(some 4), .mov (.tmp 17), none⟩]) (
 .trim [0, 3, 4] [3] [] (
 .reg [⟨(some 18), .mov (.tmp 4), none⟩,
 ⟨(some 19), .mov (.tmp 0), none⟩,
 ⟨(some 20), .bin .rem (.tmp 19) (.const (.int .u64 128)), none⟩,
 ⟨(some 21), .conv .u8 (.tmp 20), none⟩,
 ⟨(some 22), .bin .or (.tmp 21) (.const (.int .u8 128)), none⟩,
 ⟨(some 23), .iaddrA 10 1 (.tmp 3) (.tmp 18), none⟩,
 ⟨none, .store 1 (.tmp 23) (.tmp 22), none⟩])))) (
 .trim [0, 3, 4] [3] [] (
 .reg [⟨(some 14), .mov (.tmp 0), none⟩,
 ⟨(some 15), .bin .quo (.tmp 14) (.const (.int .u64 128)), none⟩,
 ⟨(some 0), .mov (.tmp 15), none⟩])))))))))) (
 .trim [3, 4] [3] [] (
 .fzb 3 (
 .seq (
 .reg [⟨(some 24), .mov (.tmp 4), none⟩,
 ⟨(some 25), .slcA 10 (.tmp 3) (some (.tmp 24)) none, none⟩,
 ⟨(some 26), .b2s (.tmp 25), none⟩,
 ⟨(some 2), .mov (.tmp 26), none⟩]) (
 .ret))))))))))))
theorem r23 : Runs Tryz.prog 23 m23.strip [.mov (.tmp 2)] 27 := ⟨by kernel_rfl, by kernel_rfl, Tryz.f23, Tryz.f23.body.getD .skip, Tryz.func23, by kernel_rfl, by kernel_rfl, by kernel_rfl, by kernel_rfl, by kernel_rfl⟩

def m24 : MH :=
 .seq (
 .pure (
 .reg [⟨(some 2), .mov (.const (.string ⟨#[]⟩)), none⟩])) (
 .trim [0] [] [] (
 .seq (
 .reg [([], (.new 6 [(.val (.pointer none)), (.sl none [])] 54 2 7))] [⟨(some 3), .mov (.tmp 7), none⟩]) (
 .trim [0, 3] [7] [] (
 .seq (
 .reg [([⟨(some 8), .mov (.tmp 3), none⟩, ⟨(some 9), .mov (.tmp 0), none⟩, ⟨(some 10), .lenL (.tmp 9), none⟩, ⟨(some 11), .conv .u64 (.tmp 10), none⟩, ⟨(some 12), .call (.func 23) [(.tmp 11)] .pure, none⟩], (.call (some 13) 20 [(.tmp 8), (.tmp 12)]))] []) (
 .trim [0, 3] [7] [] (
 .seq (
 .seq (
 .pure (
 .reg [⟨(some 14), .mov (.tmp 0), none⟩,
 ⟨(some 15), .lenL (.tmp 14), none⟩,
 ⟨(some 16), .mov (.const (.int .i64 0)), none⟩])) (
 .trim [0, 3, 15, 16] [7] [] (
 .block 0 (
 .loop (
 .trim [0, 3, 15, 16] [7] [] (
 .seq (
 .pure (
 .reg [⟨(some 17), .bin .lss (.tmp 16) (.tmp 15), none⟩])) (
 .trim [0, 3, 15, 16, 17] [7] [] (
 .seq (
 .pure (
 .cond (.tmp 17) (
 .skip) (
 .exit 0))) (
 .trim [0, 3, 15, 16] [7] [] (
 .seq (
 .block 1 (
 .seq (
 .pure (
 .reg [⟨(some 18), .mov (.tmp 16), none⟩,
 ⟨(some 4), .mov (.tmp 18), none⟩])) (
 .trim [0, 3, 4, 15, 16] [7] [] (
 .seq (
 .pure (
 .reg [⟨(some 19), .mov (.const (.int .i64 0)), none⟩])) (
 .trim [0, 3, 4, 15, 16, 19] [7] [] (
 .block 2 (
 .loop (
 .trim [0, 3, 4, 15, 16, 19] [7] [] (
 .seq (
 .pure (
 .reg [⟨(some 20), .bin .lss (.tmp 19) (.const (.int .i64 4)), none⟩])) (
 .trim [0, 3, 4, 15, 16, 19, 20] [7] [] (
 .seq (
 .pure (
 .cond (.tmp 20) (
 .skip) (
 .exit 2))) (
 .trim [0, 3, 4, 15, 16, 19] [7] [] (
 .seq (
 .block 3 (
 .seq (
 .pure (
 .reg [⟨(some 21), .mov (.tmp 19), none⟩,
 ⟨(some 5), .mov (.tmp 21), none⟩])) (
 .trim [0, 3, 4, 5, 15, 16, 19] [7] [] (
 .reg [([⟨(some 22), .mov (.tmp 3), none⟩, ⟨(some 23), .mov (.tmp 0), none⟩, ⟨(some 24), .mov (.tmp 4), none⟩, ⟨(some 25), .mov (.tmp 5), none⟩, ⟨(some 26), .iaddrS 16 (.tmp 23) (.tmp 24), none⟩, ⟨(some 27), .iaddrA 4 4 (.tmp 26) (.tmp 25), none⟩], (.call (some 28) 59 [(.tmp 22), (.tmp 27)]))] [])))) (
 .pure (
 .trim [0, 3, 4, 15, 16, 19] [7] [] (
 .reg [⟨(some 29), .bin .add (.tmp 19) (.const (.int .i64 1)), none⟩,
 ⟨(some 19), .mov (.tmp 29), none⟩])))))))))))))))) (
 .pure (
 .trim [0, 3, 15, 16] [7] [] (
 .reg [⟨(some 30), .bin .add (.tmp 16) (.const (.int .i64 1)), none⟩,
 ⟨(some 16), .mov (.tmp 30), none⟩]))))))))))))) (
 .trim [3] [7] [] (
 .seq (
 .reg [([⟨(some 31), .mov (.tmp 3), none⟩], (.call (some 32) 22 [(.tmp 31)]))] [⟨(some 2), .mov (.tmp 32), none⟩]) (
 .pure (
 .ret))))))))))
theorem r24 : Runs Tryz.prog 24 m24.flat.strip [.mov (.tmp 2)] 33 := ⟨by kernel_rfl, by kernel_rfl, Tryz.f24, Tryz.f24.body.getD .skip, Tryz.func24, by kernel_rfl, by kernel_rfl, by kernel_rfl, by kernel_rfl, by kernel_rfl⟩

def m57 : MC :=
 .seq (
 .reg [⟨(some 2), .mov (.const (.string ⟨#[]⟩)), none⟩]) (
 .trim [0] [] [] (
 .seq (
 .reg [⟨(some 3), .mov (.tmp 0), none⟩,
 ⟨(some 4), .call (.func 85) [(.tmp 3)] .pure, none⟩,
 ⟨(some 5), .call (.func 23) [(.tmp 4)] .pure, none⟩,
 ⟨(some 2), .mov (.tmp 5), none⟩]) (
 .ret)))
theorem r57 : Runs Tryz.prog 57 m57.strip [.mov (.tmp 2)] 6 := ⟨by kernel_rfl, by kernel_rfl, Tryz.f57, Tryz.f57.body.getD .skip, Tryz.func57, by kernel_rfl, by kernel_rfl, by kernel_rfl, by kernel_rfl, by kernel_rfl⟩

def m58 : MC :=
 .seq (
 .reg [⟨(some 2), .mov (.const (.string ⟨#[]⟩)), none⟩]) (
 .trim [0] [] [] (
 .seq (
 .reg [⟨(some 3), .mov (.tmp 0), none⟩,
 ⟨(some 4), .lenS (.tmp 3), none⟩,
 ⟨(some 5), .conv .u64 (.tmp 4), none⟩,
 ⟨(some 6), .call (.func 23) [(.tmp 5)] .pure, none⟩,
 ⟨(some 7), .mov (.tmp 0), none⟩,
 ⟨(some 8), .bin .add (.tmp 6) (.tmp 7), none⟩,
 ⟨(some 2), .mov (.tmp 8), none⟩]) (
 .ret)))
theorem r58 : Runs Tryz.prog 58 m58.strip [.mov (.tmp 2)] 9 := ⟨by kernel_rfl, by kernel_rfl, Tryz.f58, Tryz.f58.body.getD .skip, Tryz.func58, by kernel_rfl, by kernel_rfl, by kernel_rfl, by kernel_rfl, by kernel_rfl⟩

def m59 : MH :=
 .seq (
 .reg [([⟨(some 8), .mov (.tmp 0), none⟩, ⟨(some 9), .mov (.tmp 1), none⟩, ⟨(some 10), .call (.func 86) [(.tmp 9)] .pure, none⟩], (.call (some 11) 18 [(.tmp 8), (.tmp 10)]))] []) (
 .trim [0, 1] [] [] (
 .seq (
 .reg [([⟨(some 12), .mov (.tmp 0), none⟩, ⟨(some 13), .mov (.tmp 1), none⟩, ⟨(some 14), .nilck (.tmp 13), none⟩, ⟨(some 15), .faddr 1 (.tmp 14), none⟩, ⟨(some 16), .load none (.tmp 15), none⟩, ⟨(some 17), .lenL (.tmp 16), none⟩, ⟨(some 18), .conv .u64 (.tmp 17), none⟩, ⟨(some 19), .call (.func 23) [(.tmp 18)] .pure, none⟩], (.call (some 20) 20 [(.tmp 12), (.tmp 19)]))] []) (
 .trim [0, 1] [] [] (
 .seq (
 .seq (
 .pure (
 .reg [⟨(some 21), .mov (.tmp 1), none⟩,
 ⟨(some 22), .nilck (.tmp 21), none⟩,
 ⟨(some 23), .faddr 1 (.tmp 22), none⟩,
 ⟨(some 24), .load none (.tmp 23), none⟩,
 ⟨(some 25), .lenL (.tmp 24), none⟩,
 ⟨(some 26), .mov (.const (.int .i64 0)), none⟩])) (
 .trim [0, 1, 24, 25, 26] [] [] (
 .block 0 (
 .loop (
 .trim [0, 1, 24, 25, 26] [] [] (
 .seq (
 .pure (
 .reg [⟨(some 27), .bin .lss (.tmp 26) (.tmp 25), none⟩])) (
 .trim [0, 1, 24, 25, 26, 27] [] [] (
 .seq (
 .pure (
 .cond (.tmp 27) (
 .skip) (
 .exit 0))) (
 .trim [0, 1, 24, 25, 26] [] [] (
 .seq (
 .block 1 (
 .seq (
 .pure (
 .reg [⟨(some 28), .iaddrS 2 (.tmp 24) (.tmp 26), none⟩,
 ⟨(some 29), .load (some 2) (.tmp 28), none⟩,
 ⟨(some 5), .alloc 128 [(.val (.int .i64 0)), (.val (.int .i64 0))], none⟩,
 ⟨none, .store 2 (.tmp 5) (.tmp 29), none⟩])) (
 .trim [0, 1, 5, 24, 25, 26] [5] [] (
 .dreg 8 [⟨(some 30), .mov (.tmp 0), none⟩,
 ⟨(some 31), .faddr 0 (.tmp 5), none⟩,
 ⟨(some 32), .load none (.tmp 31), none⟩,
 ⟨(some 33), .call (.func 57) [(.tmp 32)] .pure, none⟩,
 ⟨(some 34), .faddr 1 (.tmp 5), none⟩,
 ⟨(some 35), .load none (.tmp 34), none⟩,
 ⟨(some 36), .call (.func 57) [(.tmp 35)] .pure, none⟩,
 ⟨(some 37), .bin .add (.tmp 33) (.tmp 36), none⟩] (some 38) 20 [(.tmp 30), (.tmp 37)])))) (
 .pure (
 .trim [0, 1, 24, 25, 26] [] [] (
 .reg [⟨(some 39), .bin .add (.tmp 26) (.const (.int .i64 1)), none⟩,
 ⟨(some 26), .mov (.tmp 39), none⟩]))))))))))))) (
 .trim [0, 1] [] [] (
 .seq (
 .reg [([⟨(some 40), .mov (.tmp 0), none⟩, ⟨(some 41), .mov (.tmp 1), none⟩, ⟨(some 42), .nilck (.tmp 41), none⟩, ⟨(some 43), .faddr 3 (.tmp 42), none⟩, ⟨(some 44), .load none (.tmp 43), none⟩, ⟨(some 45), .lenL (.tmp 44), none⟩, ⟨(some 46), .conv .u64 (.tmp 45), none⟩, ⟨(some 47), .call (.func 23) [(.tmp 46)] .pure, none⟩], (.call (some 48) 20 [(.tmp 40), (.tmp 47)]))] []) (
 .trim [0, 1] [] [] (
 .seq (
 .pure (
 .reg [⟨(some 49), .mov (.tmp 1), none⟩,
 ⟨(some 50), .nilck (.tmp 49), none⟩,
 ⟨(some 51), .faddr 3 (.tmp 50), none⟩,
 ⟨(some 52), .load none (.tmp 51), none⟩,
 ⟨(some 53), .lenL (.tmp 52), none⟩,
 ⟨(some 54), .mov (.const (.int .i64 0)), none⟩])) (
 .trim [0, 52, 53, 54] [] [] (
 .block 2 (
 .loop (
 .trim [0, 52, 53, 54] [] [] (
 .seq (
 .pure (
 .reg [⟨(some 55), .bin .lss (.tmp 54) (.tmp 53), none⟩])) (
 .trim [0, 52, 53, 54, 55] [] [] (
 .seq (
 .pure (
 .cond (.tmp 55) (
 .skip) (
 .exit 2))) (
 .trim [0, 52, 53, 54] [] [] (
 .seq (
 .block 3 (
 .seq (
 .pure (
 .reg [⟨(some 56), .iaddrS 1 (.tmp 52) (.tmp 54), none⟩,
 ⟨(some 57), .load none (.tmp 56), none⟩,
 ⟨(some 7), .mov (.tmp 57), none⟩])) (
 .trim [0, 7, 52, 53, 54] [] [] (
 .reg [([⟨(some 58), .mov (.tmp 0), none⟩, ⟨(some 59), .mov (.tmp 7), none⟩, ⟨(some 60), .call (.func 58) [(.tmp 59)] .pure, none⟩], (.call (some 61) 20 [(.tmp 58), (.tmp 60)]))] [])))) (
 .pure (
 .trim [0, 52, 53, 54] [] [] (
 .reg [⟨(some 62), .bin .add (.tmp 54) (.const (.int .i64 1)), none⟩,
 ⟨(some 54), .mov (.tmp 62), none⟩]))))))))))))))))))))
theorem r59 : Runs Tryz.prog 59 m59.flat.strip [] 63 := ⟨by kernel_rfl, by kernel_rfl, Tryz.f59, Tryz.f59.body.getD .skip, Tryz.func59, by kernel_rfl, by kernel_rfl, by kernel_rfl, by kernel_rfl, by kernel_rfl⟩

def m85 : MC :=
 .seq (
 .reg [⟨(some 2), .mov (.const (.int .u64 0)), none⟩]) (
 .trim [0] [] [] (
 .seq (
 .seq (
 .reg [⟨(some 3), .mov (.tmp 0), none⟩,
 ⟨(some 4), .bin .lss (.tmp 3) (.const (.int .i64 0)), none⟩]) (
 .trim [0, 4] [] [] (
 .cond (.tmp 4) (
 .seq (
 .reg [⟨(some 5), .mov (.tmp 0), none⟩,
 ⟨(some 6), .un .xor (.tmp 5), none⟩,
 ⟨(some 7), .conv .u64 (.tmp 6), none⟩,
 ⟨(some 8), .bin .shl (.tmp 7) (.const (.int .u64 1)), none⟩,
 ⟨(some 9), .bin .or (.tmp 8) (.const (.int .u64 1)), none⟩,
 ⟨(some 2), .mov (.tmp 9), none⟩]) (
 .ret)) (
 .skip)))) (
 .trim [0] [] [] (
 .seq (
 .reg [⟨(some 10), .mov (.tmp 0), none⟩,
 ⟨(some 11), .conv .u64 (.tmp 10), none⟩,
 ⟨(some 12), .bin .shl (.tmp 11) (.const (.int .u64 1)), none⟩,
 ⟨(some 2), .mov (.tmp 12), none⟩]) (
 .ret)))))
theorem r85 : Runs Tryz.prog 85 m85.strip [.mov (.tmp 2)] 13 := ⟨by kernel_rfl, by kernel_rfl, Tryz.f85, Tryz.f85.body.getD .skip, Tryz.func85, by kernel_rfl, by kernel_rfl, by kernel_rfl, by kernel_rfl, by kernel_rfl⟩

def m86 : MC :=
 .seq (
 .reg [⟨(some 2), .mov (.const (.int .u8 0)), none⟩]) (
 .trim [0, 2] [] [] (
 .seq (
 .seq (
 .reg [⟨(some 3), .mov (.tmp 0), none⟩,
 ⟨(some 4), .nilck (.tmp 3), none⟩,
 ⟨(some 5), .faddr 0 (.tmp 4), none⟩,
 ⟨(some 6), .load none (.tmp 5), none⟩]) (
 .trim [0, 2, 6] [] [] (
 .cond (.tmp 6) (
 .reg [⟨(some 7), .mov (.tmp 2), none⟩,
 ⟨(some 8), .bin .or (.tmp 7) (.const (.int .u8 1)), none⟩,
 ⟨(some 2), .mov (.tmp 8), none⟩]) (
 .skip)))) (
 .trim [0, 2] [] [] (
 .seq (
 .seq (
 .reg [⟨(some 9), .mov (.tmp 0), none⟩,
 ⟨(some 10), .nilck (.tmp 9), none⟩,
 ⟨(some 11), .faddr 2 (.tmp 10), none⟩,
 ⟨(some 12), .load none (.tmp 11), none⟩]) (
 .trim [2, 12] [] [] (
 .cond (.tmp 12) (
 .reg [⟨(some 13), .mov (.tmp 2), none⟩,
 ⟨(some 14), .bin .or (.tmp 13) (.const (.int .u8 2)), none⟩,
 ⟨(some 2), .mov (.tmp 14), none⟩]) (
 .skip)))) (
 .trim [2] [] [] (
 .seq (
 .reg [⟨(some 15), .mov (.tmp 2), none⟩,
 ⟨(some 2), .mov (.tmp 15), none⟩]) (
 .ret)))))))
theorem r86 : Runs Tryz.prog 86 m86.strip [.mov (.tmp 2)] 16 := ⟨by kernel_rfl, by kernel_rfl, Tryz.f86, Tryz.f86.body.getD .skip, Tryz.func86, by kernel_rfl, by kernel_rfl, by kernel_rfl, by kernel_rfl, by kernel_rfl⟩

def m93 : MC :=
 .seq (
 .reg [⟨(some 2), .mov (.const (.int .i64 0)), none⟩]) (
 .trim [0] [] [] (
 .seq (
 .seq (
 .reg [⟨(some 3), .mov (.tmp 0), none⟩,
 ⟨(some 4), .bin .and (.tmp 3) (.const (.int .u64 1)), none⟩,
 ⟨(some 5), .bin .eql (.tmp 4) (.const (.int .u64 1)), none⟩]) (
 .trim [0, 5] [] [] (
 .cond (.tmp 5) (
 .seq (
 .reg [⟨(some 6), .mov (.tmp 0), none⟩,
 ⟨(some 7), .bin .shr (.tmp 6) (.const (.int .u64 1)), none⟩,
 ⟨(some 8), .conv .i64 (.tmp 7), none⟩,
 ⟨(some 9), .un .xor (.tmp 8), none⟩,
 ⟨(some 2), .mov (.tmp 9), none⟩]) (
 .ret)) (
 .skip)))) (
 .trim [0] [] [] (
 .seq (
 .reg [⟨(some 10), .mov (.tmp 0), none⟩,
 ⟨(some 11), .bin .shr (.tmp 10) (.const (.int .u64 1)), none⟩,
 ⟨(some 12), .conv .i64 (.tmp 11), none⟩,
 ⟨(some 2), .mov (.tmp 12), none⟩]) (
 .ret)))))
theorem r93 : Runs Tryz.prog 93 m93.strip [.mov (.tmp 2)] 13 := ⟨by kernel_rfl, by kernel_rfl, Tryz.f93, Tryz.f93.body.getD .skip, Tryz.func93, by kernel_rfl, by kernel_rfl, by kernel_rfl, by kernel_rfl, by kernel_rfl⟩

end Go.Proofs


namespace Go.Proofs
open Go.Vm
def m28 : MC :=
 .seq (
 .reg [⟨(some 2), .mov (.const (.pointer none)), none⟩]) (
 .trim [0] [] [] (
 .seq (
 .reg [⟨(some 3), .mov (.tmp 0), none⟩,
 ⟨(some 4), .build [(.val (.string ⟨#[]⟩)), (.val (.int .i64 0))] [(0, 1, (.tmp 3))], none⟩,
 ⟨(some 5), .box 113 2 (.tmp 4), none⟩,
 ⟨(some 2), .mov (.tmp 5), none⟩]) (
 .ret)))
theorem r28 : Runs Tryz.prog 28 m28.strip [.mov (.tmp 2)] 6 := ⟨by kernel_rfl, by kernel_rfl, Tryz.f28, Tryz.f28.body.getD .skip, Tryz.func28, by kernel_rfl, by kernel_rfl, by kernel_rfl, by kernel_rfl, by kernel_rfl⟩

def m29 : MC :=
 .seq (
 .reg [⟨(some 2), .mov (.const (.int .u8 0)), none⟩]) (
 .trim [0] [1000000] [] (
 .seq (
 .seq (
 .reg [⟨(some 4), .mov (.tmp 0), none⟩,
 ⟨(some 5), .call (.func 35) [(.tmp 4)] (.obj [(1000000, 1000000)] [] [] []), none⟩,
 ⟨(some 6), .bin .eql (.tmp 5) (.const (.int .i64 0)), none⟩]) (
 .trim [0, 6] [1000000] [] (
 .cond (.tmp 6) (
 .seq (
 .reg [⟨(some 7), .mov (.tmp 0), none⟩,
 ⟨(some 8), .call (.func 33) [(.tmp 7), (.const (.int .i64 3))] (.obj [(1000000, 1000000)] [] [] []), none⟩]) (
 .trim [] [1000000] [] (
 .seq (
 .reg [⟨(some 2), .mov (.const (.int .u8 0)), none⟩]) (
 .ret)))) (
 .skip)))) (
 .trim [0] [1000000] [] (
 .seq (
 .reg [⟨(some 9), .mov (.tmp 0), none⟩,
 ⟨(some 10), .nilck (.tmp 9), none⟩,
 ⟨(some 11), .faddr 0 (.tmp 10), none⟩,
 ⟨(some 12), .load none (.tmp 11), none⟩,
 ⟨(some 13), .idxS (.tmp 12) (.const (.int .i64 0)), none⟩,
 ⟨(some 3), .mov (.tmp 13), none⟩]) (
 .trim [0, 3] [1000000] [] (
 .seq (
 .reg [⟨(some 14), .mov (.tmp 0), none⟩,
 ⟨(some 15), .mov (.tmp 0), none⟩,
 ⟨(some 16), .nilck (.tmp 15), none⟩,
 ⟨(some 17), .faddr 0 (.tmp 16), none⟩,
 ⟨(some 18), .load none (.tmp 17), none⟩,
 ⟨(some 19), .slcS (.tmp 18) (some (.const (.int .i64 1))) none, none⟩,
 ⟨(some 20), .nilck (.tmp 14), none⟩,
 ⟨(some 21), .faddr 0 (.tmp 20), none⟩,
 ⟨none, .store 1 (.tmp 21) (.tmp 19), none⟩]) (
 .trim [3] [1000000] [] (
 .seq (
 .reg [⟨(some 22), .mov (.tmp 3), none⟩,
 ⟨(some 2), .mov (.tmp 22), none⟩]) (
 .ret)))))))))
theorem r29 : Runs Tryz.prog 29 m29.strip [.mov (.tmp 2)] 23 := ⟨by kernel_rfl, by kernel_rfl, Tryz.f29, Tryz.f29.body.getD .skip, Tryz.func29, by kernel_rfl, by kernel_rfl, by kernel_rfl, by kernel_rfl, by kernel_rfl⟩

def m33 : MC :=
 .seq (
 .reg [⟨(some 4), .mov (.tmp 0), none⟩,
 ⟨(some 5), .binP true (.tmp 4) (.const (.pointer none)), none⟩,
 ⟨(some 6), .mov (.tmp 5), none⟩,
 ⟨(some 7), .mov (.tmp 0), (some (6, true))⟩,
 ⟨(some 8), .nilck (.tmp 7), (some (6, true))⟩,
 ⟨(some 9), .faddr 1 (.tmp 8), (some (6, true))⟩,
 ⟨(some 10), .load none (.tmp 9), (some (6, true))⟩,
 ⟨(some 11), .bin .eql (.tmp 10) (.const (.int .i64 0)), (some (6, true))⟩,
 ⟨(some 12), .pick (.tmp 6) (.tmp 11) (.const (.bool false)), none⟩,
 ⟨(some 13), .mov (.tmp 12), none⟩,
 ⟨(some 14), .mov (.tmp 1), (some (13, true))⟩,
 ⟨(some 15), .bin .neq (.tmp 14) (.const (.int .i64 0)), (some (13, true))⟩,
 ⟨(some 16), .pick (.tmp 13) (.tmp 15) (.const (.bool false)), none⟩]) (
 .trim [0, 1, 16] [1000000] [] (
 .cond (.tmp 16) (
 .reg [⟨(some 17), .mov (.tmp 0), none⟩,
 ⟨(some 18), .mov (.tmp 0), none⟩,
 ⟨(some 19), .mov (.tmp 1), none⟩,
 ⟨(some 20), .nilck (.tmp 17), none⟩,
 ⟨(some 21), .faddr 0 (.tmp 20), none⟩,
 ⟨none, .store 1 (.tmp 21) (.const (.string ⟨#[]⟩)), none⟩,
 ⟨(some 22), .nilck (.tmp 18), none⟩,
 ⟨(some 23), .faddr 1 (.tmp 22), none⟩,
 ⟨none, .store 1 (.tmp 23) (.tmp 19), none⟩]) (
 .skip)))
theorem r33 : Runs Tryz.prog 33 m33.strip [] 24 := ⟨by kernel_rfl, by kernel_rfl, Tryz.f33, Tryz.f33.body.getD .skip, Tryz.func33, by kernel_rfl, by kernel_rfl, by kernel_rfl, by kernel_rfl, by kernel_rfl⟩

def m34 : MC :=
 .seq (
 .reg [⟨(some 2), .mov (.const (.int .i64 0)), none⟩]) (
 .trim [0] [1000000] [] (
 .seq (
 .seq (
 .reg [⟨(some 3), .mov (.tmp 0), none⟩,
 ⟨(some 4), .binP false (.tmp 3) (.const (.pointer none)), none⟩]) (
 .trim [0, 4] [1000000] [] (
 .cond (.tmp 4) (
 .seq (
 .reg [⟨(some 2), .mov (.const (.int .i64 7)), none⟩]) (
 .ret)) (
 .skip)))) (
 .trim [0] [1000000] [] (
 .seq (
 .reg [⟨(some 5), .mov (.tmp 0), none⟩,
 ⟨(some 6), .nilck (.tmp 5), none⟩,
 ⟨(some 7), .faddr 1 (.tmp 6), none⟩,
 ⟨(some 8), .load none (.tmp 7), none⟩,
 ⟨(some 2), .mov (.tmp 8), none⟩]) (
 .ret)))))
theorem r34 : Runs Tryz.prog 34 m34.strip [.mov (.tmp 2)] 9 := ⟨by kernel_rfl, by kernel_rfl, Tryz.f34, Tryz.f34.body.getD .skip, Tryz.func34, by kernel_rfl, by kernel_rfl, by kernel_rfl, by kernel_rfl, by kernel_rfl⟩

def m35 : MC :=
 .seq (
 .reg [⟨(some 2), .mov (.const (.int .i64 0)), none⟩]) (
 .trim [0] [1000000] [] (
 .seq (
 .seq (
 .reg [⟨(some 3), .mov (.tmp 0), none⟩,
 ⟨(some 4), .binP false (.tmp 3) (.const (.pointer none)), none⟩]) (
 .trim [0, 4] [1000000] [] (
 .cond (.tmp 4) (
 .seq (
 .reg [⟨(some 2), .mov (.const (.int .i64 0)), none⟩]) (
 .ret)) (
 .skip)))) (
 .trim [0] [1000000] [] (
 .seq (
 .reg [⟨(some 5), .mov (.tmp 0), none⟩,
 ⟨(some 6), .nilck (.tmp 5), none⟩,
 ⟨(some 7), .faddr 0 (.tmp 6), none⟩,
 ⟨(some 8), .load none (.tmp 7), none⟩,
 ⟨(some 9), .lenS (.tmp 8), none⟩,
 ⟨(some 2), .mov (.tmp 9), none⟩]) (
 .ret)))))
theorem r35 : Runs Tryz.prog 35 m35.strip [.mov (.tmp 2)] 10 := ⟨by kernel_rfl, by kernel_rfl, Tryz.f35, Tryz.f35.body.getD .skip, Tryz.func35, by kernel_rfl, by kernel_rfl, by kernel_rfl, by kernel_rfl, by kernel_rfl⟩

def m64 : MC :=
 .seq (
 .reg [⟨(some 2), .mov (.const (.int .u64 0)), none⟩]) (
 .trim [0] [1000000] [] (
 .seq (
 .reg [⟨(some 3), .mov (.const (.int .u64 0)), none⟩]) (
 .trim [0, 3] [1000000] [] (
 .seq (
 .seq (
 .reg [⟨(some 4), .mov (.const (.bool true)), none⟩]) (
 .trim [0, 3, 4] [1000000] [] (
 .block 0 (
 .loop (
 .trim [0, 3, 4] [1000000] [] (
 .seq (
 .seq (
 .reg [⟨(some 6), .mov (.tmp 0), none⟩,
 ⟨(some 7), .call (.func 34) [(.tmp 6)] (.obj [(1000000, 1000000)] [] [] []), none⟩,
 ⟨(some 8), .bin .eql (.tmp 7) (.const (.int .i64 0)), none⟩]) (
 .trim [0, 3, 4, 8] [1000000] [] (
 .cond (.tmp 8) (
 .skip) (
 .exit 0)))) (
 .trim [0, 3, 4] [1000000] [] (
 .seq (
 .block 1 (
 .seq (
 .reg [⟨(some 9), .mov (.tmp 0), none⟩,
 ⟨(some 10), .call (.func 29) [(.tmp 9)] (.obj [(1000000, 1000000)] [] [] []), none⟩,
 ⟨(some 5), .mov (.tmp 10), none⟩]) (
 .trim [0, 3, 4, 5] [1000000] [] (
 .block 2 (
 .seq (
 .reg [⟨(some 18), .mov (.tmp 0), none⟩,
 ⟨(some 19), .call (.func 34) [(.tmp 18)] (.obj [(1000000, 1000000)] [] [] []), none⟩,
 ⟨(some 20), .bin .neq (.tmp 19) (.const (.int .i64 0)), none⟩,
 ⟨(some 17), .mov (.tmp 20), none⟩]) (
 .trim [0, 3, 4, 5, 17] [1000000] [] (
 .cond (.tmp 17) (
 .skip) (
 .seq (
 .seq (
 .reg [⟨(some 22), .mov (.tmp 4), none⟩,
 ⟨(some 23), .mov (.tmp 22), none⟩,
 ⟨(some 24), .mov (.tmp 5), (some (23, true))⟩,
 ⟨(some 25), .bin .eql (.tmp 24) (.const (.int .u8 128)), (some (23, true))⟩,
 ⟨(some 26), .pick (.tmp 23) (.tmp 25) (.const (.bool false)), none⟩,
 ⟨(some 21), .mov (.tmp 26), none⟩]) (
 .trim [0, 3, 5, 21] [1000000] [] (
 .cond (.tmp 21) (
 .skip) (
 .reg [⟨(some 27), .mov (.tmp 3), none⟩,
 ⟨(some 28), .bin .gtr (.tmp 27) (.const (.int .u64 144115188075855871)), none⟩,
 ⟨(some 21), .mov (.tmp 28), none⟩])))) (
 .trim [0, 3, 5, 21] [1000000] [] (
 .cond (.tmp 21) (
 .reg [⟨(some 29), .mov (.tmp 0), none⟩,
 ⟨(some 30), .call (.func 33) [(.tmp 29), (.const (.int .i64 2))] (.obj [(1000000, 1000000)] [] [] []), none⟩]) (
 .seq (
 .reg [⟨(some 32), .mov (.tmp 5), none⟩,
 ⟨(some 33), .bin .lss (.tmp 32) (.const (.int .u8 128)), none⟩,
 ⟨(some 31), .mov (.tmp 33), none⟩]) (
 .trim [0, 3, 5, 31] [1000000] [] (
 .cond (.tmp 31) (
 .seq (
 .reg [⟨(some 34), .mov (.tmp 3), none⟩,
 ⟨(some 35), .bin .mul (.tmp 34) (.const (.int .u64 128)), none⟩,
 ⟨(some 36), .mov (.tmp 5), none⟩,
 ⟨(some 37), .conv .u64 (.tmp 36), none⟩,
 ⟨(some 38), .bin .add (.tmp 35) (.tmp 37), none⟩,
 ⟨(some 2), .mov (.tmp 38), none⟩]) (
 .ret)) (
 .reg [⟨(some 11), .mov (.tmp 3), none⟩,
 ⟨(some 12), .bin .mul (.tmp 11) (.const (.int .u64 128)), none⟩,
 ⟨(some 13), .mov (.tmp 5), none⟩,
 ⟨(some 14), .bin .sub (.tmp 13) (.const (.int .u8 128)), none⟩,
 ⟨(some 15), .conv .u64 (.tmp 14), none⟩,
 ⟨(some 16), .bin .add (.tmp 12) (.tmp 15), none⟩,
 ⟨(some 3), .mov (.tmp 16), none⟩])))))))))))))) (
 .trim [0, 3] [1000000] [] (
 .reg [⟨(some 4), .mov (.const (.bool false)), none⟩])))))))))) (
 .trim [] [1000000] [] (
 .seq (
 .reg [⟨(some 2), .mov (.const (.int .u64 0)), none⟩]) (
 .ret)))))))
theorem r64 : Runs Tryz.prog 64 m64.strip [.mov (.tmp 2)] 39 := ⟨by kernel_rfl, by kernel_rfl, Tryz.f64, Tryz.f64.body.getD .skip, Tryz.func64, by kernel_rfl, by kernel_rfl, by kernel_rfl, by kernel_rfl, by kernel_rfl⟩

def m66 : MC :=
 .seq (
 .reg [⟨(some 2), .mov (.const (.int .i64 0)), none⟩]) (
 .trim [0] [1000000] [] (
 .seq (
 .reg [⟨(some 3), .mov (.tmp 0), none⟩,
 ⟨(some 4), .call (.func 64) [(.tmp 3)] (.obj [(1000000, 1000000)] [] [] []), none⟩,
 ⟨(some 5), .call (.func 93) [(.tmp 4)] .pure, none⟩,
 ⟨(some 2), .mov (.tmp 5), none⟩]) (
 .ret)))
theorem r66 : Runs Tryz.prog 66 m66.strip [.mov (.tmp 2)] 6 := ⟨by kernel_rfl, by kernel_rfl, Tryz.f66, Tryz.f66.body.getD .skip, Tryz.func66, by kernel_rfl, by kernel_rfl, by kernel_rfl, by kernel_rfl, by kernel_rfl⟩

def m67 : MC :=
 .seq (
 .reg [⟨(some 4), .mov (.const (.string ⟨#[]⟩)), none⟩]) (
 .trim [0, 1] [1000000] [] (
 .seq (
 .reg [⟨(some 7), .mov (.tmp 0), none⟩,
 ⟨(some 8), .call (.func 64) [(.tmp 7)] (.obj [(1000000, 1000000)] [] [] []), none⟩,
 ⟨(some 5), .mov (.tmp 8), none⟩]) (
 .trim [0, 1, 5] [1000000] [] (
 .seq (
 .block 0 (
 .seq (
 .reg [⟨(some 10), .mov (.tmp 5), none⟩,
 ⟨(some 11), .mov (.tmp 1), none⟩,
 ⟨(some 12), .minmax true [(.tmp 11), (.const (.int .i64 0))], none⟩,
 ⟨(some 13), .conv .u64 (.tmp 12), none⟩,
 ⟨(some 14), .bin .gtr (.tmp 10) (.tmp 13), none⟩,
 ⟨(some 9), .mov (.tmp 14), none⟩]) (
 .trim [0, 5, 9] [1000000] [] (
 .cond (.tmp 9) (
 .reg [⟨(some 15), .mov (.tmp 0), none⟩,
 ⟨(some 16), .call (.func 33) [(.tmp 15), (.const (.int .i64 9))] (.obj [(1000000, 1000000)] [] [] []), none⟩]) (
 .seq (
 .reg [⟨(some 18), .mov (.tmp 5), none⟩,
 ⟨(some 19), .mov (.tmp 0), none⟩,
 ⟨(some 20), .call (.func 35) [(.tmp 19)] (.obj [(1000000, 1000000)] [] [] []), none⟩,
 ⟨(some 21), .conv .u64 (.tmp 20), none⟩,
 ⟨(some 22), .bin .gtr (.tmp 18) (.tmp 21), none⟩,
 ⟨(some 17), .mov (.tmp 22), none⟩]) (
 .trim [0, 5, 17] [1000000] [] (
 .cond (.tmp 17) (
 .reg [⟨(some 23), .mov (.tmp 0), none⟩,
 ⟨(some 24), .call (.func 33) [(.tmp 23), (.const (.int .i64 3))] (.obj [(1000000, 1000000)] [] [] []), none⟩]) (
 .skip)))))))) (
 .trim [0, 5] [1000000] [] (
 .seq (
 .seq (
 .reg [⟨(some 25), .mov (.tmp 0), none⟩,
 ⟨(some 26), .call (.func 34) [(.tmp 25)] (.obj [(1000000, 1000000)] [] [] []), none⟩,
 ⟨(some 27), .bin .neq (.tmp 26) (.const (.int .i64 0)), none⟩]) (
 .trim [0, 5, 27] [1000000] [] (
 .cond (.tmp 27) (
 .seq (
 .reg [⟨(some 4), .mov (.const (.string ⟨#[]⟩)), none⟩]) (
 .ret)) (
 .skip)))) (
 .trim [0, 5] [1000000] [] (
 .seq (
 .reg [⟨(some 28), .mov (.tmp 0), none⟩,
 ⟨(some 29), .nilck (.tmp 28), none⟩,
 ⟨(some 30), .faddr 0 (.tmp 29), none⟩,
 ⟨(some 31), .load none (.tmp 30), none⟩,
 ⟨(some 32), .mov (.tmp 5), none⟩,
 ⟨(some 33), .slcS (.tmp 31) none (some (.tmp 32)), none⟩,
 ⟨(some 6), .mov (.tmp 33), none⟩]) (
 .trim [0, 5, 6] [1000000] [] (
 .seq (
 .reg [⟨(some 34), .mov (.tmp 0), none⟩,
 ⟨(some 35), .mov (.tmp 0), none⟩,
 ⟨(some 36), .nilck (.tmp 35), none⟩,
 ⟨(some 37), .faddr 0 (.tmp 36), none⟩,
 ⟨(some 38), .load none (.tmp 37), none⟩,
 ⟨(some 39), .mov (.tmp 5), none⟩,
 ⟨(some 40), .slcS (.tmp 38) (some (.tmp 39)) none, none⟩,
 ⟨(some 41), .nilck (.tmp 34), none⟩,
 ⟨(some 42), .faddr 0 (.tmp 41), none⟩,
 ⟨none, .store 1 (.tmp 42) (.tmp 40), none⟩]) (
 .trim [6] [1000000] [] (
 .seq (
 .reg [⟨(some 43), .mov (.tmp 6), none⟩,
 ⟨(some 4), .mov (.tmp 43), none⟩]) (
 .ret)))))))))))))
theorem r67 : Runs Tryz.prog 67 m67.strip [.mov (.tmp 4)] 44 := ⟨by kernel_rfl, by kernel_rfl, Tryz.f67, Tryz.f67.body.getD .skip, Tryz.func67, by kernel_rfl, by kernel_rfl, by kernel_rfl, by kernel_rfl, by kernel_rfl⟩

def m91 : MC :=
 .seq (
 .reg [⟨(some 4), .mov (.const (.int .i64 0)), none⟩]) (
 .trim [0, 1] [1000000] [] (
 .seq (
 .reg [⟨(some 6), .mov (.tmp 0), none⟩,
 ⟨(some 7), .call (.func 64) [(.tmp 6)] (.obj [(1000000, 1000000)] [] [] []), none⟩,
 ⟨(some 5), .mov (.tmp 7), none⟩]) (
 .trim [0, 1, 5] [1000000] [] (
 .seq (
 .seq (
 .reg [⟨(some 8), .mov (.tmp 5), none⟩,
 ⟨(some 9), .mov (.tmp 1), none⟩,
 ⟨(some 10), .conv .u64 (.tmp 9), none⟩,
 ⟨(some 11), .bin .gtr (.tmp 8) (.tmp 10), none⟩]) (
 .trim [0, 5, 11] [1000000] [] (
 .cond (.tmp 11) (
 .seq (
 .reg [⟨(some 12), .mov (.tmp 0), none⟩,
 ⟨(some 13), .call (.func 33) [(.tmp 12), (.const (.int .i64 2))] (.obj [(1000000, 1000000)] [] [] []), none⟩]) (
 .trim [] [1000000] [] (
 .seq (
 .reg [⟨(some 4), .mov (.const (.int .i64 0)), none⟩]) (
 .ret)))) (
 .skip)))) (
 .trim [5] [1000000] [] (
 .seq (
 .reg [⟨(some 14), .mov (.tmp 5), none⟩,
 ⟨(some 15), .conv .i64 (.tmp 14), none⟩,
 ⟨(some 4), .mov (.tmp 15), none⟩]) (
 .ret)))))))
theorem r91 : Runs Tryz.prog 91 m91.strip [.mov (.tmp 4)] 16 := ⟨by kernel_rfl, by kernel_rfl, Tryz.f91, Tryz.f91.body.getD .skip, Tryz.func91, by kernel_rfl, by kernel_rfl, by kernel_rfl, by kernel_rfl, by kernel_rfl⟩

end Go.Proofs


namespace Go.Proofs
open Go.Vm
end Go.Proofs


namespace Go.Proofs
open Go.Vm
def m32 : MC :=
 .seq (
 .reg [⟨(some 2), .alloc 29 [(.val (.int .i64 0)), (.val (.int .i64 0)), (.val (.string ⟨#[]⟩)), (.val (.int .i64 0)), (.val (.int .i64 0)), (.val (.string ⟨#[]⟩)), (.val (.int .i64 0)), (.val (.int .i64 0)), (.val (.string ⟨#[]⟩)), (.val (.int .i64 0)), (.val (.int .i64 0)), (.val (.string ⟨#[]⟩))], none⟩]) (
 .trim [0, 2] [2, 1000000] [] (
 .seq (
 .seq (
 .reg [⟨(some 5), .mov (.const (.int .i64 0)), none⟩]) (
 .trim [0, 2, 5] [2, 1000000] [] (
 .block 0 (
 .loop (
 .trim [0, 2, 5] [2, 1000000] [] (
 .seq (
 .reg [⟨(some 6), .bin .lss (.tmp 5) (.const (.int .i64 4)), none⟩]) (
 .trim [0, 2, 5, 6] [2, 1000000] [] (
 .seq (
 .cond (.tmp 6) (
 .skip) (
 .exit 0)) (
 .trim [0, 2, 5] [2, 1000000] [] (
 .seq (
 .block 1 (
 .seq (
 .reg [⟨(some 7), .mov (.tmp 5), none⟩,
 ⟨(some 3), .mov (.tmp 7), none⟩]) (
 .trim [0, 2, 3, 5] [2, 1000000] [] (
 .seq (
 .reg [⟨(some 8), .mov (.tmp 3), none⟩,
 ⟨(some 9), .iaddrA 4 3 (.tmp 2) (.tmp 8), none⟩,
 ⟨(some 4), .mov (.tmp 9), none⟩]) (
 .trim [0, 2, 4, 5] [2, 1000000] [] (
 .seq (
 .reg [⟨(some 10), .mov (.tmp 4), none⟩,
 ⟨(some 11), .mov (.tmp 0), none⟩,
 ⟨(some 12), .call (.func 29) [(.tmp 11)] (.obj [(1000000, 1000000)] [] [] []), none⟩,
 ⟨(some 13), .conv .i64 (.tmp 12), none⟩,
 ⟨(some 14), .nilck (.tmp 10), none⟩,
 ⟨(some 15), .faddr 0 (.tmp 14), none⟩,
 ⟨none, .store 1 (.tmp 15) (.tmp 13), none⟩]) (
 .trim [0, 2, 4, 5] [2, 1000000] [] (
 .seq (
 .reg [⟨(some 16), .mov (.tmp 4), none⟩,
 ⟨(some 17), .nilck (.tmp 16), none⟩,
 ⟨(some 18), .faddr 0 (.tmp 17), none⟩,
 ⟨(some 19), .load none (.tmp 18), none⟩]) (
 .trim [0, 2, 4, 5, 19] [2, 1000000] [] (
 .block 2 (
 .seq (
 .reg [⟨(some 21), .bin .eql (.tmp 19) (.const (.int .i64 1)), none⟩,
 ⟨(some 20), .mov (.tmp 21), none⟩]) (
 .trim [0, 2, 4, 5, 19, 20] [2, 1000000] [] (
 .cond (.tmp 20) (
 .reg [⟨(some 22), .mov (.tmp 4), none⟩,
 ⟨(some 23), .mov (.tmp 0), none⟩,
 ⟨(some 24), .call (.func 66) [(.tmp 23)] (.obj [(1000000, 1000000)] [] [] []), none⟩,
 ⟨(some 25), .nilck (.tmp 22), none⟩,
 ⟨(some 26), .faddr 1 (.tmp 25), none⟩,
 ⟨none, .store 1 (.tmp 26) (.tmp 24), none⟩]) (
 .seq (
 .reg [⟨(some 28), .bin .eql (.tmp 19) (.const (.int .i64 2)), none⟩,
 ⟨(some 27), .mov (.tmp 28), none⟩]) (
 .trim [0, 2, 4, 5, 27] [2, 1000000] [] (
 .cond (.tmp 27) (
 .reg [⟨(some 29), .mov (.tmp 4), none⟩,
 ⟨(some 30), .mov (.tmp 0), none⟩,
 ⟨(some 31), .call (.func 67) [(.tmp 30), (.const (.int .i64 8))] (.obj [(1000000, 1000000)] [] [] []), none⟩,
 ⟨(some 32), .nilck (.tmp 29), none⟩,
 ⟨(some 33), .faddr 2 (.tmp 32), none⟩,
 ⟨none, .store 1 (.tmp 33) (.tmp 31), none⟩]) (
 .skip))))))))))))))))) (
 .trim [0, 2, 5] [2, 1000000] [] (
 .reg [⟨(some 34), .bin .add (.tmp 5) (.const (.int .i64 1)), none⟩,
 ⟨(some 5), .mov (.tmp 34), none⟩])))))))))))) (
 .trim [0, 2] [2, 1000000] [] (
 .seq (
 .seq (
 .reg [⟨(some 35), .load (some 12) (.tmp 2), none⟩,
 ⟨(some 36), .call (.func 52) [(.tmp 35)] .pure, none⟩,
 ⟨(some 37), .un .not (.tmp 36), none⟩]) (
 .trim [0, 2, 37] [2, 1000000] [] (
 .cond (.tmp 37) (
 .reg [⟨(some 38), .mov (.tmp 0), none⟩,
 ⟨(some 39), .call (.func 33) [(.tmp 38), (.const (.int .i64 2))] (.obj [(1000000, 1000000)] [] [] []), none⟩]) (
 .skip)))) (
 .trim [0, 2] [2, 1000000] [] (
 .seq (
 .seq (
 .reg [⟨(some 40), .mov (.tmp 0), none⟩,
 ⟨(some 41), .call (.func 34) [(.tmp 40)] (.obj [(1000000, 1000000)] [] [] []), none⟩,
 ⟨(some 42), .bin .neq (.tmp 41) (.const (.int .i64 0)), none⟩]) (
 .trim [2, 42] [2, 1000000] [] (
 .cond (.tmp 42) (
 .seq (
 .reg [⟨(some 43), .build [(.val (.int .i64 0)), (.val (.int .i64 0)), (.val (.string ⟨#[]⟩)), (.val (.int .i64 0)), (.val (.int .i64 0)), (.val (.string ⟨#[]⟩)), (.val (.int .i64 0)), (.val (.int .i64 0)), (.val (.string ⟨#[]⟩)), (.val (.int .i64 0)), (.val (.int .i64 0)), (.val (.string ⟨#[]⟩))] [], none⟩,
 ⟨none, .store 12 (.tmp 2) (.tmp 43), none⟩]) (
 .ret)) (
 .skip)))) (
 .trim [2] [2, 1000000] [] (
 .seq (
 .reg [⟨(some 44), .load (some 12) (.tmp 2), none⟩,
 ⟨none, .store 12 (.tmp 2) (.tmp 44), none⟩]) (
 .ret)))))))))
theorem r32 : Runs Tryz.prog 32 m32.strip [.load (some 12) (.tmp 2)] 45 := ⟨by kernel_rfl, by kernel_rfl, Tryz.f32, Tryz.f32.body.getD .skip, Tryz.func32, by kernel_rfl, by kernel_rfl, by kernel_rfl, by kernel_rfl, by kernel_rfl⟩

def m65 : MC :=
 .seq (
 .reg [⟨(some 2), .nilsl 106 16, none⟩]) (
 .trim [0, 2] [1000000] [(2, 106, 16)] (
 .seq (
 .seq (
 .reg [⟨(some 5), .mov (.tmp 0), none⟩,
 ⟨(some 6), .call (.func 91) [(.tmp 5), (.const (.int .i64 4))] (.obj [(1000000, 1000000)] [] [] []), none⟩,
 ⟨(some 7), .mov (.const (.int .i64 0)), none⟩]) (
 .trim [0, 2, 6, 7] [1000000] [(2, 106, 16)] (
 .block 0 (
 .loop (
 .trim [0, 2, 6, 7] [1000000] [(2, 106, 16)] (
 .seq (
 .reg [⟨(some 8), .bin .lss (.tmp 7) (.tmp 6), none⟩]) (
 .trim [0, 2, 6, 7, 8] [1000000] [(2, 106, 16)] (
 .seq (
 .cond (.tmp 8) (
 .skip) (
 .exit 0)) (
 .trim [0, 2, 6, 7] [1000000] [(2, 106, 16)] (
 .seq (
 .block 1 (
 .seq (
 .reg [⟨(some 3), .alloc 106 [(.val (.bool false)), (.sl none []), (.val (.bool false)), (.sl none []), (.val (.bool false)), (.sl none []), (.val (.bool false)), (.sl none []), (.val (.bool false)), (.sl none []), (.val (.bool false)), (.sl none []), (.val (.bool false)), (.sl none []), (.val (.bool false)), (.sl none [])], none⟩]) (
 .trim [0, 2, 3, 6, 7] [3, 1000000] [(2, 106, 16)] (
 .seq (
 .seq (
 .reg [⟨(some 9), .mov (.const (.int .i64 0)), none⟩]) (
 .trim [0, 2, 3, 6, 7, 9] [3, 1000000] [(2, 106, 16)] (
 .block 2 (
 .loop (
 .trim [0, 2, 3, 6, 7, 9] [3, 1000000] [(2, 106, 16)] (
 .seq (
 .reg [⟨(some 10), .bin .lss (.tmp 9) (.const (.int .i64 4)), none⟩]) (
 .trim [0, 2, 3, 6, 7, 9, 10] [3, 1000000] [(2, 106, 16)] (
 .seq (
 .cond (.tmp 10) (
 .skip) (
 .exit 2)) (
 .trim [0, 2, 3, 6, 7, 9] [3, 1000000] [(2, 106, 16)] (
 .seq (
 .block 3 (
 .seq (
 .reg [⟨(some 11), .mov (.tmp 9), none⟩,
 ⟨(some 4), .mov (.tmp 11), none⟩]) (
 .trim [0, 2, 3, 4, 6, 7, 9] [3, 1000000] [(2, 106, 16)] (
 .reg [⟨(some 12), .mov (.tmp 4), none⟩,
 ⟨(some 13), .mov (.tmp 0), none⟩,
 ⟨(some 14), .call (.func 92) [(.tmp 13)] (.obj [(1000000, 1000000)] [] [] []), none⟩,
 ⟨(some 15), .iaddrA 4 4 (.tmp 3) (.tmp 12), none⟩,
 ⟨none, .store 4 (.tmp 15) (.tmp 14), none⟩])))) (
 .trim [0, 2, 3, 6, 7, 9] [3, 1000000] [(2, 106, 16)] (
 .reg [⟨(some 16), .bin .add (.tmp 9) (.const (.int .i64 1)), none⟩,
 ⟨(some 9), .mov (.tmp 16), none⟩])))))))))))) (
 .trim [0, 2, 3, 6, 7] [3, 1000000] [(2, 106, 16)] (
 .reg [⟨(some 17), .mov (.tmp 2), none⟩,
 ⟨(some 18), .load (some 16) (.tmp 3), none⟩,
 ⟨(some 19), .bslice 106 16 [(.val (.bool false)), (.sl none []), (.val (.bool false)), (.sl none []), (.val (.bool false)), (.sl none []), (.val (.bool false)), (.sl none []), (.val (.bool false)), (.sl none []), (.val (.bool false)), (.sl none []), (.val (.bool false)), (.sl none []), (.val (.bool false)), (.sl none [])] 1 [(0, 16, (.tmp 18))], none⟩,
 ⟨(some 20), .append 106 16 256 (.tmp 17) (.tmp 19), none⟩,
 ⟨(some 2), .mov (.tmp 20), none⟩])))))) (
 .trim [0, 2, 6, 7] [1000000] [(2, 106, 16)] (
 .reg [⟨(some 21), .bin .add (.tmp 7) (.const (.int .i64 1)), none⟩,
 ⟨(some 7), .mov (.tmp 21), none⟩])))))))))))) (
 .trim [0, 2] [1000000] [(2, 106, 16)] (
 .seq (
 .seq (
 .reg [⟨(some 22), .mov (.tmp 0), none⟩,
 ⟨(some 23), .call (.func 34) [(.tmp 22)] (.obj [(1000000, 1000000)] [] [] []), none⟩,
 ⟨(some 24), .bin .eql (.tmp 23) (.const (.int .i64 0)), none⟩,
 ⟨(some 25), .mov (.tmp 24), none⟩,
 ⟨(some 26), .mov (.tmp 2), (some (25, true))⟩,
 ⟨(some 27), .call (.func 53) [(.tmp 26)] .pure, (some (25, true))⟩,
 ⟨(some 28), .un .not (.tmp 27), (some (25, true))⟩,
 ⟨(some 29), .pick (.tmp 25) (.tmp 28) (.const (.bool false)), none⟩]) (
 .trim [0, 2, 29] [1000000] [(2, 106, 16)] (
 .cond (.tmp 29) (
 .reg [⟨(some 30), .mov (.tmp 0), none⟩,
 ⟨(some 31), .call (.func 33) [(.tmp 30), (.const (.int .i64 2))] (.obj [(1000000, 1000000)] [] [] []), none⟩]) (
 .skip)))) (
 .trim [0, 2] [1000000] [(2, 106, 16)] (
 .seq (
 .seq (
 .reg [⟨(some 32), .mov (.tmp 0), none⟩,
 ⟨(some 33), .call (.func 34) [(.tmp 32)] (.obj [(1000000, 1000000)] [] [] []), none⟩,
 ⟨(some 34), .bin .neq (.tmp 33) (.const (.int .i64 0)), none⟩]) (
 .trim [2, 34] [1000000] [(2, 106, 16)] (
 .cond (.tmp 34) (
 .seq (
 .reg [⟨(some 2), .nilsl 106 16, none⟩]) (
 .fz [2] (
 .ret))) (
 .skip)))) (
 .trim [2] [1000000] [(2, 106, 16)] (
 .seq (
 .reg [⟨(some 35), .mov (.tmp 2), none⟩,
 ⟨(some 2), .mov (.tmp 35), none⟩]) (
 .fz [2] (
 .ret))))))))))
theorem r65 : Runs Tryz.prog 65 m65.strip [.mov (.tmp 2)] 36 := ⟨by kernel_rfl, by kernel_rfl, Tryz.f65, Tryz.f65.body.getD .skip, Tryz.func65, by kernel_rfl, by kernel_rfl, by kernel_rfl, by kernel_rfl, by kernel_rfl⟩

def m92 : MC :=
 .seq (
 .reg [⟨(some 2), .alloc 104 [(.val (.bool false)), (.val (.slice none 0 0)), (.val (.bool false)), (.val (.slice none 0 0))], none⟩]) (
 .trim [0, 2] [2, 1000000] [] (
 .own 2 [(1, (2, 128, 2)), (3, (2, 9, 1))] (
 .seq (
 .reg [⟨(some 5), .mov (.tmp 0), none⟩,
 ⟨(some 6), .call (.func 29) [(.tmp 5)] (.obj [(1000000, 1000000)] [] [] []), none⟩,
 ⟨(some 3), .mov (.tmp 6), none⟩]) (
 .trim [0, 2, 3] [2, 1000000] [(2, 128, 2), (2, 9, 1)] (
 .seq (
 .seq (
 .reg [⟨(some 7), .mov (.tmp 3), none⟩,
 ⟨(some 8), .bin .gtr (.tmp 7) (.const (.int .u8 3)), none⟩]) (
 .trim [0, 2, 3, 8] [2, 1000000] [(2, 128, 2), (2, 9, 1)] (
 .cond (.tmp 8) (
 .reg [⟨(some 9), .mov (.tmp 0), none⟩,
 ⟨(some 10), .call (.func 33) [(.tmp 9), (.const (.int .i64 2))] (.obj [(1000000, 1000000)] [] [] []), none⟩]) (
 .skip)))) (
 .trim [0, 2, 3] [2, 1000000] [(2, 128, 2), (2, 9, 1)] (
 .seq (
 .reg [⟨(some 11), .mov (.tmp 3), none⟩,
 ⟨(some 12), .bin .and (.tmp 11) (.const (.int .u8 1)), none⟩,
 ⟨(some 13), .bin .neq (.tmp 12) (.const (.int .u8 0)), none⟩,
 ⟨(some 14), .mov (.tmp 3), none⟩,
 ⟨(some 15), .bin .and (.tmp 14) (.const (.int .u8 2)), none⟩,
 ⟨(some 16), .bin .neq (.tmp 15) (.const (.int .u8 0)), none⟩,
 ⟨(some 17), .faddr 0 (.tmp 2), none⟩,
 ⟨none, .store 1 (.tmp 17) (.tmp 13), none⟩,
 ⟨(some 18), .faddr 2 (.tmp 2), none⟩,
 ⟨none, .store 1 (.tmp 18) (.tmp 16), none⟩]) (
 .trim [0, 2] [2, 1000000] [(2, 128, 2), (2, 9, 1)] (
 .seq (
 .seq (
 .reg [⟨(some 19), .mov (.tmp 0), none⟩,
 ⟨(some 20), .call (.func 91) [(.tmp 19), (.const (.int .i64 6))] (.obj [(1000000, 1000000)] [] [] []), none⟩,
 ⟨(some 21), .mov (.const (.int .i64 0)), none⟩]) (
 .trim [0, 2, 20, 21] [2, 1000000] [(2, 128, 2), (2, 9, 1)] (
 .block 0 (
 .loop (
 .trim [0, 2, 20, 21] [2, 1000000] [(2, 128, 2), (2, 9, 1)] (
 .seq (
 .reg [⟨(some 22), .bin .lss (.tmp 21) (.tmp 20), none⟩]) (
 .trim [0, 2, 20, 21, 22] [2, 1000000] [(2, 128, 2), (2, 9, 1)] (
 .seq (
 .cond (.tmp 22) (
 .skip) (
 .exit 0)) (
 .trim [0, 2, 20, 21] [2, 1000000] [(2, 128, 2), (2, 9, 1)] (
 .seq (
 .block 1 (
 .seq (
 .reg [⟨(some 23), .mov (.tmp 0), none⟩,
 ⟨(some 24), .call (.func 66) [(.tmp 23)] (.obj [(1000000, 1000000)] [] [] []), none⟩,
 ⟨(some 4), .mov (.tmp 24), none⟩]) (
 .trim [0, 2, 4, 20, 21] [2, 1000000] [(2, 128, 2), (2, 9, 1)] (
 .dany [(⟨(some 25), .faddr 1 (.tmp 2), none⟩, []),
 (⟨(some 26), .load none (.tmp 25), none⟩, [0]),
 (⟨(some 27), .mov (.tmp 4), none⟩, []),
 (⟨(some 28), .mov (.tmp 0), none⟩, []),
 (⟨(some 29), .call (.func 66) [(.tmp 28)] (.obj [(1000000, 1000000)] [] [] []), none⟩, [3]),
 (⟨(some 30), .build [(.val (.int .i64 0)), (.val (.int .i64 0))] [(0, 1, (.tmp 27)), (1, 1, (.tmp 29))], none⟩, [2, 4]),
 (⟨(some 31), .bslice 128 2 [(.val (.int .i64 0)), (.val (.int .i64 0))] 1 [(0, 2, (.tmp 30))], none⟩, [5]),
 (⟨(some 32), .append 128 2 16 (.tmp 26) (.tmp 31), none⟩, [1, 6, 4]),
 (⟨(some 33), .faddr 1 (.tmp 2), none⟩, [0, 1, 2, 3, 4, 5, 6, 7]),
 (⟨none, .store 1 (.tmp 33) (.tmp 32), none⟩, [8, 7, 7, 0, 1, 2, 3, 4, 5, 6, 7])])))) (
 .trim [0, 2, 20, 21] [2, 1000000] [(2, 128, 2), (2, 9, 1)] (
 .reg [⟨(some 34), .bin .add (.tmp 21) (.const (.int .i64 1)), none⟩,
 ⟨(some 21), .mov (.tmp 34), none⟩])))))))))))) (
 .trim [0, 2] [2, 1000000] [(2, 128, 2), (2, 9, 1)] (
 .seq (
 .seq (
 .reg [⟨(some 35), .mov (.tmp 0), none⟩,
 ⟨(some 36), .call (.func 91) [(.tmp 35), (.const (.int .i64 6))] (.obj [(1000000, 1000000)] [] [] []), none⟩,
 ⟨(some 37), .mov (.const (.int .i64 0)), none⟩]) (
 .trim [0, 2, 36, 37] [2, 1000000] [(2, 128, 2), (2, 9, 1)] (
 .block 2 (
 .loop (
 .trim [0, 2, 36, 37] [2, 1000000] [(2, 128, 2), (2, 9, 1)] (
 .seq (
 .reg [⟨(some 38), .bin .lss (.tmp 37) (.tmp 36), none⟩]) (
 .trim [0, 2, 36, 37, 38] [2, 1000000] [(2, 128, 2), (2, 9, 1)] (
 .seq (
 .cond (.tmp 38) (
 .skip) (
 .exit 2)) (
 .trim [0, 2, 36, 37] [2, 1000000] [(2, 128, 2), (2, 9, 1)] (
 .seq (
 .block 3 (
 .dany [(⟨(some 39), .faddr 3 (.tmp 2), none⟩, []),
 (⟨(some 40), .load none (.tmp 39), none⟩, [0]),
 (⟨(some 41), .mov (.tmp 0), none⟩, []),
 (⟨(some 42), .call (.func 67) [(.tmp 41), (.const (.int .i64 8))] (.obj [(1000000, 1000000)] [] [] []), none⟩, [2]),
 (⟨(some 43), .bslice 9 1 [(.val (.string ⟨#[]⟩))] 1 [(0, 1, (.tmp 42))], none⟩, [3]),
 (⟨(some 44), .append 9 1 16 (.tmp 40) (.tmp 43), none⟩, [1, 4, 3]),
 (⟨(some 45), .faddr 3 (.tmp 2), none⟩, [0, 1, 2, 3, 4, 5]),
 (⟨none, .store 1 (.tmp 45) (.tmp 44), none⟩, [6, 5, 5, 0, 1, 2, 3, 4, 5])])) (
 .trim [0, 2, 36, 37] [2, 1000000] [(2, 128, 2), (2, 9, 1)] (
 .reg [⟨(some 46), .bin .add (.tmp 37) (.const (.int .i64 1)), none⟩,
 ⟨(some 37), .mov (.tmp 46), none⟩])))))))))))) (
 .trim [2] [2, 1000000] [(2, 128, 2), (2, 9, 1)] (
 .seq (
 .reg [⟨(some 47), .load (some 4) (.tmp 2), none⟩,
 ⟨none, .store 4 (.tmp 2) (.tmp 47), none⟩]) (
 .fzb 2 (
 .ret)))))))))))))))
theorem r92 : Runs Tryz.prog 92 m92.strip [.load (some 4) (.tmp 2)] 48 := ⟨by kernel_rfl, by kernel_rfl, Tryz.f92, Tryz.f92.body.getD .skip, Tryz.func92, by kernel_rfl, by kernel_rfl, by kernel_rfl, by kernel_rfl, by kernel_rfl⟩

end Go.Proofs


namespace Go.Proofs
open Go.Vm
def m3 : MC :=
 .seq (
 .reg [⟨(some 1), .box 33 17 (.tmp 0), none⟩,
 ⟨(some 2), .mov (.const (.bool false)), none⟩]) (
 .trim [1] [1] [] (
 .seq (
 .seq (
 .reg [⟨(some 7), .call (.func 7) [] .pure, none⟩,
 ⟨(some 8), .un .not (.tmp 7), none⟩,
 ⟨(some 9), .mov (.tmp 8), none⟩,
 ⟨(some 10), .load (some 17) (.tmp 1), (some (9, false))⟩,
 ⟨(some 11), .call (.func 8) [(.tmp 10)] .pure, (some (9, false))⟩,
 ⟨(some 12), .un .not (.tmp 11), (some (9, false))⟩,
 ⟨(some 13), .pick (.tmp 9) (.const (.bool true)) (.tmp 12), none⟩]) (
 .trim [1, 13] [1] [] (
 .cond (.tmp 13) (
 .seq (
 .reg [⟨(some 14), .call (.func 7) [] .pure, none⟩,
 ⟨(some 2), .mov (.tmp 14), none⟩]) (
 .ret)) (
 .skip)))) (
 .trim [1] [1] [] (
 .seq (
 .reg [⟨(some 16), .load (some 17) (.tmp 1), none⟩,
 ⟨(some 17), .call (.func 9) [(.tmp 16)] .pure, none⟩,
 ⟨(some 15), .mov (.tmp 17), none⟩,
 ⟨(some 18), .ext (.tmp 15) 0, none⟩,
 ⟨(some 19), .ext (.tmp 15) 1, none⟩,
 ⟨(some 3), .mov (.tmp 18), none⟩,
 ⟨(some 4), .mov (.tmp 19), none⟩]) (
 .trim [1, 3, 4] [1] [] (
 .seq (
 .seq (
 .reg [⟨(some 20), .load (some 17) (.tmp 1), none⟩,
 ⟨(some 21), .call (.func 10) [(.tmp 20)] .pure, none⟩,
 ⟨(some 22), .un .not (.tmp 21), none⟩]) (
 .trim [1, 3, 4, 22] [1] [] (
 .cond (.tmp 22) (
 .seq (
 .reg [⟨(some 23), .mov (.tmp 3), none⟩,
 ⟨(some 24), .bin .eql (.tmp 23) (.const (.string ⟨#[]⟩)), none⟩,
 ⟨(some 25), .mov (.tmp 24), none⟩,
 ⟨(some 26), .mov (.tmp 4), (some (25, true))⟩,
 ⟨(some 27), .bin .eql (.tmp 26) (.const (.int .i64 1)), (some (25, true))⟩,
 ⟨(some 28), .pick (.tmp 25) (.tmp 27) (.const (.bool false)), none⟩,
 ⟨(some 2), .mov (.tmp 28), none⟩]) (
 .ret)) (
 .skip)))) (
 .trim [1, 3, 4] [1] [] (
 .seq (
 .reg [⟨(some 30), .mov (.tmp 3), none⟩,
 ⟨(some 31), .call (.func 11) [(.tmp 30)] .pure, none⟩,
 ⟨(some 29), .mov (.tmp 31), none⟩,
 ⟨(some 32), .ext (.tmp 29) 0, none⟩,
 ⟨(some 33), .ext (.tmp 29) 1, none⟩,
 ⟨(some 5), .alloc 33 [(.val (.bool false)), (.sl none []), (.sl none []), (.val (.int .i64 0)), (.val (.int .i64 0)), (.val (.int .i64 0)), (.val (.int .i64 0)), (.val (.string ⟨#[]⟩)), (.val (.int .i64 0)), (.val (.int .i64 0)), (.val (.string ⟨#[]⟩)), (.val (.int .i64 0)), (.val (.int .i64 0)), (.val (.string ⟨#[]⟩)), (.val (.int .i64 0)), (.val (.int .i64 0)), (.val (.string ⟨#[]⟩))], none⟩,
 ⟨none, .store 17 (.tmp 5) (.tmp 32), none⟩,
 ⟨(some 6), .mov (.tmp 33), none⟩]) (
 .trim [1, 3, 4, 5, 6] [1, 5] [] (
 .seq (
 .reg [⟨(some 34), .mov (.tmp 4), none⟩,
 ⟨(some 35), .bin .eql (.tmp 34) (.const (.int .i64 0)), none⟩,
 ⟨(some 36), .mov (.tmp 35), none⟩,
 ⟨(some 37), .mov (.tmp 3), (some (36, true))⟩,
 ⟨(some 38), .load (some 17) (.tmp 1), (some (36, true))⟩,
 ⟨(some 39), .call (.func 12) [(.tmp 38)] .pure, (some (36, true))⟩,
 ⟨(some 40), .bin .eql (.tmp 37) (.tmp 39), (some (36, true))⟩,
 ⟨(some 41), .pick (.tmp 36) (.tmp 40) (.const (.bool false)), none⟩,
 ⟨(some 42), .mov (.tmp 41), none⟩,
 ⟨(some 43), .mov (.tmp 6), (some (42, true))⟩,
 ⟨(some 44), .bin .eql (.tmp 43) (.const (.int .i64 0)), (some (42, true))⟩,
 ⟨(some 45), .pick (.tmp 42) (.tmp 44) (.const (.bool false)), none⟩,
 ⟨(some 46), .mov (.tmp 45), none⟩,
 ⟨(some 47), .load (some 17) (.tmp 5), (some (46, true))⟩,
 ⟨(some 48), .load (some 17) (.tmp 1), (some (46, true))⟩,
 ⟨(some 49), .call (.func 13) [(.tmp 47), (.tmp 48)] .pure, (some (46, true))⟩,
 ⟨(some 50), .pick (.tmp 46) (.tmp 49) (.const (.bool false)), none⟩,
 ⟨(some 2), .mov (.tmp 50), none⟩]) (
 .ret)))))))))))
theorem r3 : Runs Tryz.prog 3 m3.strip [.mov (.tmp 2)] 51 := ⟨by kernel_rfl, by kernel_rfl, Tryz.f3, Tryz.f3.body.getD .skip, Tryz.func3, by kernel_rfl, by kernel_rfl, by kernel_rfl, by kernel_rfl, by kernel_rfl⟩

def m4 : MC :=
 .seq (
 .reg [⟨(some 2), .mov (.const (.bool false)), none⟩]) (
 .trim [0] [] [] (
 .seq (
 .seq (
 .reg [⟨(some 9), .call (.func 7) [] .pure, none⟩,
 ⟨(some 10), .un .not (.tmp 9), none⟩,
 ⟨(some 11), .mov (.tmp 10), none⟩,
 ⟨(some 12), .mov (.tmp 0), (some (11, false))⟩,
 ⟨(some 13), .lenS (.tmp 12), (some (11, false))⟩,
 ⟨(some 14), .bin .gtr (.tmp 13) (.const (.int .i64 1500)), (some (11, false))⟩,
 ⟨(some 15), .pick (.tmp 11) (.const (.bool true)) (.tmp 14), none⟩]) (
 .trim [0, 15] [] [] (
 .cond (.tmp 15) (
 .seq (
 .reg [⟨(some 16), .call (.func 7) [] .pure, none⟩,
 ⟨(some 2), .mov (.tmp 16), none⟩]) (
 .ret)) (
 .skip)))) (
 .trim [0] [] [] (
 .seq (
 .reg [⟨(some 18), .mov (.tmp 0), none⟩,
 ⟨(some 19), .call (.func 11) [(.tmp 18)] .pure, none⟩,
 ⟨(some 17), .mov (.tmp 19), none⟩,
 ⟨(some 20), .ext (.tmp 17) 0, none⟩,
 ⟨(some 21), .ext (.tmp 17) 1, none⟩,
 ⟨(some 3), .alloc 33 [(.val (.bool false)), (.sl none []), (.sl none []), (.val (.int .i64 0)), (.val (.int .i64 0)), (.val (.int .i64 0)), (.val (.int .i64 0)), (.val (.string ⟨#[]⟩)), (.val (.int .i64 0)), (.val (.int .i64 0)), (.val (.string ⟨#[]⟩)), (.val (.int .i64 0)), (.val (.int .i64 0)), (.val (.string ⟨#[]⟩)), (.val (.int .i64 0)), (.val (.int .i64 0)), (.val (.string ⟨#[]⟩))], none⟩,
 ⟨none, .store 17 (.tmp 3) (.tmp 20), none⟩,
 ⟨(some 4), .mov (.tmp 21), none⟩]) (
 .trim [0, 3, 4] [3] [] (
 .seq (
 .reg [⟨(some 23), .mov (.tmp 0), none⟩,
 ⟨(some 24), .call (.func 14) [(.tmp 23)] .pure, none⟩,
 ⟨(some 22), .mov (.tmp 24), none⟩,
 ⟨(some 25), .ext (.tmp 22) 0, none⟩,
 ⟨(some 26), .ext (.tmp 22) 1, none⟩,
 ⟨(some 5), .alloc 33 [(.val (.bool false)), (.sl none []), (.sl none []), (.val (.int .i64 0)), (.val (.int .i64 0)), (.val (.int .i64 0)), (.val (.int .i64 0)), (.val (.string ⟨#[]⟩)), (.val (.int .i64 0)), (.val (.int .i64 0)), (.val (.string ⟨#[]⟩)), (.val (.int .i64 0)), (.val (.int .i64 0)), (.val (.string ⟨#[]⟩)), (.val (.int .i64 0)), (.val (.int .i64 0)), (.val (.string ⟨#[]⟩))], none⟩,
 ⟨none, .store 17 (.tmp 5) (.tmp 25), none⟩,
 ⟨(some 6), .mov (.tmp 26), none⟩]) (
 .trim [0, 3, 4, 5, 6] [3, 5] [] (
 .seq (
 .seq (
 .reg [⟨(some 27), .load (some 17) (.tmp 3), none⟩,
 ⟨(some 28), .load (some 17) (.tmp 5), none⟩,
 ⟨(some 29), .call (.func 13) [(.tmp 27), (.tmp 28)] .pure, none⟩,
 ⟨(some 30), .un .not (.tmp 29), none⟩,
 ⟨(some 31), .mov (.tmp 30), none⟩,
 ⟨(some 32), .mov (.tmp 4), (some (31, false))⟩,
 ⟨(some 33), .bin .eql (.tmp 32) (.const (.int .i64 0)), (some (31, false))⟩,
 ⟨(some 34), .mov (.tmp 6), (some (31, false))⟩,
 ⟨(some 35), .binB true (.tmp 33) (.tmp 34), (some (31, false))⟩,
 ⟨(some 36), .pick (.tmp 31) (.const (.bool true)) (.tmp 35), none⟩,
 ⟨(some 37), .mov (.tmp 36), none⟩,
 ⟨(some 38), .mov (.tmp 6), (some (37, false))⟩,
 ⟨(some 39), .un .not (.tmp 38), (some (37, false))⟩,
 ⟨(some 40), .mov (.tmp 39), (some (37, false))⟩,
 ⟨(some 41), .mov (.tmp 4), (some (40, true))⟩,
 ⟨(some 42), .bin .neq (.tmp 41) (.const (.int .i64 2)), (some (40, true))⟩,
 ⟨(some 43), .pick (.tmp 40) (.tmp 42) (.const (.bool false)), (some (37, false))⟩,
 ⟨(some 44), .pick (.tmp 37) (.const (.bool true)) (.tmp 43), none⟩]) (
 .trim [0, 3, 6, 44] [3] [] (
 .cond (.tmp 44) (
 .seq (
 .reg [⟨(some 2), .mov (.const (.bool false)), none⟩]) (
 .ret)) (
 .skip)))) (
 .trim [0, 3, 6] [3] [] (
 .seq (
 .reg [⟨(some 46), .load (some 17) (.tmp 3), none⟩,
 ⟨(some 47), .call (.func 9) [(.tmp 46)] .pure, none⟩,
 ⟨(some 45), .mov (.tmp 47), none⟩,
 ⟨(some 48), .ext (.tmp 45) 0, none⟩,
 ⟨(some 49), .ext (.tmp 45) 1, none⟩,
 ⟨(some 7), .mov (.tmp 48), none⟩,
 ⟨(some 8), .mov (.tmp 49), none⟩]) (
 .trim [0, 6, 7, 8] [] [] (
 .seq (
 .reg [⟨(some 50), .mov (.tmp 6), none⟩,
 ⟨(some 51), .un .not (.tmp 50), none⟩,
 ⟨(some 52), .mov (.tmp 51), none⟩,
 ⟨(some 53), .mov (.tmp 8), (some (52, false))⟩,
 ⟨(some 54), .bin .eql (.tmp 53) (.const (.int .i64 0)), (some (52, false))⟩,
 ⟨(some 55), .mov (.tmp 54), (some (52, false))⟩,
 ⟨(some 56), .mov (.tmp 7), (some (55, true))⟩,
 ⟨(some 57), .mov (.tmp 0), (some (55, true))⟩,
 ⟨(some 58), .bin .eql (.tmp 56) (.tmp 57), (some (55, true))⟩,
 ⟨(some 59), .pick (.tmp 55) (.tmp 58) (.const (.bool false)), (some (52, false))⟩,
 ⟨(some 60), .pick (.tmp 52) (.const (.bool true)) (.tmp 59), none⟩,
 ⟨(some 2), .mov (.tmp 60), none⟩]) (
 .ret)))))))))))))
theorem r4 : Runs Tryz.prog 4 m4.strip [.mov (.tmp 2)] 61 := ⟨by kernel_rfl, by kernel_rfl, Tryz.f4, Tryz.f4.body.getD .skip, Tryz.func4, by kernel_rfl, by kernel_rfl, by kernel_rfl, by kernel_rfl, by kernel_rfl⟩

def m5 : MC :=
 .seq (
 .reg [⟨(some 2), .box 33 17 (.tmp 0), none⟩,
 ⟨(some 4), .mov (.const (.bool false)), none⟩]) (
 .trim [1, 2] [2] [] (
 .seq (
 .seq (
 .reg [⟨(some 12), .call (.func 7) [] .pure, none⟩,
 ⟨(some 13), .un .not (.tmp 12), none⟩,
 ⟨(some 14), .mov (.tmp 13), none⟩,
 ⟨(some 15), .load (some 17) (.tmp 2), (some (14, false))⟩,
 ⟨(some 16), .call (.func 8) [(.tmp 15)] .pure, (some (14, false))⟩,
 ⟨(some 17), .un .not (.tmp 16), (some (14, false))⟩,
 ⟨(some 18), .pick (.tmp 14) (.const (.bool true)) (.tmp 17), none⟩,
 ⟨(some 19), .mov (.tmp 18), none⟩,
 ⟨(some 20), .load (some 17) (.tmp 2), (some (19, false))⟩,
 ⟨(some 21), .call (.func 10) [(.tmp 20)] .pure, (some (19, false))⟩,
 ⟨(some 22), .un .not (.tmp 21), (some (19, false))⟩,
 ⟨(some 23), .pick (.tmp 19) (.const (.bool true)) (.tmp 22), none⟩]) (
 .trim [1, 2, 23] [2] [] (
 .cond (.tmp 23) (
 .seq (
 .reg [⟨(some 24), .call (.func 7) [] .pure, none⟩,
 ⟨(some 4), .mov (.tmp 24), none⟩]) (
 .ret)) (
 .skip)))) (
 .trim [1, 2] [2] [] (
 .seq (
 .reg [⟨(some 26), .load (some 17) (.tmp 2), none⟩,
 ⟨(some 27), .call (.func 9) [(.tmp 26)] .pure, none⟩,
 ⟨(some 25), .mov (.tmp 27), none⟩,
 ⟨(some 28), .ext (.tmp 25) 0, none⟩,
 ⟨(some 29), .ext (.tmp 25) 1, none⟩,
 ⟨(some 5), .mov (.tmp 28), none⟩,
 ⟨(some 6), .mov (.tmp 29), none⟩]) (
 .trim [1, 5, 6] [] [] (
 .seq (
 .seq (
 .reg [⟨(some 30), .mov (.tmp 6), none⟩,
 ⟨(some 31), .bin .neq (.tmp 30) (.const (.int .i64 0)), none⟩]) (
 .trim [1, 5, 31] [] [] (
 .cond (.tmp 31) (
 .seq (
 .reg [⟨(some 4), .mov (.const (.bool false)), none⟩]) (
 .ret)) (
 .skip)))) (
 .trim [1, 5] [] [] (
 .seq (
 .reg [⟨(some 32), .mov (.tmp 1), none⟩,
 ⟨(some 33), .conv .u64 (.tmp 32), none⟩,
 ⟨(some 34), .mov (.tmp 5), none⟩,
 ⟨(some 35), .lenS (.tmp 34), none⟩,
 ⟨(some 36), .conv .u64 (.tmp 35), none⟩,
 ⟨(some 37), .bin .rem (.tmp 33) (.tmp 36), none⟩,
 ⟨(some 38), .conv .i64 (.tmp 37), none⟩,
 ⟨(some 7), .mov (.tmp 38), none⟩]) (
 .trim [5, 7] [] [] (
 .seq (
 .reg [⟨(some 40), .mov (.tmp 5), none⟩,
 ⟨(some 41), .mov (.tmp 7), none⟩,
 ⟨(some 42), .slcS (.tmp 40) none (some (.tmp 41)), none⟩,
 ⟨(some 43), .call (.func 11) [(.tmp 42)] .pure, none⟩,
 ⟨(some 39), .mov (.tmp 43), none⟩,
 ⟨(some 44), .ext (.tmp 39) 0, none⟩,
 ⟨(some 45), .ext (.tmp 39) 1, none⟩,
 ⟨(some 8), .alloc 33 [(.val (.bool false)), (.sl none []), (.sl none []), (.val (.int .i64 0)), (.val (.int .i64 0)), (.val (.int .i64 0)), (.val (.int .i64 0)), (.val (.string ⟨#[]⟩)), (.val (.int .i64 0)), (.val (.int .i64 0)), (.val (.string ⟨#[]⟩)), (.val (.int .i64 0)), (.val (.int .i64 0)), (.val (.string ⟨#[]⟩)), (.val (.int .i64 0)), (.val (.int .i64 0)), (.val (.string ⟨#[]⟩))], none⟩,
 ⟨none, .store 17 (.tmp 8) (.tmp 44), none⟩,
 ⟨(some 9), .mov (.tmp 45), none⟩]) (
 .trim [5, 9] [] [] (
 .seq (
 .reg [⟨(some 47), .mov (.tmp 5), none⟩,
 ⟨(some 48), .bin .add (.tmp 47) (.const (.string ⟨#[0]⟩)), none⟩,
 ⟨(some 49), .call (.func 11) [(.tmp 48)] .pure, none⟩,
 ⟨(some 46), .mov (.tmp 49), none⟩,
 ⟨(some 50), .ext (.tmp 46) 0, none⟩,
 ⟨(some 51), .ext (.tmp 46) 1, none⟩,
 ⟨(some 10), .alloc 33 [(.val (.bool false)), (.sl none []), (.sl none []), (.val (.int .i64 0)), (.val (.int .i64 0)), (.val (.int .i64 0)), (.val (.int .i64 0)), (.val (.string ⟨#[]⟩)), (.val (.int .i64 0)), (.val (.int .i64 0)), (.val (.string ⟨#[]⟩)), (.val (.int .i64 0)), (.val (.int .i64 0)), (.val (.string ⟨#[]⟩)), (.val (.int .i64 0)), (.val (.int .i64 0)), (.val (.string ⟨#[]⟩))], none⟩,
 ⟨none, .store 17 (.tmp 10) (.tmp 50), none⟩,
 ⟨(some 11), .mov (.tmp 51), none⟩]) (
 .trim [9, 11] [] [] (
 .seq (
 .reg [⟨(some 52), .mov (.tmp 9), none⟩,
 ⟨(some 53), .bin .eql (.tmp 52) (.const (.int .i64 2)), none⟩,
 ⟨(some 54), .mov (.tmp 53), none⟩,
 ⟨(some 55), .mov (.tmp 11), (some (54, true))⟩,
 ⟨(some 56), .bin .eql (.tmp 55) (.const (.int .i64 2)), (some (54, true))⟩,
 ⟨(some 57), .pick (.tmp 54) (.tmp 56) (.const (.bool false)), none⟩,
 ⟨(some 4), .mov (.tmp 57), none⟩]) (
 .ret)))))))))))))))
theorem r5 : Runs Tryz.prog 5 m5.strip [.mov (.tmp 4)] 58 := ⟨by kernel_rfl, by kernel_rfl, Tryz.f5, Tryz.f5.body.getD .skip, Tryz.func5, by kernel_rfl, by kernel_rfl, by kernel_rfl, by kernel_rfl, by kernel_rfl⟩

def m7 : MC :=
 .seq (
 .reg [⟨(some 0), .mov (.const (.bool false)), none⟩]) (
 .trim [] [] [] (
 .seq (
 .reg [⟨(some 12), .build [(.val (.bool false)), (.sl none []), (.sl none []), (.val (.int .i64 0)), (.val (.int .i64 0)), (.val (.int .i64 0)), (.val (.int .i64 0)), (.val (.string ⟨#[]⟩)), (.val (.int .i64 0)), (.val (.int .i64 0)), (.val (.string ⟨#[]⟩)), (.val (.int .i64 0)), (.val (.int .i64 0)), (.val (.string ⟨#[]⟩)), (.val (.int .i64 0)), (.val (.int .i64 0)), (.val (.string ⟨#[]⟩))] [], none⟩,
 ⟨(some 13), .call (.func 9) [(.tmp 12)] .pure, none⟩,
 ⟨(some 11), .mov (.tmp 13), none⟩,
 ⟨(some 14), .ext (.tmp 11) 0, none⟩,
 ⟨(some 15), .ext (.tmp 11) 1, none⟩,
 ⟨(some 1), .mov (.tmp 14), none⟩,
 ⟨(some 2), .mov (.tmp 15), none⟩]) (
 .trim [1, 2] [] [] (
 .seq (
 .reg [⟨(some 17), .build [(.val (.int .i64 0)), (.val (.int .i64 0)), (.val (.int .i64 0)), (.val (.int .i64 0)), (.val (.string ⟨#[]⟩)), (.val (.int .i64 0)), (.val (.int .i64 0)), (.val (.string ⟨#[]⟩)), (.val (.int .i64 0)), (.val (.int .i64 0)), (.val (.string ⟨#[]⟩)), (.val (.int .i64 0)), (.val (.int .i64 0)), (.val (.string ⟨#[]⟩))] [(0, 1, (.const (.int .i64 1))), (1, 1, (.const (.int .i64 2)))], none⟩,
 ⟨(some 18), .build [(.val (.bool false)), (.sl none []), (.sl none []), (.val (.int .i64 0)), (.val (.int .i64 0)), (.val (.int .i64 0)), (.val (.int .i64 0)), (.val (.string ⟨#[]⟩)), (.val (.int .i64 0)), (.val (.int .i64 0)), (.val (.string ⟨#[]⟩)), (.val (.int .i64 0)), (.val (.int .i64 0)), (.val (.string ⟨#[]⟩)), (.val (.int .i64 0)), (.val (.int .i64 0)), (.val (.string ⟨#[]⟩))] [(0, 1, (.const (.bool true))), (3, 14, (.tmp 17))], none⟩,
 ⟨(some 19), .call (.func 9) [(.tmp 18)] .pure, none⟩,
 ⟨(some 16), .mov (.tmp 19), none⟩,
 ⟨(some 20), .ext (.tmp 16) 0, none⟩,
 ⟨(some 21), .ext (.tmp 16) 1, none⟩,
 ⟨(some 3), .mov (.tmp 20), none⟩,
 ⟨(some 4), .mov (.tmp 21), none⟩]) (
 .trim [1, 2, 3, 4] [] [] (
 .seq (
 .reg [⟨(some 23), .build [(.val (.int .i64 0)), (.val (.int .i64 0)), (.val (.int .i64 0)), (.val (.int .i64 0)), (.val (.string ⟨#[]⟩)), (.val (.int .i64 0)), (.val (.int .i64 0)), (.val (.string ⟨#[]⟩)), (.val (.int .i64 0)), (.val (.int .i64 0)), (.val (.string ⟨#[]⟩)), (.val (.int .i64 0)), (.val (.int .i64 0)), (.val (.string ⟨#[]⟩))] [(0, 1, (.const (.int .i64 1)))], none⟩,
 ⟨(some 24), .build [(.val (.bool false)), (.sl none []), (.sl none []), (.val (.int .i64 0)), (.val (.int .i64 0)), (.val (.int .i64 0)), (.val (.int .i64 0)), (.val (.string ⟨#[]⟩)), (.val (.int .i64 0)), (.val (.int .i64 0)), (.val (.string ⟨#[]⟩)), (.val (.int .i64 0)), (.val (.int .i64 0)), (.val (.string ⟨#[]⟩)), (.val (.int .i64 0)), (.val (.int .i64 0)), (.val (.string ⟨#[]⟩))] [(3, 14, (.tmp 23))], none⟩,
 ⟨(some 25), .call (.func 9) [(.tmp 24)] .pure, none⟩,
 ⟨(some 22), .mov (.tmp 25), none⟩,
 ⟨(some 26), .ext (.tmp 22) 0, none⟩,
 ⟨(some 27), .ext (.tmp 22) 1, none⟩,
 ⟨(some 5), .mov (.tmp 26), none⟩,
 ⟨(some 6), .mov (.tmp 27), none⟩]) (
 .trim [1, 2, 3, 4, 6] [] [] (
 .seq (
 .reg [⟨(some 29), .call (.func 11) [(.const (.string ⟨#[]⟩))] .pure, none⟩,
 ⟨(some 28), .mov (.tmp 29), none⟩,
 ⟨(some 30), .ext (.tmp 28) 0, none⟩,
 ⟨(some 31), .ext (.tmp 28) 1, none⟩,
 ⟨(some 7), .alloc 33 [(.val (.bool false)), (.sl none []), (.sl none []), (.val (.int .i64 0)), (.val (.int .i64 0)), (.val (.int .i64 0)), (.val (.int .i64 0)), (.val (.string ⟨#[]⟩)), (.val (.int .i64 0)), (.val (.int .i64 0)), (.val (.string ⟨#[]⟩)), (.val (.int .i64 0)), (.val (.int .i64 0)), (.val (.string ⟨#[]⟩)), (.val (.int .i64 0)), (.val (.int .i64 0)), (.val (.string ⟨#[]⟩))], none⟩,
 ⟨none, .store 17 (.tmp 7) (.tmp 30), none⟩,
 ⟨(some 8), .mov (.tmp 31), none⟩]) (
 .trim [1, 2, 3, 4, 6, 8] [] [] (
 .seq (
 .reg [⟨(some 33), .mov (.tmp 3), none⟩,
 ⟨(some 34), .call (.func 11) [(.tmp 33)] .pure, none⟩,
 ⟨(some 32), .mov (.tmp 34), none⟩,
 ⟨(some 35), .ext (.tmp 32) 0, none⟩,
 ⟨(some 36), .ext (.tmp 32) 1, none⟩,
 ⟨(some 9), .alloc 33 [(.val (.bool false)), (.sl none []), (.sl none []), (.val (.int .i64 0)), (.val (.int .i64 0)), (.val (.int .i64 0)), (.val (.int .i64 0)), (.val (.string ⟨#[]⟩)), (.val (.int .i64 0)), (.val (.int .i64 0)), (.val (.string ⟨#[]⟩)), (.val (.int .i64 0)), (.val (.int .i64 0)), (.val (.string ⟨#[]⟩)), (.val (.int .i64 0)), (.val (.int .i64 0)), (.val (.string ⟨#[]⟩))], none⟩,
 ⟨none, .store 17 (.tmp 9) (.tmp 35), none⟩,
 ⟨(some 10), .mov (.tmp 36), none⟩]) (
 .trim [1, 2, 3, 4, 6, 8, 9, 10] [9] [] (
 .seq (
 .reg [⟨(some 37), .mov (.tmp 1), none⟩,
 ⟨(some 38), .bin .eql (.tmp 37) (.const (.string ⟨#[0, 0, 0]⟩)), none⟩,
 ⟨(some 39), .mov (.tmp 38), none⟩,
 ⟨(some 40), .mov (.tmp 2), (some (39, true))⟩,
 ⟨(some 41), .bin .eql (.tmp 40) (.const (.int .i64 0)), (some (39, true))⟩,
 ⟨(some 42), .pick (.tmp 39) (.tmp 41) (.const (.bool false)), none⟩,
 ⟨(some 43), .mov (.tmp 42), none⟩,
 ⟨(some 44), .mov (.tmp 3), (some (43, true))⟩,
 ⟨(some 45), .bin .eql (.tmp 44) (.const (.string ⟨#[1, 1, 2, 0, 0, 0, 0]⟩)), (some (43, true))⟩,
 ⟨(some 46), .pick (.tmp 43) (.tmp 45) (.const (.bool false)), none⟩,
 ⟨(some 47), .mov (.tmp 46), none⟩,
 ⟨(some 48), .mov (.tmp 4), (some (47, true))⟩,
 ⟨(some 49), .bin .eql (.tmp 48) (.const (.int .i64 0)), (some (47, true))⟩,
 ⟨(some 50), .pick (.tmp 47) (.tmp 49) (.const (.bool false)), none⟩,
 ⟨(some 51), .mov (.tmp 50), none⟩,
 ⟨(some 52), .mov (.tmp 6), (some (51, true))⟩,
 ⟨(some 53), .bin .eql (.tmp 52) (.const (.int .i64 1)), (some (51, true))⟩,
 ⟨(some 54), .pick (.tmp 51) (.tmp 53) (.const (.bool false)), none⟩,
 ⟨(some 55), .mov (.tmp 54), none⟩,
 ⟨(some 56), .mov (.tmp 8), (some (55, true))⟩,
 ⟨(some 57), .bin .eql (.tmp 56) (.const (.int .i64 2)), (some (55, true))⟩,
 ⟨(some 58), .pick (.tmp 55) (.tmp 57) (.const (.bool false)), none⟩,
 ⟨(some 59), .mov (.tmp 58), none⟩,
 ⟨(some 60), .faddr 3 (.tmp 9), (some (59, true))⟩,
 ⟨(some 61), .faddr 1 (.tmp 60), (some (59, true))⟩,
 ⟨(some 62), .load none (.tmp 61), (some (59, true))⟩,
 ⟨(some 63), .bin .eql (.tmp 62) (.const (.int .i64 2)), (some (59, true))⟩,
 ⟨(some 64), .pick (.tmp 59) (.tmp 63) (.const (.bool false)), none⟩,
 ⟨(some 65), .mov (.tmp 64), none⟩,
 ⟨(some 66), .mov (.tmp 10), (some (65, true))⟩,
 ⟨(some 67), .bin .eql (.tmp 66) (.const (.int .i64 0)), (some (65, true))⟩,
 ⟨(some 68), .pick (.tmp 65) (.tmp 67) (.const (.bool false)), none⟩,
 ⟨(some 0), .mov (.tmp 68), none⟩]) (
 .ret)))))))))))))
theorem r7 : Runs Tryz.prog 7 m7.strip [.mov (.tmp 0)] 69 := ⟨by kernel_rfl, by kernel_rfl, Tryz.f7, Tryz.f7.body.getD .skip, Tryz.func7, by kernel_rfl, by kernel_rfl, by kernel_rfl, by kernel_rfl, by kernel_rfl⟩

def m8 : MC :=
 .seq (
 .reg [⟨(some 1), .box 33 17 (.tmp 0), none⟩,
 ⟨(some 2), .mov (.const (.bool false)), none⟩]) (
 .trim [1] [1] [] (
 .seq (
 .reg [⟨(some 3), .faddr 1 (.tmp 1), none⟩,
 ⟨(some 4), .faddr 0 (.tmp 3), none⟩,
 ⟨(some 5), .load none (.tmp 4), none⟩,
 ⟨(some 6), .call (.func 16) [(.tmp 5)] .pure, none⟩,
 ⟨(some 7), .mov (.tmp 6), none⟩,
 ⟨(some 8), .faddr 1 (.tmp 1), (some (7, true))⟩,
 ⟨(some 9), .faddr 1 (.tmp 8), (some (7, true))⟩,
 ⟨(some 10), .load none (.tmp 9), (some (7, true))⟩,
 ⟨(some 11), .lenL (.tmp 10), (some (7, true))⟩,
 ⟨(some 12), .bin .leq (.tmp 11) (.const (.int .i64 40)), (some (7, true))⟩,
 ⟨(some 13), .pick (.tmp 7) (.tmp 12) (.const (.bool false)), none⟩,
 ⟨(some 14), .mov (.tmp 13), none⟩,
 ⟨(some 15), .faddr 3 (.tmp 1), (some (14, true))⟩,
 ⟨(some 16), .faddr 2 (.tmp 15), (some (14, true))⟩,
 ⟨(some 17), .iaddrA 4 3 (.tmp 16) (.const (.int .i64 0)), (some (14, true))⟩,
 ⟨(some 18), .faddr 2 (.tmp 17), (some (14, true))⟩,
 ⟨(some 19), .load none (.tmp 18), (some (14, true))⟩,
 ⟨(some 20), .lenS (.tmp 19), (some (14, true))⟩,
 ⟨(some 21), .faddr 3 (.tmp 1), (some (14, true))⟩,
 ⟨(some 22), .faddr 2 (.tmp 21), (some (14, true))⟩,
 ⟨(some 23), .iaddrA 4 3 (.tmp 22) (.const (.int .i64 1)), (some (14, true))⟩,
 ⟨(some 24), .faddr 2 (.tmp 23), (some (14, true))⟩,
 ⟨(some 25), .load none (.tmp 24), (some (14, true))⟩,
 ⟨(some 26), .lenS (.tmp 25), (some (14, true))⟩,
 ⟨(some 27), .bin .add (.tmp 20) (.tmp 26), (some (14, true))⟩,
 ⟨(some 28), .faddr 3 (.tmp 1), (some (14, true))⟩,
 ⟨(some 29), .faddr 2 (.tmp 28), (some (14, true))⟩,
 ⟨(some 30), .iaddrA 4 3 (.tmp 29) (.const (.int .i64 2)), (some (14, true))⟩,
 ⟨(some 31), .faddr 2 (.tmp 30), (some (14, true))⟩,
 ⟨(some 32), .load none (.tmp 31), (some (14, true))⟩,
 ⟨(some 33), .lenS (.tmp 32), (some (14, true))⟩,
 ⟨(some 34), .bin .add (.tmp 27) (.tmp 33), (some (14, true))⟩,
 ⟨(some 35), .faddr 3 (.tmp 1), (some (14, true))⟩,
 ⟨(some 36), .faddr 2 (.tmp 35), (some (14, true))⟩,
 ⟨(some 37), .iaddrA 4 3 (.tmp 36) (.const (.int .i64 3)), (some (14, true))⟩,
 ⟨(some 38), .faddr 2 (.tmp 37), (some (14, true))⟩,
 ⟨(some 39), .load none (.tmp 38), (some (14, true))⟩,
 ⟨(some 40), .lenS (.tmp 39), (some (14, true))⟩,
 ⟨(some 41), .bin .add (.tmp 34) (.tmp 40), (some (14, true))⟩,
 ⟨(some 42), .bin .leq (.tmp 41) (.const (.int .i64 300)), (some (14, true))⟩,
 ⟨(some 43), .pick (.tmp 14) (.tmp 42) (.const (.bool false)), none⟩,
 ⟨(some 2), .mov (.tmp 43), none⟩]) (
 .ret)))
theorem r8 : Runs Tryz.prog 8 m8.strip [.mov (.tmp 2)] 44 := ⟨by kernel_rfl, by kernel_rfl, Tryz.f8, Tryz.f8.body.getD .skip, Tryz.func8, by kernel_rfl, by kernel_rfl, by kernel_rfl, by kernel_rfl, by kernel_rfl⟩

def m9 : MH :=
 .seq (
 .pure (
 .reg [⟨(some 1), .box 33 17 (.tmp 0), none⟩,
 ⟨(some 2), .mov (.const (.string ⟨#[]⟩)), none⟩,
 ⟨(some 3), .mov (.const (.int .i64 0)), none⟩])) (
 .trim [1] [1] [] (
 .fzb 1 (
 .seq (
 .pure (
 .seq (
 .reg [⟨(some 7), .call (.func 17) [(.tmp 1)] .pure, none⟩,
 ⟨(some 8), .un .not (.tmp 7), none⟩]) (
 .trim [1, 8] [1] [] (
 .cond (.tmp 8) (
 .seq (
 .reg [⟨(some 2), .mov (.const (.string ⟨#[]⟩)), none⟩,
 ⟨(some 3), .mov (.const (.int .i64 1)), none⟩]) (
 .ret)) (
 .skip))))) (
 .trim [1] [1] [] (
 .seq (
 .reg [([], (.new 9 [(.val (.pointer none)), (.sl none [])] 54 2 10))] [⟨(some 4), .mov (.tmp 10), none⟩]) (
 .trim [1, 4] [1, 10] [] (
 .seq (
 .seq (
 .pure (
 .reg [⟨(some 11), .faddr 0 (.tmp 1), none⟩,
 ⟨(some 12), .load none (.tmp 11), none⟩])) (
 .trim [1, 4, 12] [1, 10] [] (
 .cond (.tmp 12) (
 .seq (
 .reg [([⟨(some 13), .mov (.tmp 4), none⟩], (.call (some 14) 18 [(.tmp 13), (.const (.int .u8 1))]))] []) (
 .trim [1, 4] [1, 10] [] (
 .seq (
 .reg [([⟨(some 15), .mov (.tmp 4), none⟩, ⟨(some 16), .faddr 3 (.tmp 1), none⟩, ⟨(some 17), .faddr 0 (.tmp 16), none⟩, ⟨(some 18), .load none (.tmp 17), none⟩, ⟨(some 19), .faddr 3 (.tmp 1), none⟩, ⟨(some 20), .faddr 1 (.tmp 19), none⟩, ⟨(some 21), .load none (.tmp 20), none⟩, ⟨(some 22), .bslice 3 1 [(.val (.int .i64 0))] 2 [(0, 1, (.tmp 18)), (1, 1, (.tmp 21))], none⟩], (.call (some 23) 19 [(.tmp 15), (.tmp 22)]))] []) (
 .trim [1, 4] [1, 10] [] (
 .seq (
 .reg [([⟨(some 24), .mov (.tmp 4), none⟩, ⟨(some 25), .faddr 3 (.tmp 1), none⟩, ⟨(some 26), .faddr 2 (.tmp 25), none⟩, ⟨(some 27), .load (some 12) (.tmp 26), none⟩, ⟨(some 28), .call (.func 21) [(.tmp 27)] .pure, none⟩], (.call (some 29) 20 [(.tmp 24), (.tmp 28)]))] []) (
 .trim [4] [10] [] (
 .seq (
 .reg [([⟨(some 30), .mov (.tmp 4), none⟩], (.call (some 31) 22 [(.tmp 30)]))] [⟨(some 2), .mov (.tmp 31), none⟩, ⟨(some 3), .mov (.const (.int .i64 0)), none⟩]) (
 .pure (
 .ret))))))))) (
 .pure (
 .skip))))) (
 .trim [1, 4] [1, 10] [] (
 .seq (
 .reg [([⟨(some 32), .mov (.tmp 4), none⟩], (.call (some 33) 18 [(.tmp 32), (.const (.int .u8 0))]))] []) (
 .trim [1, 4] [1, 10] [] (
 .seq (
 .reg [([⟨(some 34), .mov (.tmp 4), none⟩, ⟨(some 35), .faddr 1 (.tmp 1), none⟩, ⟨(some 36), .faddr 0 (.tmp 35), none⟩, ⟨(some 37), .load none (.tmp 36), none⟩, ⟨(some 38), .lenL (.tmp 37), none⟩, ⟨(some 39), .bslice 3 1 [(.val (.int .i64 0))] 1 [(0, 1, (.tmp 38))], none⟩], (.call (some 40) 19 [(.tmp 34), (.tmp 39)]))] []) (
 .trim [1, 4] [1, 10] [] (
 .seq (
 .seq (
 .pure (
 .reg [⟨(some 41), .faddr 1 (.tmp 1), none⟩,
 ⟨(some 42), .faddr 0 (.tmp 41), none⟩,
 ⟨(some 43), .load none (.tmp 42), none⟩,
 ⟨(some 44), .lenL (.tmp 43), none⟩,
 ⟨(some 45), .mov (.const (.int .i64 0)), none⟩])) (
 .trim [1, 4, 43, 44, 45] [1, 10] [] (
 .block 0 (
 .loop (
 .trim [1, 4, 43, 44, 45] [1, 10] [] (
 .seq (
 .pure (
 .reg [⟨(some 46), .bin .lss (.tmp 45) (.tmp 44), none⟩])) (
 .trim [1, 4, 43, 44, 45, 46] [1, 10] [] (
 .seq (
 .pure (
 .cond (.tmp 46) (
 .skip) (
 .exit 0))) (
 .trim [1, 4, 43, 44, 45] [1, 10] [] (
 .seq (
 .block 1 (
 .seq (
 .pure (
 .reg [⟨(some 47), .iaddrS 3 (.tmp 43) (.tmp 45), none⟩,
 ⟨(some 48), .load (some 3) (.tmp 47), none⟩,
 ⟨(some 6), .alloc 67 [(.val (.int .i64 0)), (.sl none []), (.val (.int .u64 0))], none⟩,
 ⟨none, .store 3 (.tmp 6) (.tmp 48), none⟩])) (
 .trim [1, 4, 6, 43, 44, 45] [1, 6, 10] [] (
 .seq (
 .reg [([⟨(some 49), .mov (.tmp 4), none⟩, ⟨(some 50), .faddr 0 (.tmp 6), none⟩, ⟨(some 51), .load none (.tmp 50), none⟩, ⟨(some 52), .bslice 3 1 [(.val (.int .i64 0))] 1 [(0, 1, (.tmp 51))], none⟩], (.call (some 53) 19 [(.tmp 49), (.tmp 52)]))] []) (
 .trim [1, 4, 6, 43, 44, 45] [1, 6, 10] [] (
 .dreg 8 [⟨(some 54), .mov (.tmp 4), none⟩,
 ⟨(some 55), .faddr 2 (.tmp 6), none⟩,
 ⟨(some 56), .load none (.tmp 55), none⟩,
 ⟨(some 57), .call (.func 23) [(.tmp 56)] .pure, none⟩,
 ⟨(some 58), .faddr 1 (.tmp 6), none⟩,
 ⟨(some 59), .load none (.tmp 58), none⟩,
 ⟨(some 60), .call (.func 24) [(.tmp 59)] .pure, none⟩,
 ⟨(some 61), .bin .add (.tmp 57) (.tmp 60), none⟩] (some 62) 20 [(.tmp 54), (.tmp 61)])))))) (
 .pure (
 .trim [1, 4, 43, 44, 45] [1, 10] [] (
 .reg [⟨(some 63), .bin .add (.tmp 45) (.const (.int .i64 1)), none⟩,
 ⟨(some 45), .mov (.tmp 63), none⟩]))))))))))))) (
 .trim [1, 4] [1, 10] [] (
 .seq (
 .reg [([⟨(some 64), .mov (.tmp 4), none⟩, ⟨(some 65), .faddr 1 (.tmp 1), none⟩, ⟨(some 66), .faddr 1 (.tmp 65), none⟩, ⟨(some 67), .load none (.tmp 66), none⟩, ⟨(some 68), .lenL (.tmp 67), none⟩, ⟨(some 69), .bslice 3 1 [(.val (.int .i64 0))] 1 [(0, 1, (.tmp 68))], none⟩], (.call (some 70) 19 [(.tmp 64), (.tmp 69)]))] []) (
 .trim [1, 4] [1, 10] [] (
 .seq (
 .reg [([⟨(some 71), .mov (.tmp 4), none⟩, ⟨(some 72), .faddr 1 (.tmp 1), none⟩, ⟨(some 73), .faddr 1 (.tmp 72), none⟩, ⟨(some 74), .load none (.tmp 73), none⟩], (.call (some 75) 19 [(.tmp 71), (.tmp 74)]))] []) (
 .trim [4] [10] [] (
 .seq (
 .reg [([⟨(some 76), .mov (.tmp 4), none⟩], (.call (some 77) 22 [(.tmp 76)]))] [⟨(some 2), .mov (.tmp 77), none⟩, ⟨(some 3), .mov (.const (.int .i64 0)), none⟩]) (
 .pure (
 .ret)))))))))))))))))))))
theorem r9 : Runs Tryz.prog 9 m9.flat.strip [.mov (.tmp 2), .mov (.tmp 3)] 78 := ⟨by kernel_rfl, by kernel_rfl, Tryz.f9, Tryz.f9.body.getD .skip, Tryz.func9, by kernel_rfl, by kernel_rfl, by kernel_rfl, by kernel_rfl, by kernel_rfl⟩

def m10 : MC :=
 .seq (
 .reg [⟨(some 1), .box 33 17 (.tmp 0), none⟩,
 ⟨(some 2), .mov (.const (.bool false)), none⟩]) (
 .trim [1] [1] [] (
 .seq (
 .seq (
 .reg [⟨(some 6), .faddr 0 (.tmp 1), none⟩,
 ⟨(some 7), .load none (.tmp 6), none⟩]) (
 .trim [1, 7] [1] [] (
 .cond (.tmp 7) (
 .seq (
 .reg [⟨(some 8), .faddr 3 (.tmp 1), none⟩,
 ⟨(some 9), .faddr 0 (.tmp 8), none⟩,
 ⟨(some 10), .load none (.tmp 9), none⟩,
 ⟨(some 11), .call (.func 25) [(.tmp 10)] .pure, none⟩,
 ⟨(some 12), .mov (.tmp 11), none⟩,
 ⟨(some 13), .faddr 3 (.tmp 1), (some (12, true))⟩,
 ⟨(some 14), .faddr 1 (.tmp 13), (some (12, true))⟩,
 ⟨(some 15), .load none (.tmp 14), (some (12, true))⟩,
 ⟨(some 16), .call (.func 25) [(.tmp 15)] .pure, (some (12, true))⟩,
 ⟨(some 17), .pick (.tmp 12) (.tmp 16) (.const (.bool false)), none⟩,
 ⟨(some 18), .mov (.tmp 17), none⟩,
 ⟨(some 19), .faddr 3 (.tmp 1), (some (18, true))⟩,
 ⟨(some 20), .faddr 2 (.tmp 19), (some (18, true))⟩,
 ⟨(some 21), .load (some 12) (.tmp 20), (some (18, true))⟩,
 ⟨(some 22), .call (.func 26) [(.tmp 21)] .pure, (some (18, true))⟩,
 ⟨(some 23), .pick (.tmp 18) (.tmp 22) (.const (.bool false)), none⟩,
 ⟨(some 24), .mov (.tmp 23), none⟩,
 ⟨(some 25), .faddr 1 (.tmp 1), (some (24, true))⟩,
 ⟨(some 26), .faddr 0 (.tmp 25), (some (24, true))⟩,
 ⟨(some 27), .load none (.tmp 26), (some (24, true))⟩,
 ⟨(some 28), .lenL (.tmp 27), (some (24, true))⟩,
 ⟨(some 29), .bin .eql (.tmp 28) (.const (.int .i64 0)), (some (24, true))⟩,
 ⟨(some 30), .pick (.tmp 24) (.tmp 29) (.const (.bool false)), none⟩,
 ⟨(some 31), .mov (.tmp 30), none⟩,
 ⟨(some 32), .faddr 1 (.tmp 1), (some (31, true))⟩,
 ⟨(some 33), .faddr 1 (.tmp 32), (some (31, true))⟩,
 ⟨(some 34), .load none (.tmp 33), (some (31, true))⟩,
 ⟨(some 35), .lenL (.tmp 34), (some (31, true))⟩,
 ⟨(some 36), .bin .eql (.tmp 35) (.const (.int .i64 0)), (some (31, true))⟩,
 ⟨(some 37), .pick (.tmp 31) (.tmp 36) (.const (.bool false)), none⟩,
 ⟨(some 2), .mov (.tmp 37), none⟩]) (
 .ret)) (
 .skip)))) (
 .trim [1] [1] [] (
 .seq (
 .seq (
 .reg [⟨(some 3), .mov (.const (.int .i64 0)), none⟩]) (
 .trim [1, 3] [1] [] (
 .block 0 (
 .loop (
 .trim [1, 3] [1] [] (
 .seq (
 .seq (
 .reg [⟨(some 38), .mov (.tmp 3), none⟩,
 ⟨(some 39), .faddr 1 (.tmp 1), none⟩,
 ⟨(some 40), .faddr 0 (.tmp 39), none⟩,
 ⟨(some 41), .load none (.tmp 40), none⟩,
 ⟨(some 42), .lenL (.tmp 41), none⟩,
 ⟨(some 43), .bin .lss (.tmp 38) (.tmp 42), none⟩]) (
 .trim [1, 3, 43] [1] [] (
 .cond (.tmp 43) (
 .skip) (
 .exit 0)))) (
 .trim [1, 3] [1] [] (
 .seq (
 .block 1 (
 .seq (
 .reg [⟨(some 46), .faddr 1 (.tmp 1), none⟩,
 ⟨(some 47), .faddr 0 (.tmp 46), none⟩,
 ⟨(some 48), .load none (.tmp 47), none⟩,
 ⟨(some 49), .mov (.tmp 3), none⟩,
 ⟨(some 50), .iaddrS 3 (.tmp 48) (.tmp 49), none⟩,
 ⟨(some 51), .load (some 3) (.tmp 50), none⟩,
 ⟨(some 4), .alloc 67 [(.val (.int .i64 0)), (.sl none []), (.val (.int .u64 0))], none⟩,
 ⟨none, .store 3 (.tmp 4) (.tmp 51), none⟩]) (
 .trim [1, 3, 4] [1, 4] [] (
 .seq (
 .reg [⟨(some 52), .faddr 0 (.tmp 4), none⟩,
 ⟨(some 53), .load none (.tmp 52), none⟩,
 ⟨(some 54), .call (.func 25) [(.tmp 53)] .pure, none⟩,
 ⟨(some 55), .un .not (.tmp 54), none⟩,
 ⟨(some 56), .mov (.tmp 55), none⟩,
 ⟨(some 57), .faddr 1 (.tmp 4), (some (56, false))⟩,
 ⟨(some 58), .load none (.tmp 57), (some (56, false))⟩,
 ⟨(some 59), .call (.func 27) [(.tmp 58)] .pure, (some (56, false))⟩,
 ⟨(some 60), .un .not (.tmp 59), (some (56, false))⟩,
 ⟨(some 61), .pick (.tmp 56) (.const (.bool true)) (.tmp 60), none⟩,
 ⟨(some 62), .mov (.tmp 61), none⟩,
 ⟨(some 63), .faddr 2 (.tmp 4), (some (62, false))⟩,
 ⟨(some 64), .load none (.tmp 63), (some (62, false))⟩,
 ⟨(some 65), .bin .eql (.tmp 64) (.const (.int .u64 18446744073709551615)), (some (62, false))⟩,
 ⟨(some 66), .pick (.tmp 62) (.const (.bool true)) (.tmp 65), none⟩]) (
 .trim [1, 3, 66] [1] [] (
 .cond (.tmp 66) (
 .seq (
 .reg [⟨(some 2), .mov (.const (.bool false)), none⟩]) (
 .ret)) (
 .skip))))))) (
 .trim [1, 3] [1] [] (
 .reg [⟨(some 44), .mov (.tmp 3), none⟩,
 ⟨(some 45), .bin .add (.tmp 44) (.const (.int .i64 1)), none⟩,
 ⟨(some 3), .mov (.tmp 45), none⟩])))))))))) (
 .trim [1] [1] [] (
 .seq (
 .seq (
 .reg [⟨(some 5), .mov (.const (.int .i64 0)), none⟩]) (
 .trim [1, 5] [1] [] (
 .block 2 (
 .loop (
 .trim [1, 5] [1] [] (
 .seq (
 .seq (
 .reg [⟨(some 67), .mov (.tmp 5), none⟩,
 ⟨(some 68), .faddr 1 (.tmp 1), none⟩,
 ⟨(some 69), .faddr 1 (.tmp 68), none⟩,
 ⟨(some 70), .load none (.tmp 69), none⟩,
 ⟨(some 71), .lenL (.tmp 70), none⟩,
 ⟨(some 72), .bin .lss (.tmp 67) (.tmp 71), none⟩]) (
 .trim [1, 5, 72] [1] [] (
 .cond (.tmp 72) (
 .skip) (
 .exit 2)))) (
 .trim [1, 5] [1] [] (
 .seq (
 .block 3 (
 .seq (
 .reg [⟨(some 75), .faddr 1 (.tmp 1), none⟩,
 ⟨(some 76), .faddr 1 (.tmp 75), none⟩,
 ⟨(some 77), .load none (.tmp 76), none⟩,
 ⟨(some 78), .mov (.tmp 5), none⟩,
 ⟨(some 79), .iaddrS 1 (.tmp 77) (.tmp 78), none⟩,
 ⟨(some 80), .load none (.tmp 79), none⟩,
 ⟨(some 81), .call (.func 25) [(.tmp 80)] .pure, none⟩,
 ⟨(some 82), .un .not (.tmp 81), none⟩]) (
 .trim [1, 5, 82] [1] [] (
 .cond (.tmp 82) (
 .seq (
 .reg [⟨(some 2), .mov (.const (.bool false)), none⟩]) (
 .ret)) (
 .skip))))) (
 .trim [1, 5] [1] [] (
 .reg [⟨(some 73), .mov (.tmp 5), none⟩,
 ⟨(some 74), .bin .add (.tmp 73) (.const (.int .i64 1)), none⟩,
 ⟨(some 5), .mov (.tmp 74), none⟩])))))))))) (
 .trim [1] [1] [] (
 .seq (
 .reg [⟨(some 83), .faddr 3 (.tmp 1), none⟩,
 ⟨(some 84), .load (some 14) (.tmp 83), none⟩,
 ⟨(some 85), .build [(.val (.int .i64 0)), (.val (.int .i64 0)), (.val (.int .i64 0)), (.val (.int .i64 0)), (.val (.string ⟨#[]⟩)), (.val (.int .i64 0)), (.val (.int .i64 0)), (.val (.string ⟨#[]⟩)), (.val (.int .i64 0)), (.val (.int .i64 0)), (.val (.string ⟨#[]⟩)), (.val (.int .i64 0)), (.val (.int .i64 0)), (.val (.string ⟨#[]⟩))] [], none⟩,
 ⟨(some 86), .eqs false [.i, .i, .i, .i, .s, .i, .i, .s, .i, .i, .s, .i, .i, .s] (.tmp 84) (.tmp 85), none⟩,
 ⟨(some 2), .mov (.tmp 86), none⟩]) (
 .ret)))))))))
theorem r10 : Runs Tryz.prog 10 m10.strip [.mov (.tmp 2)] 87 := ⟨by kernel_rfl, by kernel_rfl, Tryz.f10, Tryz.f10.body.getD .skip, Tryz.func10, by kernel_rfl, by kernel_rfl, by kernel_rfl, by kernel_rfl, by kernel_rfl⟩

def m11 : MC :=
 .seq (
 .reg [⟨(some 2), .alloc 33 [(.val (.bool false)), (.sl none []), (.sl none []), (.val (.int .i64 0)), (.val (.int .i64 0)), (.val (.int .i64 0)), (.val (.int .i64 0)), (.val (.string ⟨#[]⟩)), (.val (.int .i64 0)), (.val (.int .i64 0)), (.val (.string ⟨#[]⟩)), (.val (.int .i64 0)), (.val (.int .i64 0)), (.val (.string ⟨#[]⟩)), (.val (.int .i64 0)), (.val (.int .i64 0)), (.val (.string ⟨#[]⟩))], none⟩,
 ⟨(some 3), .mov (.const (.int .i64 0)), none⟩]) (
 .trim [0, 2] [2] [] (
 .seq (
 .reg [⟨(some 4), .alloc 33 [(.val (.bool false)), (.sl none []), (.sl none []), (.val (.int .i64 0)), (.val (.int .i64 0)), (.val (.int .i64 0)), (.val (.int .i64 0)), (.val (.string ⟨#[]⟩)), (.val (.int .i64 0)), (.val (.int .i64 0)), (.val (.string ⟨#[]⟩)), (.val (.int .i64 0)), (.val (.int .i64 0)), (.val (.string ⟨#[]⟩)), (.val (.int .i64 0)), (.val (.int .i64 0)), (.val (.string ⟨#[]⟩))], none⟩]) (
 .trim [0, 2, 4] [2, 4] [] (
 .seq (
 .reg [⟨(some 6), .mov (.tmp 0), none⟩,
 ⟨(some 7), .call (.func 28) [(.tmp 6)] (.obj [] [] [(5, 7)] []), none⟩,
 ⟨(some 5), .mov (.tmp 7), none⟩]) (
 .trim [2, 4, 5] [2, 4, 7] [] (
 .seq (
 .seq (
 .reg [⟨(some 8), .mov (.tmp 5), none⟩,
 ⟨(some 9), .call (.func 29) [(.tmp 8)] (.obj [(7, 1000000)] [] [] []), none⟩]) (
 .trim [2, 4, 5, 9] [2, 4, 7] [] (
 .block 0 (
 .seq (
 .reg [⟨(some 13), .bin .eql (.tmp 9) (.const (.int .u8 0)), none⟩,
 ⟨(some 12), .mov (.tmp 13), none⟩]) (
 .trim [2, 4, 5, 9, 12] [2, 4, 7] [] (
 .cond (.tmp 12) (
 .reg [⟨(some 14), .mov (.tmp 5), none⟩,
 ⟨(some 15), .call (.func 30) [(.tmp 14)] (.obj [(7, 1000000)] [] [] []), none⟩,
 ⟨(some 16), .faddr 1 (.tmp 4), none⟩,
 ⟨none, .store 2 (.tmp 16) (.tmp 15), none⟩]) (
 .seq (
 .reg [⟨(some 18), .bin .eql (.tmp 9) (.const (.int .u8 1)), none⟩,
 ⟨(some 17), .mov (.tmp 18), none⟩]) (
 .trim [2, 4, 5, 17] [2, 4, 7] [] (
 .cond (.tmp 17) (
 .seq (
 .reg [⟨(some 19), .faddr 0 (.tmp 4), none⟩,
 ⟨none, .store 1 (.tmp 19) (.const (.bool true)), none⟩]) (
 .trim [2, 4, 5] [2, 4, 7] [] (
 .seq (
 .reg [⟨(some 20), .mov (.tmp 5), none⟩,
 ⟨(some 21), .call (.func 31) [(.tmp 20)] (.obj [(7, 1000000)] [] [] []), none⟩,
 ⟨(some 22), .mov (.tmp 5), none⟩,
 ⟨(some 23), .call (.func 31) [(.tmp 22)] (.obj [(7, 1000000)] [] [] []), none⟩,
 ⟨(some 24), .build [(.val (.int .i64 0)), (.val (.int .i64 0)), (.val (.int .i64 0)), (.val (.int .i64 0)), (.val (.string ⟨#[]⟩)), (.val (.int .i64 0)), (.val (.int .i64 0)), (.val (.string ⟨#[]⟩)), (.val (.int .i64 0)), (.val (.int .i64 0)), (.val (.string ⟨#[]⟩)), (.val (.int .i64 0)), (.val (.int .i64 0)), (.val (.string ⟨#[]⟩))] [(0, 1, (.tmp 21)), (1, 1, (.tmp 23))], none⟩,
 ⟨(some 25), .faddr 3 (.tmp 4), none⟩,
 ⟨none, .store 14 (.tmp 25) (.tmp 24), none⟩]) (
 .trim [2, 4, 5] [2, 4, 7] [] (
 .reg [⟨(some 26), .mov (.tmp 5), none⟩,
 ⟨(some 27), .call (.func 32) [(.tmp 26)] (.obj [(7, 1000000)] [] [] []), none⟩,
 ⟨(some 28), .faddr 3 (.tmp 4), none⟩,
 ⟨(some 29), .faddr 2 (.tmp 28), none⟩,
 ⟨none, .store 12 (.tmp 29) (.tmp 27), none⟩]))))) (
 .reg [⟨(some 10), .mov (.tmp 5), none⟩,
 ⟨(some 11), .call (.func 33) [(.tmp 10), (.const (.int .i64 2))] (.obj [(7, 1000000)] [] [] []), none⟩])))))))))) (
 .trim [2, 4, 5] [2, 4, 7] [] (
 .fzb 4 (
 .seq (
 .seq (
 .reg [⟨(some 30), .mov (.tmp 5), none⟩,
 ⟨(some 31), .call (.func 34) [(.tmp 30)] (.obj [(7, 1000000)] [] [] []), none⟩,
 ⟨(some 32), .bin .neq (.tmp 31) (.const (.int .i64 0)), none⟩,
 ⟨(some 33), .mov (.tmp 32), none⟩,
 ⟨(some 34), .mov (.tmp 5), (some (33, false))⟩,
 ⟨(some 35), .call (.func 35) [(.tmp 34)] (.obj [(7, 1000000)] [] [] []), (some (33, false))⟩,
 ⟨(some 36), .bin .gtr (.tmp 35) (.const (.int .i64 0)), (some (33, false))⟩,
 ⟨(some 37), .pick (.tmp 33) (.const (.bool true)) (.tmp 36), none⟩,
 ⟨(some 38), .mov (.tmp 37), none⟩,
 ⟨(some 39), .call (.func 17) [(.tmp 4)] .pure, (some (38, false))⟩,
 ⟨(some 40), .un .not (.tmp 39), (some (38, false))⟩,
 ⟨(some 41), .pick (.tmp 38) (.const (.bool true)) (.tmp 40), none⟩]) (
 .trim [2, 4, 41] [2, 4] [] (
 .cond (.tmp 41) (
 .seq (
 .reg [⟨(some 42), .build [(.val (.bool false)), (.sl none []), (.sl none []), (.val (.int .i64 0)), (.val (.int .i64 0)), (.val (.int .i64 0)), (.val (.int .i64 0)), (.val (.string ⟨#[]⟩)), (.val (.int .i64 0)), (.val (.int .i64 0)), (.val (.string ⟨#[]⟩)), (.val (.int .i64 0)), (.val (.int .i64 0)), (.val (.string ⟨#[]⟩)), (.val (.int .i64 0)), (.val (.int .i64 0)), (.val (.string ⟨#[]⟩))] [], none⟩,
 ⟨none, .store 17 (.tmp 2) (.tmp 42), none⟩,
 ⟨(some 3), .mov (.const (.int .i64 2)), none⟩]) (
 .ret)) (
 .skip)))) (
 .trim [2, 4] [2, 4] [] (
 .seq (
 .reg [⟨(some 43), .load (some 17) (.tmp 4), none⟩,
 ⟨none, .store 17 (.tmp 2) (.tmp 43), none⟩,
 ⟨(some 3), .mov (.const (.int .i64 0)), none⟩]) (
 .ret))))))))))))
theorem r11 : Runs Tryz.prog 11 m11.strip [.load (some 17) (.tmp 2), .mov (.tmp 3)] 44 := ⟨by kernel_rfl, by kernel_rfl, Tryz.f11, Tryz.f11.body.getD .skip, Tryz.func11, by kernel_rfl, by kernel_rfl, by kernel_rfl, by kernel_rfl, by kernel_rfl⟩

def m15 : MC :=
 .seq (
 .reg [⟨(some 2), .box 33 17 (.tmp 0), none⟩,
 ⟨(some 3), .box 33 17 (.tmp 1), none⟩,
 ⟨(some 4), .mov (.const (.bool false)), none⟩]) (
 .trim [2, 3] [2, 3] [] (
 .seq (
 .reg [⟨(some 5), .faddr 0 (.tmp 2), none⟩,
 ⟨(some 6), .load none (.tmp 5), none⟩,
 ⟨(some 7), .faddr 0 (.tmp 3), none⟩,
 ⟨(some 8), .load none (.tmp 7), none⟩,
 ⟨(some 9), .binB false (.tmp 6) (.tmp 8), none⟩,
 ⟨(some 10), .mov (.tmp 9), none⟩,
 ⟨(some 11), .faddr 3 (.tmp 2), (some (10, true))⟩,
 ⟨(some 12), .load (some 14) (.tmp 11), (some (10, true))⟩,
 ⟨(some 13), .faddr 3 (.tmp 3), (some (10, true))⟩,
 ⟨(some 14), .load (some 14) (.tmp 13), (some (10, true))⟩,
 ⟨(some 15), .eqs false [.i, .i, .i, .i, .s, .i, .i, .s, .i, .i, .s, .i, .i, .s] (.tmp 12) (.tmp 14), (some (10, true))⟩,
 ⟨(some 16), .pick (.tmp 10) (.tmp 15) (.const (.bool false)), none⟩,
 ⟨(some 17), .mov (.tmp 16), none⟩,
 ⟨(some 18), .faddr 1 (.tmp 2), (some (17, true))⟩,
 ⟨(some 19), .faddr 0 (.tmp 18), (some (17, true))⟩,
 ⟨(some 20), .load none (.tmp 19), (some (17, true))⟩,
 ⟨(some 21), .faddr 1 (.tmp 3), (some (17, true))⟩,
 ⟨(some 22), .faddr 0 (.tmp 21), (some (17, true))⟩,
 ⟨(some 23), .load none (.tmp 22), (some (17, true))⟩,
 ⟨(some 24), .call (.func 47) [(.tmp 20), (.tmp 23), (.func 48)] .pure, (some (17, true))⟩,
 ⟨(some 25), .pick (.tmp 17) (.tmp 24) (.const (.bool false)), none⟩,
 ⟨(some 26), .mov (.tmp 25), none⟩,
 ⟨(some 27), .faddr 1 (.tmp 2), (some (26, true))⟩,
 ⟨(some 28), .faddr 1 (.tmp 27), (some (26, true))⟩,
 ⟨(some 29), .load none (.tmp 28), (some (26, true))⟩,
 ⟨(some 30), .faddr 1 (.tmp 3), (some (26, true))⟩,
 ⟨(some 31), .faddr 1 (.tmp 30), (some (26, true))⟩,
 ⟨(some 32), .load none (.tmp 31), (some (26, true))⟩,
 ⟨(some 33), .call (.func 49) [(.tmp 29), (.tmp 32)] .pure, (some (26, true))⟩,
 ⟨(some 34), .pick (.tmp 26) (.tmp 33) (.const (.bool false)), none⟩,
 ⟨(some 4), .mov (.tmp 34), none⟩]) (
 .ret)))
theorem r15 : Runs Tryz.prog 15 m15.strip [.mov (.tmp 4)] 35 := ⟨by kernel_rfl, by kernel_rfl, Tryz.f15, Tryz.f15.body.getD .skip, Tryz.func15, by kernel_rfl, by kernel_rfl, by kernel_rfl, by kernel_rfl, by kernel_rfl⟩

def m16 : MC :=
 .seq (
 .reg [⟨(some 2), .mov (.const (.bool false)), none⟩]) (
 .trim [0] [] [] (
 .seq (
 .seq (
 .reg [⟨(some 3), .mov (.const (.int .i64 0)), none⟩]) (
 .trim [0, 3] [] [] (
 .block 0 (
 .loop (
 .trim [0, 3] [] [] (
 .seq (
 .seq (
 .reg [⟨(some 4), .mov (.tmp 3), none⟩,
 ⟨(some 5), .mov (.tmp 0), none⟩,
 ⟨(some 6), .lenL (.tmp 5), none⟩,
 ⟨(some 7), .bin .lss (.tmp 4) (.tmp 6), none⟩]) (
 .trim [0, 3, 7] [] [] (
 .cond (.tmp 7) (
 .skip) (
 .exit 0)))) (
 .trim [0, 3] [] [] (
 .seq (
 .block 1 (
 .seq (
 .reg [⟨(some 10), .mov (.tmp 0), none⟩,
 ⟨(some 11), .mov (.tmp 3), none⟩,
 ⟨(some 12), .iaddrS 3 (.tmp 10) (.tmp 11), none⟩,
 ⟨(some 13), .faddr 1 (.tmp 12), none⟩,
 ⟨(some 14), .load none (.tmp 13), none⟩,
 ⟨(some 15), .call (.func 50) [(.tmp 14)] .pure, none⟩,
 ⟨(some 16), .un .not (.tmp 15), none⟩]) (
 .trim [0, 3, 16] [] [] (
 .cond (.tmp 16) (
 .seq (
 .reg [⟨(some 2), .mov (.const (.bool false)), none⟩]) (
 .ret)) (
 .skip))))) (
 .trim [0, 3] [] [] (
 .reg [⟨(some 8), .mov (.tmp 3), none⟩,
 ⟨(some 9), .bin .add (.tmp 8) (.const (.int .i64 1)), none⟩,
 ⟨(some 3), .mov (.tmp 9), none⟩])))))))))) (
 .trim [0] [] [] (
 .seq (
 .reg [⟨(some 17), .mov (.tmp 0), none⟩,
 ⟨(some 18), .lenL (.tmp 17), none⟩,
 ⟨(some 19), .bin .leq (.tmp 18) (.const (.int .i64 12)), none⟩,
 ⟨(some 2), .mov (.tmp 19), none⟩]) (
 .ret)))))
theorem r16 : Runs Tryz.prog 16 m16.strip [.mov (.tmp 2)] 20 := ⟨by kernel_rfl, by kernel_rfl, Tryz.f16, Tryz.f16.body.getD .skip, Tryz.func16, by kernel_rfl, by kernel_rfl, by kernel_rfl, by kernel_rfl, by kernel_rfl⟩

def m17 : MC :=
 .seq (
 .reg [⟨(some 2), .mov (.const (.bool false)), none⟩]) (
 .trim [0] [] [] (
 .seq (
 .seq (
 .reg [⟨(some 5), .mov (.tmp 0), none⟩,
 ⟨(some 6), .nilck (.tmp 5), none⟩,
 ⟨(some 7), .faddr 0 (.tmp 6), none⟩,
 ⟨(some 8), .load none (.tmp 7), none⟩]) (
 .trim [0, 8] [] [] (
 .cond (.tmp 8) (
 .seq (
 .dreg 39 [⟨(some 9), .mov (.tmp 0), none⟩,
 ⟨(some 10), .nilck (.tmp 9), none⟩,
 ⟨(some 11), .faddr 3 (.tmp 10), none⟩,
 ⟨(some 12), .faddr 0 (.tmp 11), none⟩,
 ⟨(some 13), .load none (.tmp 12), none⟩,
 ⟨(some 14), .call (.func 51) [(.tmp 13)] .pure, none⟩,
 ⟨(some 15), .mov (.tmp 14), none⟩,
 ⟨(some 16), .mov (.tmp 0), (some (15, true))⟩,
 ⟨(some 17), .nilck (.tmp 16), (some (15, true))⟩,
 ⟨(some 18), .faddr 3 (.tmp 17), (some (15, true))⟩,
 ⟨(some 19), .faddr 1 (.tmp 18), (some (15, true))⟩,
 ⟨(some 20), .load none (.tmp 19), (some (15, true))⟩,
 ⟨(some 21), .call (.func 51) [(.tmp 20)] .pure, (some (15, true))⟩,
 ⟨(some 22), .pick (.tmp 15) (.tmp 21) (.const (.bool false)), none⟩,
 ⟨(some 23), .mov (.tmp 22), none⟩,
 ⟨(some 24), .mov (.tmp 0), (some (23, true))⟩,
 ⟨(some 25), .nilck (.tmp 24), (some (23, true))⟩,
 ⟨(some 26), .faddr 3 (.tmp 25), (some (23, true))⟩,
 ⟨(some 27), .faddr 2 (.tmp 26), (some (23, true))⟩,
 ⟨(some 28), .load (some 12) (.tmp 27), (some (23, true))⟩,
 ⟨(some 29), .call (.func 52) [(.tmp 28)] .pure, (some (23, true))⟩,
 ⟨(some 30), .pick (.tmp 23) (.tmp 29) (.const (.bool false)), none⟩,
 ⟨(some 31), .mov (.tmp 30), none⟩,
 ⟨(some 32), .mov (.tmp 0), (some (31, true))⟩,
 ⟨(some 33), .nilck (.tmp 32), (some (31, true))⟩,
 ⟨(some 34), .faddr 1 (.tmp 33), (some (31, true))⟩,
 ⟨(some 35), .faddr 0 (.tmp 34), (some (31, true))⟩,
 ⟨(some 36), .load none (.tmp 35), (some (31, true))⟩,
 ⟨(some 37), .lenL (.tmp 36), (some (31, true))⟩,
 ⟨(some 38), .mov (.tmp 0), (some (31, true))⟩,
 ⟨(some 39), .nilck (.tmp 38), (some (31, true))⟩,
 ⟨(some 40), .faddr 1 (.tmp 39), (some (31, true))⟩,
 ⟨(some 41), .faddr 1 (.tmp 40), (some (31, true))⟩,
 ⟨(some 42), .load none (.tmp 41), (some (31, true))⟩,
 ⟨(some 43), .lenL (.tmp 42), (some (31, true))⟩,
 ⟨(some 44), .bin .add (.tmp 37) (.tmp 43), (some (31, true))⟩,
 ⟨(some 45), .bin .eql (.tmp 44) (.const (.int .i64 0)), (some (31, true))⟩,
 ⟨(some 46), .pick (.tmp 31) (.tmp 45) (.const (.bool false)), none⟩,
 ⟨(some 2), .mov (.tmp 46), none⟩]) (
 .ret)) (
 .skip)))) (
 .trim [0] [] [] (
 .seq (
 .seq (
 .reg [⟨(some 47), .mov (.tmp 0), none⟩,
 ⟨(some 48), .nilck (.tmp 47), none⟩,
 ⟨(some 49), .faddr 1 (.tmp 48), none⟩,
 ⟨(some 50), .faddr 0 (.tmp 49), none⟩,
 ⟨(some 51), .load none (.tmp 50), none⟩,
 ⟨(some 52), .lenL (.tmp 51), none⟩,
 ⟨(some 53), .mov (.const (.int .i64 0)), none⟩]) (
 .trim [0, 51, 52, 53] [] [] (
 .block 0 (
 .loop (
 .trim [0, 51, 52, 53] [] [] (
 .seq (
 .reg [⟨(some 54), .bin .lss (.tmp 53) (.tmp 52), none⟩]) (
 .trim [0, 51, 52, 53, 54] [] [] (
 .seq (
 .cond (.tmp 54) (
 .skip) (
 .exit 0)) (
 .trim [0, 51, 52, 53] [] [] (
 .seq (
 .block 1 (
 .seq (
 .reg [⟨(some 55), .iaddrS 3 (.tmp 51) (.tmp 53), none⟩,
 ⟨(some 56), .load (some 3) (.tmp 55), none⟩,
 ⟨(some 4), .alloc 67 [(.val (.int .i64 0)), (.sl none []), (.val (.int .u64 0))], none⟩,
 ⟨none, .store 3 (.tmp 4) (.tmp 56), none⟩]) (
 .trim [0, 4, 51, 52, 53] [4] [] (
 .seq (
 .reg [⟨(some 57), .faddr 0 (.tmp 4), none⟩,
 ⟨(some 58), .load none (.tmp 57), none⟩,
 ⟨(some 59), .call (.func 51) [(.tmp 58)] .pure, none⟩,
 ⟨(some 60), .un .not (.tmp 59), none⟩,
 ⟨(some 61), .mov (.tmp 60), none⟩,
 ⟨(some 62), .faddr 1 (.tmp 4), (some (61, false))⟩,
 ⟨(some 63), .load none (.tmp 62), (some (61, false))⟩,
 ⟨(some 64), .call (.func 53) [(.tmp 63)] .pure, (some (61, false))⟩,
 ⟨(some 65), .un .not (.tmp 64), (some (61, false))⟩,
 ⟨(some 66), .pick (.tmp 61) (.const (.bool true)) (.tmp 65), none⟩,
 ⟨(some 67), .mov (.tmp 66), none⟩,
 ⟨(some 68), .faddr 2 (.tmp 4), (some (67, false))⟩,
 ⟨(some 69), .load none (.tmp 68), (some (67, false))⟩,
 ⟨(some 70), .bin .eql (.tmp 69) (.const (.int .u64 18446744073709551615)), (some (67, false))⟩,
 ⟨(some 71), .pick (.tmp 67) (.const (.bool true)) (.tmp 70), none⟩]) (
 .trim [0, 51, 52, 53, 71] [] [] (
 .cond (.tmp 71) (
 .seq (
 .reg [⟨(some 2), .mov (.const (.bool false)), none⟩]) (
 .ret)) (
 .skip))))))) (
 .trim [0, 51, 52, 53] [] [] (
 .reg [⟨(some 72), .bin .add (.tmp 53) (.const (.int .i64 1)), none⟩,
 ⟨(some 53), .mov (.tmp 72), none⟩])))))))))))) (
 .trim [0] [] [] (
 .seq (
 .reg [⟨(some 73), .mov (.tmp 0), none⟩,
 ⟨(some 74), .nilck (.tmp 73), none⟩,
 ⟨(some 75), .faddr 3 (.tmp 74), none⟩,
 ⟨(some 76), .load (some 14) (.tmp 75), none⟩,
 ⟨(some 77), .build [(.val (.int .i64 0)), (.val (.int .i64 0)), (.val (.int .i64 0)), (.val (.int .i64 0)), (.val (.string ⟨#[]⟩)), (.val (.int .i64 0)), (.val (.int .i64 0)), (.val (.string ⟨#[]⟩)), (.val (.int .i64 0)), (.val (.int .i64 0)), (.val (.string ⟨#[]⟩)), (.val (.int .i64 0)), (.val (.int .i64 0)), (.val (.string ⟨#[]⟩))] [], none⟩,
 ⟨(some 78), .eqs false [.i, .i, .i, .i, .s, .i, .i, .s, .i, .i, .s, .i, .i, .s] (.tmp 76) (.tmp 77), none⟩,
 ⟨(some 79), .mov (.tmp 78), none⟩,
 ⟨(some 80), .mov (.tmp 0), (some (79, true))⟩,
 ⟨(some 81), .nilck (.tmp 80), (some (79, true))⟩,
 ⟨(some 82), .faddr 1 (.tmp 81), (some (79, true))⟩,
 ⟨(some 83), .faddr 1 (.tmp 82), (some (79, true))⟩,
 ⟨(some 84), .load none (.tmp 83), (some (79, true))⟩,
 ⟨(some 85), .call (.func 54) [(.tmp 84), (.func 55)] .pure, (some (79, true))⟩,
 ⟨(some 86), .un .not (.tmp 85), (some (79, true))⟩,
 ⟨(some 87), .pick (.tmp 79) (.tmp 86) (.const (.bool false)), none⟩,
 ⟨(some 2), .mov (.tmp 87), none⟩]) (
 .ret)))))))
theorem r17 : Runs Tryz.prog 17 m17.strip [.mov (.tmp 2)] 88 := ⟨by kernel_rfl, by kernel_rfl, Tryz.f17, Tryz.f17.body.getD .skip, Tryz.func17, by kernel_rfl, by kernel_rfl, by kernel_rfl, by kernel_rfl, by kernel_rfl⟩

def m19 : MH :=
 .seq (
 .pure (
 .reg [⟨(some 6), .mov (.tmp 1), none⟩,
 ⟨(some 7), .lenL (.tmp 6), none⟩,
 ⟨(some 8), .mov (.const (.int .i64 0)), none⟩])) (
 .trim [0, 6, 7, 8] [] [] (
 .block 0 (
 .loop (
 .trim [0, 6, 7, 8] [] [] (
 .seq (
 .pure (
 .reg [⟨(some 9), .bin .lss (.tmp 8) (.tmp 7), none⟩])) (
 .trim [0, 6, 7, 8, 9] [] [] (
 .seq (
 .pure (
 .cond (.tmp 9) (
 .skip) (
 .exit 0))) (
 .trim [0, 6, 7, 8] [] [] (
 .seq (
 .block 1 (
 .seq (
 .pure (
 .reg [⟨(some 10), .iaddrS 1 (.tmp 6) (.tmp 8), none⟩,
 ⟨(some 11), .load none (.tmp 10), none⟩,
 ⟨(some 5), .mov (.tmp 11), none⟩])) (
 .trim [0, 5, 6, 7, 8] [] [] (
 .reg [([⟨(some 12), .mov (.tmp 0), none⟩, ⟨(some 13), .mov (.tmp 5), none⟩, ⟨(some 14), .conv .u64 (.tmp 13), none⟩, ⟨(some 15), .call (.func 23) [(.tmp 14)] .pure, none⟩], (.call (some 16) 20 [(.tmp 12), (.tmp 15)]))] [])))) (
 .pure (
 .trim [0, 6, 7, 8] [] [] (
 .reg [⟨(some 17), .bin .add (.tmp 8) (.const (.int .i64 1)), none⟩,
 ⟨(some 8), .mov (.tmp 17), none⟩]))))))))))))
theorem r19 : Runs Tryz.prog 19 m19.flat.strip [] 18 := ⟨by kernel_rfl, by kernel_rfl, Tryz.f19, Tryz.f19.body.getD .skip, Tryz.func19, by kernel_rfl, by kernel_rfl, by kernel_rfl, by kernel_rfl, by kernel_rfl⟩

def m25 : MC :=
 .seq (
 .reg [⟨(some 2), .mov (.const (.bool false)), none⟩]) (
 .trim [0] [] [] (
 .seq (
 .reg [⟨(some 3), .mov (.tmp 0), none⟩,
 ⟨(some 4), .bin .geq (.tmp 3) (.const (.int .i64 0)), none⟩,
 ⟨(some 5), .mov (.tmp 4), none⟩,
 ⟨(some 6), .mov (.tmp 0), (some (5, true))⟩,
 ⟨(some 7), .bin .leq (.tmp 6) (.const (.int .i64 1099511627776)), (some (5, true))⟩,
 ⟨(some 8), .pick (.tmp 5) (.tmp 7) (.const (.bool false)), none⟩,
 ⟨(some 2), .mov (.tmp 8), none⟩]) (
 .ret)))
theorem r25 : Runs Tryz.prog 25 m25.strip [.mov (.tmp 2)] 9 := ⟨by kernel_rfl, by kernel_rfl, Tryz.f25, Tryz.f25.body.getD .skip, Tryz.func25, by kernel_rfl, by kernel_rfl, by kernel_rfl, by kernel_rfl, by kernel_rfl⟩

def m30 : MC :=
 .seq (
 .reg [⟨(some 2), .alloc 25 [(.val (.slice none 0 0)), (.val (.slice none 0 0))], none⟩]) (
 .trim [0, 2] [2, 1000000] [] (
 .own 2 [(0, (2, 67, 3)), (1, (2, 3, 1))] (
 .seq (
 .seq (
 .reg [⟨(some 6), .mov (.tmp 0), none⟩,
 ⟨(some 7), .call (.func 31) [(.tmp 6)] (.obj [(1000000, 1000000)] [] [] []), none⟩,
 ⟨(some 3), .mov (.tmp 7), none⟩]) (
 .trim [0, 2, 3] [2, 1000000] [(2, 67, 3), (2, 3, 1)] (
 .block 0 (
 .loop (
 .trim [0, 2, 3] [2, 1000000] [(2, 67, 3), (2, 3, 1)] (
 .seq (
 .seq (
 .reg [⟨(some 8), .mov (.tmp 3), none⟩,
 ⟨(some 9), .bin .gtr (.tmp 8) (.const (.int .i64 0)), none⟩,
 ⟨(some 10), .mov (.tmp 9), none⟩,
 ⟨(some 11), .mov (.tmp 0), (some (10, true))⟩,
 ⟨(some 12), .call (.func 34) [(.tmp 11)] (.obj [(1000000, 1000000)] [] [] []), (some (10, true))⟩,
 ⟨(some 13), .bin .eql (.tmp 12) (.const (.int .i64 0)), (some (10, true))⟩,
 ⟨(some 14), .pick (.tmp 10) (.tmp 13) (.const (.bool false)), none⟩]) (
 .trim [0, 2, 3, 14] [2, 1000000] [(2, 67, 3), (2, 3, 1)] (
 .cond (.tmp 14) (
 .skip) (
 .exit 0)))) (
 .trim [0, 2, 3] [2, 1000000] [(2, 67, 3), (2, 3, 1)] (
 .seq (
 .block 1 (
 .seq (
 .reg [⟨(some 17), .mov (.tmp 0), none⟩,
 ⟨(some 18), .call (.func 31) [(.tmp 17)] (.obj [(1000000, 1000000)] [] [] []), none⟩,
 ⟨(some 19), .mov (.tmp 0), none⟩,
 ⟨(some 20), .call (.func 64) [(.tmp 19)] (.obj [(1000000, 1000000)] [] [] []), none⟩,
 ⟨(some 21), .build [(.val (.int .i64 0)), (.sl none []), (.val (.int .u64 0))] [(0, 1, (.tmp 18)), (2, 1, (.tmp 20))], none⟩,
 ⟨(some 4), .alloc 67 [(.val (.int .i64 0)), (.sl none []), (.val (.int .u64 0))], none⟩,
 ⟨none, .store 3 (.tmp 4) (.tmp 21), none⟩]) (
 .trim [0, 2, 3, 4] [2, 4, 1000000] [(2, 67, 3), (2, 3, 1)] (
 .seq (
 .reg [⟨(some 22), .mov (.tmp 0), none⟩,
 ⟨(some 23), .call (.func 65) [(.tmp 22)] (.obj [(1000000, 1000000)] [] [] []), none⟩,
 ⟨(some 24), .faddr 1 (.tmp 4), none⟩,
 ⟨none, .store 1 (.tmp 24) (.tmp 23), none⟩]) (
 .trim [0, 2, 3, 4] [2, 4, 1000000] [(2, 67, 3), (2, 3, 1)] (
 .reg [⟨(some 25), .faddr 0 (.tmp 2), none⟩,
 ⟨(some 26), .load none (.tmp 25), none⟩,
 ⟨(some 27), .load (some 3) (.tmp 4), none⟩,
 ⟨(some 28), .bslice 67 3 [(.val (.int .i64 0)), (.sl none []), (.val (.int .u64 0))] 1 [(0, 3, (.tmp 27))], none⟩,
 ⟨(some 29), .append 67 3 40 (.tmp 26) (.tmp 28), none⟩,
 ⟨(some 30), .faddr 0 (.tmp 2), none⟩,
 ⟨none, .store 1 (.tmp 30) (.tmp 29), none⟩])))))) (
 .trim [0, 2, 3] [2, 1000000] [(2, 67, 3), (2, 3, 1)] (
 .reg [⟨(some 15), .mov (.tmp 3), none⟩,
 ⟨(some 16), .bin .sub (.tmp 15) (.const (.int .i64 1)), none⟩,
 ⟨(some 3), .mov (.tmp 16), none⟩])))))))))) (
 .trim [0, 2] [2, 1000000] [(2, 67, 3), (2, 3, 1)] (
 .seq (
 .seq (
 .reg [⟨(some 31), .mov (.tmp 0), none⟩,
 ⟨(some 32), .call (.func 31) [(.tmp 31)] (.obj [(1000000, 1000000)] [] [] []), none⟩,
 ⟨(some 5), .mov (.tmp 32), none⟩]) (
 .trim [0, 2, 5] [2, 1000000] [(2, 67, 3), (2, 3, 1)] (
 .block 2 (
 .loop (
 .trim [0, 2, 5] [2, 1000000] [(2, 67, 3), (2, 3, 1)] (
 .seq (
 .seq (
 .reg [⟨(some 33), .mov (.tmp 5), none⟩,
 ⟨(some 34), .bin .gtr (.tmp 33) (.const (.int .i64 0)), none⟩,
 ⟨(some 35), .mov (.tmp 34), none⟩,
 ⟨(some 36), .mov (.tmp 0), (some (35, true))⟩,
 ⟨(some 37), .call (.func 34) [(.tmp 36)] (.obj [(1000000, 1000000)] [] [] []), (some (35, true))⟩,
 ⟨(some 38), .bin .eql (.tmp 37) (.const (.int .i64 0)), (some (35, true))⟩,
 ⟨(some 39), .pick (.tmp 35) (.tmp 38) (.const (.bool false)), none⟩]) (
 .trim [0, 2, 5, 39] [2, 1000000] [(2, 67, 3), (2, 3, 1)] (
 .cond (.tmp 39) (
 .skip) (
 .exit 2)))) (
 .trim [0, 2, 5] [2, 1000000] [(2, 67, 3), (2, 3, 1)] (
 .seq (
 .block 3 (
 .dany [(⟨(some 42), .faddr 1 (.tmp 2), none⟩, []),
 (⟨(some 43), .load none (.tmp 42), none⟩, [0]),
 (⟨(some 44), .mov (.tmp 0), none⟩, []),
 (⟨(some 45), .call (.func 31) [(.tmp 44)] (.obj [(1000000, 1000000)] [] [] []), none⟩, [2]),
 (⟨(some 46), .bslice 3 1 [(.val (.int .i64 0))] 1 [(0, 1, (.tmp 45))], none⟩, [3]),
 (⟨(some 47), .append 3 1 8 (.tmp 43) (.tmp 46), none⟩, [1, 4, 3]),
 (⟨(some 48), .faddr 1 (.tmp 2), none⟩, [0, 1, 2, 3, 4, 5]),
 (⟨none, .store 1 (.tmp 48) (.tmp 47), none⟩, [6, 5, 5, 0, 1, 2, 3, 4, 5])])) (
 .trim [0, 2, 5] [2, 1000000] [(2, 67, 3), (2, 3, 1)] (
 .reg [⟨(some 40), .mov (.tmp 5), none⟩,
 ⟨(some 41), .bin .sub (.tmp 40) (.const (.int .i64 1)), none⟩,
 ⟨(some 5), .mov (.tmp 41), none⟩])))))))))) (
 .trim [2] [2, 1000000] [(2, 67, 3), (2, 3, 1)] (
 .seq (
 .reg [⟨(some 49), .load (some 2) (.tmp 2), none⟩,
 ⟨none, .store 2 (.tmp 2) (.tmp 49), none⟩]) (
 .fzb 2 (
 .ret)))))))))
theorem r30 : Runs Tryz.prog 30 m30.strip [.load (some 2) (.tmp 2)] 50 := ⟨by kernel_rfl, by kernel_rfl, Tryz.f30, Tryz.f30.body.getD .skip, Tryz.func30, by kernel_rfl, by kernel_rfl, by kernel_rfl, by kernel_rfl, by kernel_rfl⟩

def m31 : MC :=
 .seq (
 .reg [⟨(some 2), .mov (.const (.int .i64 0)), none⟩]) (
 .trim [0] [1000000] [] (
 .seq (
 .reg [⟨(some 4), .mov (.tmp 0), none⟩,
 ⟨(some 5), .call (.func 64) [(.tmp 4)] (.obj [(1000000, 1000000)] [] [] []), none⟩,
 ⟨(some 3), .mov (.tmp 5), none⟩]) (
 .trim [0, 3] [1000000] [] (
 .seq (
 .seq (
 .reg [⟨(some 6), .mov (.tmp 3), none⟩,
 ⟨(some 7), .bin .gtr (.tmp 6) (.const (.int .u64 1099511627776)), none⟩]) (
 .trim [0, 3, 7] [1000000] [] (
 .cond (.tmp 7) (
 .seq (
 .reg [⟨(some 8), .mov (.tmp 0), none⟩,
 ⟨(some 9), .call (.func 33) [(.tmp 8), (.const (.int .i64 2))] (.obj [(1000000, 1000000)] [] [] []), none⟩]) (
 .trim [] [1000000] [] (
 .seq (
 .reg [⟨(some 2), .mov (.const (.int .i64 0)), none⟩]) (
 .ret)))) (
 .skip)))) (
 .trim [3] [1000000] [] (
 .seq (
 .reg [⟨(some 10), .mov (.tmp 3), none⟩,
 ⟨(some 11), .conv .i64 (.tmp 10), none⟩,
 ⟨(some 2), .mov (.tmp 11), none⟩]) (
 .ret)))))))
theorem r31 : Runs Tryz.prog 31 m31.strip [.mov (.tmp 2)] 12 := ⟨by kernel_rfl, by kernel_rfl, Tryz.f31, Tryz.f31.body.getD .skip, Tryz.func31, by kernel_rfl, by kernel_rfl, by kernel_rfl, by kernel_rfl, by kernel_rfl⟩

def m51 : MC :=
 .seq (
 .reg [⟨(some 2), .mov (.const (.bool false)), none⟩]) (
 .trim [0] [] [] (
 .seq (
 .reg [⟨(some 3), .mov (.tmp 0), none⟩,
 ⟨(some 4), .bin .geq (.tmp 3) (.const (.int .i64 0)), none⟩,
 ⟨(some 5), .mov (.tmp 4), none⟩,
 ⟨(some 6), .mov (.tmp 0), (some (5, true))⟩,
 ⟨(some 7), .bin .leq (.tmp 6) (.const (.int .i64 1099511627776)), (some (5, true))⟩,
 ⟨(some 8), .pick (.tmp 5) (.tmp 7) (.const (.bool false)), none⟩,
 ⟨(some 2), .mov (.tmp 8), none⟩]) (
 .ret)))
theorem r51 : Runs Tryz.prog 51 m51.strip [.mov (.tmp 2)] 9 := ⟨by kernel_rfl, by kernel_rfl, Tryz.f51, Tryz.f51.body.getD .skip, Tryz.func51, by kernel_rfl, by kernel_rfl, by kernel_rfl, by kernel_rfl, by kernel_rfl⟩

def m54 : MC :=
 .seq (
 .reg [⟨(some 4), .mov (.const (.bool false)), none⟩]) (
 .trim [0, 1] [] [] (
 .seq (
 .reg [⟨(some 5), .mov (.tmp 0), none⟩,
 ⟨(some 6), .mov (.tmp 1), none⟩,
 ⟨(some 7), .call (.func 83) [(.tmp 5), (.tmp 6)] .pure, none⟩,
 ⟨(some 8), .bin .geq (.tmp 7) (.const (.int .i64 0)), none⟩,
 ⟨(some 4), .mov (.tmp 8), none⟩]) (
 .ret)))
theorem r54 : Runs Tryz.prog 54 m54.strip [.mov (.tmp 4)] 9 := ⟨by kernel_rfl, by kernel_rfl, Tryz.f54, Tryz.f54.body.getD .skip, Tryz.func54, by kernel_rfl, by kernel_rfl, by kernel_rfl, by kernel_rfl, by kernel_rfl⟩

def m55 : MC :=
 .seq (
 .reg [⟨(some 2), .mov (.const (.bool false)), none⟩]) (
 .trim [0] [] [] (
 .seq (
 .reg [⟨(some 3), .mov (.tmp 0), none⟩,
 ⟨(some 4), .call (.func 51) [(.tmp 3)] .pure, none⟩,
 ⟨(some 5), .un .not (.tmp 4), none⟩,
 ⟨(some 2), .mov (.tmp 5), none⟩]) (
 .ret)))
theorem r55 : Runs Tryz.prog 55 m55.strip [.mov (.tmp 2)] 6 := ⟨by kernel_rfl, by kernel_rfl, Tryz.f55, Tryz.f55.body.getD .skip, Tryz.func55, by kernel_rfl, by kernel_rfl, by kernel_rfl, by kernel_rfl, by kernel_rfl⟩

def m83 : MC :=
 .seq (
 .reg [⟨(some 4), .mov (.const (.int .i64 0)), none⟩]) (
 .trim [0, 1] [] [] (
 .seq (
 .seq (
 .reg [⟨(some 6), .mov (.tmp 0), none⟩,
 ⟨(some 7), .lenL (.tmp 6), none⟩,
 ⟨(some 8), .mov (.const (.int .i64 0)), none⟩]) (
 .trim [0, 1, 7, 8] [] [] (
 .block 0 (
 .loop (
 .trim [0, 1, 7, 8] [] [] (
 .seq (
 .reg [⟨(some 9), .bin .lss (.tmp 8) (.tmp 7), none⟩]) (
 .trim [0, 1, 7, 8, 9] [] [] (
 .seq (
 .cond (.tmp 9) (
 .skip) (
 .exit 0)) (
 .trim [0, 1, 7, 8] [] [] (
 .seq (
 .block 1 (
 .seq (
 .reg [⟨(some 10), .mov (.tmp 8), none⟩,
 ⟨(some 5), .mov (.tmp 10), none⟩]) (
 .trim [0, 1, 5, 7, 8] [] [] (
 .seq (
 .reg [⟨(some 11), .mov (.tmp 1), none⟩,
 ⟨(some 12), .mov (.tmp 0), none⟩,
 ⟨(some 13), .mov (.tmp 5), none⟩,
 ⟨(some 14), .iaddrS 1 (.tmp 12) (.tmp 13), none⟩,
 ⟨(some 15), .load none (.tmp 14), none⟩,
 ⟨(some 16), .call (.tmp 11) [(.tmp 15)] .pure, none⟩]) (
 .trim [0, 1, 5, 7, 8, 16] [] [] (
 .cond (.tmp 16) (
 .seq (
 .reg [⟨(some 17), .mov (.tmp 5), none⟩,
 ⟨(some 4), .mov (.tmp 17), none⟩]) (
 .ret)) (
 .skip))))))) (
 .trim [0, 1, 7, 8] [] [] (
 .reg [⟨(some 18), .bin .add (.tmp 8) (.const (.int .i64 1)), none⟩,
 ⟨(some 8), .mov (.tmp 18), none⟩])))))))))))) (
 .trim [] [] [] (
 .seq (
 .reg [⟨(some 4), .mov (.const (.int .i64 (-1))), none⟩]) (
 .ret)))))
theorem r83 : Runs Tryz.prog 83 m83.strip [.mov (.tmp 4)] 19 := ⟨by kernel_rfl, by kernel_rfl, Tryz.f83, Tryz.f83.body.getD .skip, Tryz.func83, by kernel_rfl, by kernel_rfl, by kernel_rfl, by kernel_rfl, by kernel_rfl⟩

end Go.Proofs

