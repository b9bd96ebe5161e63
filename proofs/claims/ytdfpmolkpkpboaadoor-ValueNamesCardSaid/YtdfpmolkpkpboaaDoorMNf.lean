/- The functions, as code of the value machine (printed by program). -/
import Derived.Test.YtdfpmolkpkpboaaDoorBC
import Derived.Test.YtdfpmolkpkpboaaDoorProg
set_option linter.unusedVariables false
set_option maxRecDepth 2000
namespace Go.Proofs
open Go.Vm
def m9f : MC :=
 .seq (
  .reg [⟨(some 0), .mov (.const (.bool false)), none⟩]) (
 .trim [] [] [] (
 .seq (
  .reg [⟨(some 12), .call (.func 10) [(.const (.string ⟨#[45, 55, 93]⟩))] .pure, none⟩,
   ⟨(some 11), .mov (.tmp 12), none⟩,
   ⟨(some 13), .ext (.tmp 11) 0, none⟩,
   ⟨(some 14), .ext (.tmp 11) 1, none⟩,
   ⟨(some 15), .ext (.tmp 11) 2, none⟩,
   ⟨(some 1), .alloc 24 [(.val (.int .i64 0)), (.val (.int .i64 0)), (.val (.string ⟨#[]⟩))], none⟩,
   ⟨none, .store 3 (.tmp 1) (.tmp 13), none⟩,
   ⟨(some 2), .mov (.tmp 14), none⟩,
   ⟨(some 3), .mov (.tmp 15), none⟩]) (
 .trim [1, 2, 3] [1] [] (
 .seq (
  .reg [⟨(some 17), .call (.func 10) [(.const (.string ⟨#[45, 93]⟩))] .pure, none⟩,
   ⟨(some 16), .mov (.tmp 17), none⟩,
   ⟨(some 18), .ext (.tmp 16) 0, none⟩,
   ⟨(some 19), .ext (.tmp 16) 1, none⟩,
   ⟨(some 20), .ext (.tmp 16) 2, none⟩,
   ⟨(some 4), .alloc 24 [(.val (.int .i64 0)), (.val (.int .i64 0)), (.val (.string ⟨#[]⟩))], none⟩,
   ⟨none, .store 3 (.tmp 4) (.tmp 18), none⟩,
   ⟨(some 5), .mov (.tmp 19), none⟩,
   ⟨(some 6), .mov (.tmp 20), none⟩]) (
 .trim [1, 2, 3, 4, 5, 6] [1, 4] [] (
 .seq (
  .reg [⟨(some 22), .call (.func 10) [(.const (.string ⟨#[48, 55]⟩))] .pure, none⟩,
   ⟨(some 21), .mov (.tmp 22), none⟩,
   ⟨(some 23), .ext (.tmp 21) 0, none⟩,
   ⟨(some 24), .ext (.tmp 21) 1, none⟩,
   ⟨(some 25), .ext (.tmp 21) 2, none⟩,
   ⟨(some 7), .alloc 24 [(.val (.int .i64 0)), (.val (.int .i64 0)), (.val (.string ⟨#[]⟩))], none⟩,
   ⟨none, .store 3 (.tmp 7) (.tmp 23), none⟩,
   ⟨(some 8), .mov (.tmp 24), none⟩,
   ⟨(some 9), .mov (.tmp 25), none⟩]) (
 .trim [1, 2, 3, 4, 5, 6, 9] [1, 4] [] (
 .seq (
  .reg [⟨(some 10), .alloc 47 [(.val (.int .u32 0)), (.val (.int .i32 0)), (.val (.int .u32 0)), (.val (.string ⟨#[]⟩)), (.val (.string ⟨#[]⟩)), (.val (.string ⟨#[]⟩)), (.val (.string ⟨#[]⟩)), (.val (.map none))], none⟩]) (
 .trim [1, 2, 3, 4, 5, 6, 9, 10] [1, 4, 10, 10000057] [] (
 .seq (
  .reg [⟨(some 26), .call (.func 16) [(.const (.string ⟨#[97, 39, 98]⟩))] .pure, none⟩,
   ⟨(some 27), .bin .eql (.tmp 26) (.const (.string ⟨#[39, 97, 92, 50, 55, 98, 39]⟩)), none⟩,
   ⟨(some 28), .mov (.tmp 27), none⟩,
   ⟨(some 29), .load (some 3) (.tmp 1), (some (28, true))⟩,
   ⟨(some 30), .build [(.val (.int .i64 0)), (.val (.int .i64 0)), (.val (.string ⟨#[]⟩))] [(0, 1, (.const (.int .i64 1))), (1, 1, (.const (.int .i64 (-7))))], (some (28, true))⟩,
   ⟨(some 31), .eqs false [.i, .i, .s] (.tmp 29) (.tmp 30), (some (28, true))⟩,
   ⟨(some 32), .pick (.tmp 28) (.tmp 31) (.const (.bool false)), none⟩,
   ⟨(some 33), .mov (.tmp 32), none⟩,
   ⟨(some 34), .mov (.tmp 2), (some (33, true))⟩,
   ⟨(some 35), .bin .eql (.tmp 34) (.const (.int .i64 2)), (some (33, true))⟩,
   ⟨(some 36), .pick (.tmp 33) (.tmp 35) (.const (.bool false)), none⟩,
   ⟨(some 37), .mov (.tmp 36), none⟩,
   ⟨(some 38), .mov (.tmp 3), (some (37, true))⟩,
   ⟨(some 39), .pick (.tmp 37) (.tmp 38) (.const (.bool false)), none⟩,
   ⟨(some 40), .mov (.tmp 39), none⟩,
   ⟨(some 41), .load (some 3) (.tmp 4), (some (40, true))⟩,
   ⟨(some 42), .build [(.val (.int .i64 0)), (.val (.int .i64 0)), (.val (.string ⟨#[]⟩))] [], (some (40, true))⟩,
   ⟨(some 43), .eqs false [.i, .i, .s] (.tmp 41) (.tmp 42), (some (40, true))⟩,
   ⟨(some 44), .pick (.tmp 40) (.tmp 43) (.const (.bool false)), none⟩,
   ⟨(some 45), .mov (.tmp 44), none⟩,
   ⟨(some 46), .mov (.tmp 5), (some (45, true))⟩,
   ⟨(some 47), .bin .eql (.tmp 46) (.const (.int .i64 1)), (some (45, true))⟩,
   ⟨(some 48), .pick (.tmp 45) (.tmp 47) (.const (.bool false)), none⟩,
   ⟨(some 49), .mov (.tmp 48), none⟩,
   ⟨(some 50), .mov (.tmp 6), (some (49, true))⟩,
   ⟨(some 51), .pick (.tmp 49) (.tmp 50) (.const (.bool false)), none⟩,
   ⟨(some 52), .mov (.tmp 51), none⟩,
   ⟨(some 53), .mov (.tmp 9), (some (52, true))⟩,
   ⟨(some 54), .un .not (.tmp 53), (some (52, true))⟩,
   ⟨(some 55), .pick (.tmp 52) (.tmp 54) (.const (.bool false)), none⟩,
   ⟨(some 56), .mov (.tmp 55), none⟩,
   ⟨(some 57), .call (.func 14) [(.tmp 10), (.const (.int .i64 2))] (.obj [(10, 1000000)] [] [(10000012, 10000057)] []), (some (56, true))⟩,
   ⟨(some 58), .bin .eql (.tmp 57) (.const (.string ⟨#[99]⟩)), (some (56, true))⟩,
   ⟨(some 59), .pick (.tmp 56) (.tmp 58) (.const (.bool false)), none⟩,
   ⟨(some 60), .mov (.tmp 59), none⟩,
   ⟨(some 61), .call (.func 15) [(.tmp 10), (.const (.string ⟨#[100]⟩))] (.obj [(10, 1000000), (10000057, 11000000)] [] [] []), (some (60, true))⟩,
   ⟨(some 62), .bin .eql (.tmp 61) (.const (.int .i64 3)), (some (60, true))⟩,
   ⟨(some 63), .pick (.tmp 60) (.tmp 62) (.const (.bool false)), none⟩,
   ⟨(some 64), .mov (.tmp 63), none⟩,
   ⟨(some 65), .call (.func 15) [(.tmp 10), (.const (.string ⟨#[101]⟩))] (.obj [(10, 1000000), (10000057, 11000000)] [] [] []), (some (64, true))⟩,
   ⟨(some 66), .bin .eql (.tmp 65) (.const (.int .i64 (-1))), (some (64, true))⟩,
   ⟨(some 67), .pick (.tmp 64) (.tmp 66) (.const (.bool false)), none⟩,
   ⟨(some 68), .mov (.tmp 67), none⟩,
   ⟨(some 69), .load (some 3) (.tmp 1), (some (68, true))⟩,
   ⟨(some 70), .call (.func 12) [(.tmp 69)] .pure, (some (68, true))⟩,
   ⟨(some 71), .pick (.tmp 68) (.tmp 70) (.const (.bool false)), none⟩,
   ⟨(some 72), .mov (.tmp 71), none⟩,
   ⟨(some 73), .load (some 3) (.tmp 4), (some (72, true))⟩,
   ⟨(some 74), .load (some 3) (.tmp 1), (some (72, true))⟩,
   ⟨(some 75), .call (.func 13) [(.tmp 73), (.tmp 74)] .pure, (some (72, true))⟩,
   ⟨(some 76), .bin .eql (.tmp 75) (.const (.int .i64 (-1))), (some (72, true))⟩,
   ⟨(some 77), .pick (.tmp 72) (.tmp 76) (.const (.bool false)), none⟩,
   ⟨(some 0), .mov (.tmp 77), none⟩]) (
 .ret)))))))))))
theorem r9f : Runs Tryd.prog 9 m9f.strip [.mov (.tmp 0)] 78 := ⟨by kernel_rfl, by kernel_rfl, Tryd.f9, Tryd.f9.body.getD .skip, Tryd.func9, by kernel_rfl, by kernel_rfl, by kernel_rfl, by kernel_rfl, by kernel_rfl⟩
def m14f : MC :=
 .seq (
  .reg [⟨(some 4), .mov (.const (.string ⟨#[]⟩)), none⟩]) (
 .trim [0, 1] [1000000, 10000012] [] (
 .seq (
  .seq (
   .reg [⟨(some 5), .mov (.tmp 1), none⟩,
    ⟨(some 6), .bin .lss (.tmp 5) (.const (.int .i64 0)), none⟩,
    ⟨(some 7), .mov (.tmp 6), none⟩,
    ⟨(some 8), .mov (.tmp 1), (some (7, false))⟩,
    ⟨(some 9), .bin .geq (.tmp 8) (.const (.int .i64 4)), (some (7, false))⟩,
    ⟨(some 10), .pick (.tmp 7) (.const (.bool true)) (.tmp 9), none⟩]) (
  .trim [0, 1, 10] [1000000, 10000012] [] (
  .cond (.tmp 10) (
   .seq (
    .reg [⟨(some 4), .mov (.const (.string ⟨#[]⟩)), none⟩]) (
   .ret)) (
   .skip)))) (
 .trim [0, 1] [1000000, 10000012] [] (
 .seq (
  .reg [⟨(some 11), .mov (.tmp 0), none⟩,
   ⟨(some 12), .call (.func 31) [(.tmp 11)] (.obj [(1000000, 1000000)] [] [(10000012, 10000012)] []), none⟩,
   ⟨(some 13), .mov (.tmp 1), none⟩,
   ⟨(some 14), .nilck (.tmp 12), none⟩,
   ⟨(some 15), .faddr 3 (.tmp 14), none⟩,
   ⟨(some 16), .iaddrA 4 1 (.tmp 15) (.tmp 13), none⟩,
   ⟨(some 17), .load none (.tmp 16), none⟩,
   ⟨(some 4), .mov (.tmp 17), none⟩]) (
 .ret)))))
theorem r14f : Runs Tryd.prog 14 m14f.strip [.mov (.tmp 4)] 18 := ⟨by kernel_rfl, by kernel_rfl, Tryd.f14, Tryd.f14.body.getD .skip, Tryd.func14, by kernel_rfl, by kernel_rfl, by kernel_rfl, by kernel_rfl, by kernel_rfl⟩
def m31f : MC :=
 .seq (
  .reg [⟨(some 2), .mov (.const (.pointer none)), none⟩]) (
 .trim [0] [6, 1000000, 10000012] [] (
 .seq (
  .seq (
   .reg [⟨(some 3), .mov (.tmp 0), none⟩,
    ⟨(some 4), .binP false (.tmp 3) (.const (.pointer none)), none⟩]) (
  .trim [0, 4] [6, 1000000, 10000012] [] (
  .cond (.tmp 4) (
   .reg [⟨(some 5), .build [(.val (.int .u32 0)), (.val (.int .i32 0)), (.val (.int .u32 0)), (.val (.string ⟨#[]⟩)), (.val (.string ⟨#[]⟩)), (.val (.string ⟨#[]⟩)), (.val (.string ⟨#[]⟩)), (.val (.map none))] [], none⟩,
    ⟨(some 6), .box 47 8 (.tmp 5), none⟩,
    ⟨(some 0), .mov (.tmp 6), none⟩]) (
   .skip)))) (
 .trim [0] [6, 1000000, 10000012] [] (
 .seq (
  .reg [⟨(some 7), .mov (.tmp 0), none⟩,
   ⟨(some 8), .nilck (.tmp 7), none⟩,
   ⟨(some 9), .faddr 0 (.tmp 8), none⟩,
   ⟨(some 10), .mov (.tmp 0), none⟩,
   ⟨(some 11), .mkfn 48 [(.tmp 10)] [], none⟩,
   ⟨(some 12), .call (.func 47) [(.tmp 9), (.tmp 11)] (.obj [(1000000, 1000000)] [] [(10000004, 10000012)] []), none⟩]) (
 .trim [0] [6, 1000000, 10000012] [] (
 .seq (
  .reg [⟨(some 13), .mov (.tmp 0), none⟩,
   ⟨(some 2), .mov (.tmp 13), none⟩]) (
 .ret)))))))
theorem r31f : Runs Tryd.prog 31 m31f.strip [.mov (.tmp 2)] 14 := ⟨by kernel_rfl, by kernel_rfl, Tryd.f31, Tryd.f31.body.getD .skip, Tryd.func31, by kernel_rfl, by kernel_rfl, by kernel_rfl, by kernel_rfl, by kernel_rfl⟩
def m48f : MC :=
 .seq (
  .reg [⟨(some 3), .mov (.tmp 0), none⟩,
   ⟨(some 4), .xop .mkmap, none⟩,
   ⟨(some 5), .nilck (.tmp 3), none⟩,
   ⟨(some 6), .faddr 7 (.tmp 5), none⟩,
   ⟨none, .store 1 (.tmp 6) (.tmp 4), none⟩]) (
 .trim [0] [1000000, 10000004] [] (
 .seq (
  .reg [⟨(some 7), .mov (.const (.int .i64 0)), none⟩]) (
 .trim [0, 7] [1000000, 10000004] [] (
 .block 0 (
  .loop (
   .trim [0, 7] [1000000, 10000004] [] (
   .seq (
    .reg [⟨(some 8), .bin .lss (.tmp 7) (.const (.int .i64 4)), none⟩]) (
   .trim [0, 7, 8] [1000000, 10000004] [] (
   .seq (
    .cond (.tmp 8) (
     .skip) (
     .exit 0)) (
   .trim [0, 7] [1000000, 10000004] [] (
   .seq (
    .block 1 (
     .seq (
      .reg [⟨(some 9), .mov (.tmp 7), none⟩,
       ⟨(some 2), .mov (.tmp 9), none⟩]) (
     .trim [0, 2, 7] [1000000, 10000004] [] (
     .seq (
      .dreg 10 [⟨(some 10), .mov (.tmp 0), none⟩,
       ⟨(some 11), .mov (.tmp 2), none⟩,
       ⟨(some 12), .mov (.tmp 2), none⟩,
       ⟨(some 13), .bin .add (.const (.int .i64 97)) (.tmp 12), none⟩,
       ⟨(some 14), .conv .u8 (.tmp 13), none⟩,
       ⟨(some 15), .bslice 5 1 [(.val (.int .u8 0))] 1 [(0, 1, (.tmp 14))], none⟩,
       ⟨(some 16), .b2s (.tmp 15), none⟩,
       ⟨(some 17), .nilck (.tmp 10), none⟩,
       ⟨(some 18), .faddr 3 (.tmp 17), none⟩,
       ⟨(some 19), .iaddrA 4 1 (.tmp 18) (.tmp 11), none⟩,
       ⟨none, .store 1 (.tmp 19) (.tmp 16), none⟩]) (
     .trim [0, 2, 7] [1000000, 10000004] [] (
     .dreg 11 [⟨(some 20), .mov (.tmp 0), none⟩,
      ⟨(some 21), .nilck (.tmp 20), none⟩,
      ⟨(some 22), .faddr 7 (.tmp 21), none⟩,
      ⟨(some 23), .load none (.tmp 22), none⟩,
      ⟨(some 24), .mov (.tmp 0), none⟩,
      ⟨(some 25), .mov (.tmp 2), none⟩,
      ⟨(some 26), .nilck (.tmp 24), none⟩,
      ⟨(some 27), .faddr 3 (.tmp 26), none⟩,
      ⟨(some 28), .iaddrA 4 1 (.tmp 27) (.tmp 25), none⟩,
      ⟨(some 29), .load none (.tmp 28), none⟩,
      ⟨(some 30), .mov (.tmp 2), none⟩,
      ⟨none, .xop (.mput [.s] (.tmp 23) (.tmp 29) (.tmp 30)), none⟩])))))) (
   .trim [0, 7] [1000000, 10000004] [] (
   .reg [⟨(some 31), .bin .add (.tmp 7) (.const (.int .i64 1)), none⟩,
    ⟨(some 7), .mov (.tmp 31), none⟩])))))))))))))
theorem r48f : Runs Tryd.prog 48 m48f.strip [] 32 := ⟨by kernel_rfl, by kernel_rfl, Tryd.f48, Tryd.f48.body.getD .skip, Tryd.func48, by kernel_rfl, by kernel_rfl, by kernel_rfl, by kernel_rfl, by kernel_rfl⟩
end Go.Proofs
