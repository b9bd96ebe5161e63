/- The functions, as code of the value machine (printed by program). -/
import Derived.Test.YtdfpmolkpkpboaaDoorVh6
import Derived.Test.YtdfpmolkpkpboaaDoorProg
set_option linter.unusedVariables false
set_option maxRecDepth 2000
namespace Go.Proofs
open Go.Vm
def m3 : MC :=
 .seq (
  .reg [⟨(some 2), .mov (.const (.bool false)), none⟩]) (
 .trim [0] [] [] (
 .seq (
  .seq (
   .reg [⟨(some 9), .call (.func 9) [] .pure, none⟩,
    ⟨(some 10), .un .not (.tmp 9), none⟩,
    ⟨(some 11), .mov (.tmp 10), none⟩,
    ⟨(some 12), .mov (.tmp 0), (some (11, false))⟩,
    ⟨(some 13), .lenS (.tmp 12), (some (11, false))⟩,
    ⟨(some 14), .bin .gtr (.tmp 13) (.const (.int .i64 300)), (some (11, false))⟩,
    ⟨(some 15), .pick (.tmp 11) (.const (.bool true)) (.tmp 14), none⟩]) (
  .trim [0, 15] [] [] (
  .cond (.tmp 15) (
   .seq (
    .reg [⟨(some 16), .call (.func 9) [] .pure, none⟩,
     ⟨(some 2), .mov (.tmp 16), none⟩]) (
   .ret)) (
   .skip)))) (
 .trim [0] [] [] (
 .seq (
  .reg [⟨(some 18), .mov (.tmp 0), none⟩,
   ⟨(some 19), .call (.func 10) [(.tmp 18)] .pure, none⟩,
   ⟨(some 17), .mov (.tmp 19), none⟩,
   ⟨(some 20), .ext (.tmp 17) 0, none⟩,
   ⟨(some 21), .ext (.tmp 17) 1, none⟩,
   ⟨(some 22), .ext (.tmp 17) 2, none⟩,
   ⟨(some 3), .alloc 24 [(.val (.int .i64 0)), (.val (.int .i64 0)), (.val (.string ⟨#[]⟩))], none⟩,
   ⟨none, .store 3 (.tmp 3) (.tmp 20), none⟩,
   ⟨(some 4), .mov (.tmp 21), none⟩,
   ⟨(some 5), .mov (.tmp 22), none⟩]) (
 .trim [0, 3, 4, 5] [3] [] (
 .seq (
  .reg [⟨(some 24), .mov (.tmp 0), none⟩,
   ⟨(some 25), .call (.func 11) [(.tmp 24)] .pure, none⟩,
   ⟨(some 23), .mov (.tmp 25), none⟩,
   ⟨(some 26), .ext (.tmp 23) 0, none⟩,
   ⟨(some 27), .ext (.tmp 23) 1, none⟩,
   ⟨(some 28), .ext (.tmp 23) 2, none⟩,
   ⟨(some 6), .alloc 24 [(.val (.int .i64 0)), (.val (.int .i64 0)), (.val (.string ⟨#[]⟩))], none⟩,
   ⟨none, .store 3 (.tmp 6) (.tmp 26), none⟩,
   ⟨(some 7), .mov (.tmp 27), none⟩,
   ⟨(some 8), .mov (.tmp 28), none⟩]) (
 .trim [3, 4, 5, 6, 7, 8] [3, 6] [] (
 .seq (
  .reg [⟨(some 29), .load (some 3) (.tmp 3), none⟩,
   ⟨(some 30), .load (some 3) (.tmp 6), none⟩,
   ⟨(some 31), .eqs false [.i, .i, .s] (.tmp 29) (.tmp 30), none⟩,
   ⟨(some 32), .mov (.tmp 31), none⟩,
   ⟨(some 33), .mov (.tmp 4), (some (32, true))⟩,
   ⟨(some 34), .mov (.tmp 7), (some (32, true))⟩,
   ⟨(some 35), .bin .eql (.tmp 33) (.tmp 34), (some (32, true))⟩,
   ⟨(some 36), .pick (.tmp 32) (.tmp 35) (.const (.bool false)), none⟩,
   ⟨(some 37), .mov (.tmp 36), none⟩,
   ⟨(some 38), .mov (.tmp 5), (some (37, true))⟩,
   ⟨(some 39), .mov (.tmp 8), (some (37, true))⟩,
   ⟨(some 40), .binB false (.tmp 38) (.tmp 39), (some (37, true))⟩,
   ⟨(some 41), .pick (.tmp 37) (.tmp 40) (.const (.bool false)), none⟩,
   ⟨(some 2), .mov (.tmp 41), none⟩]) (
 .ret)))))))))
theorem r3 : Runs Tryd.prog 3 m3.strip [.mov (.tmp 2)] 42 := ⟨by kernel_rfl, by kernel_rfl, Tryd.f3, Tryd.f3.body.getD .skip, Tryd.func3, by kernel_rfl, by kernel_rfl, by kernel_rfl, by kernel_rfl, by kernel_rfl⟩
def m4 : MC :=
 .seq (
  .reg [⟨(some 3), .box 24 3 (.tmp 0), none⟩,
   ⟨(some 4), .box 24 3 (.tmp 1), none⟩,
   ⟨(some 5), .box 24 3 (.tmp 2), none⟩,
   ⟨(some 6), .mov (.const (.bool false)), none⟩]) (
 .trim [3, 4, 5] [3, 4, 5] [] (
 .seq (
  .seq (
   .reg [⟨(some 7), .call (.func 9) [] .pure, none⟩,
    ⟨(some 8), .un .not (.tmp 7), none⟩,
    ⟨(some 9), .mov (.tmp 8), none⟩,
    ⟨(some 10), .load (some 3) (.tmp 3), (some (9, false))⟩,
    ⟨(some 11), .call (.func 12) [(.tmp 10)] .pure, (some (9, false))⟩,
    ⟨(some 12), .un .not (.tmp 11), (some (9, false))⟩,
    ⟨(some 13), .pick (.tmp 9) (.const (.bool true)) (.tmp 12), none⟩,
    ⟨(some 14), .mov (.tmp 13), none⟩,
    ⟨(some 15), .load (some 3) (.tmp 4), (some (14, false))⟩,
    ⟨(some 16), .call (.func 12) [(.tmp 15)] .pure, (some (14, false))⟩,
    ⟨(some 17), .un .not (.tmp 16), (some (14, false))⟩,
    ⟨(some 18), .pick (.tmp 14) (.const (.bool true)) (.tmp 17), none⟩,
    ⟨(some 19), .mov (.tmp 18), none⟩,
    ⟨(some 20), .load (some 3) (.tmp 5), (some (19, false))⟩,
    ⟨(some 21), .call (.func 12) [(.tmp 20)] .pure, (some (19, false))⟩,
    ⟨(some 22), .un .not (.tmp 21), (some (19, false))⟩,
    ⟨(some 23), .pick (.tmp 19) (.const (.bool true)) (.tmp 22), none⟩]) (
  .trim [3, 4, 5, 23] [3, 4, 5] [] (
  .cond (.tmp 23) (
   .seq (
    .reg [⟨(some 24), .call (.func 9) [] .pure, none⟩,
     ⟨(some 6), .mov (.tmp 24), none⟩]) (
   .ret)) (
   .skip)))) (
 .trim [3, 4, 5] [3, 4, 5] [] (
 .seq (
  .dreg 37 [⟨(some 25), .load (some 3) (.tmp 3), none⟩,
   ⟨(some 26), .load (some 3) (.tmp 4), none⟩,
   ⟨(some 27), .call (.func 13) [(.tmp 25), (.tmp 26)] .pure, none⟩,
   ⟨(some 28), .load (some 3) (.tmp 4), none⟩,
   ⟨(some 29), .load (some 3) (.tmp 3), none⟩,
   ⟨(some 30), .call (.func 13) [(.tmp 28), (.tmp 29)] .pure, none⟩,
   ⟨(some 31), .un .neg (.tmp 30), none⟩,
   ⟨(some 32), .bin .eql (.tmp 27) (.tmp 31), none⟩,
   ⟨(some 33), .mov (.tmp 32), none⟩,
   ⟨(some 34), .load (some 3) (.tmp 3), (some (33, true))⟩,
   ⟨(some 35), .load (some 3) (.tmp 4), (some (33, true))⟩,
   ⟨(some 36), .call (.func 13) [(.tmp 34), (.tmp 35)] .pure, (some (33, true))⟩,
   ⟨(some 37), .bin .eql (.tmp 36) (.const (.int .i64 0)), (some (33, true))⟩,
   ⟨(some 38), .load (some 3) (.tmp 3), (some (33, true))⟩,
   ⟨(some 39), .load (some 3) (.tmp 4), (some (33, true))⟩,
   ⟨(some 40), .eqs false [.i, .i, .s] (.tmp 38) (.tmp 39), (some (33, true))⟩,
   ⟨(some 41), .binB false (.tmp 37) (.tmp 40), (some (33, true))⟩,
   ⟨(some 42), .pick (.tmp 33) (.tmp 41) (.const (.bool false)), none⟩,
   ⟨(some 43), .mov (.tmp 42), none⟩,
   ⟨(some 44), .load (some 3) (.tmp 3), (some (43, true))⟩,
   ⟨(some 45), .load (some 3) (.tmp 4), (some (43, true))⟩,
   ⟨(some 46), .call (.func 13) [(.tmp 44), (.tmp 45)] .pure, (some (43, true))⟩,
   ⟨(some 47), .bin .gtr (.tmp 46) (.const (.int .i64 0)), (some (43, true))⟩,
   ⟨(some 48), .mov (.tmp 47), (some (43, true))⟩,
   ⟨(some 49), .load (some 3) (.tmp 4), (some (48, false))⟩,
   ⟨(some 50), .load (some 3) (.tmp 5), (some (48, false))⟩,
   ⟨(some 51), .call (.func 13) [(.tmp 49), (.tmp 50)] .pure, (some (48, false))⟩,
   ⟨(some 52), .bin .gtr (.tmp 51) (.const (.int .i64 0)), (some (48, false))⟩,
   ⟨(some 53), .pick (.tmp 48) (.const (.bool true)) (.tmp 52), (some (43, true))⟩,
   ⟨(some 54), .mov (.tmp 53), (some (43, true))⟩,
   ⟨(some 55), .load (some 3) (.tmp 3), (some (54, false))⟩,
   ⟨(some 56), .load (some 3) (.tmp 5), (some (54, false))⟩,
   ⟨(some 57), .call (.func 13) [(.tmp 55), (.tmp 56)] .pure, (some (54, false))⟩,
   ⟨(some 58), .bin .leq (.tmp 57) (.const (.int .i64 0)), (some (54, false))⟩,
   ⟨(some 59), .pick (.tmp 54) (.const (.bool true)) (.tmp 58), (some (43, true))⟩,
   ⟨(some 60), .pick (.tmp 43) (.tmp 59) (.const (.bool false)), none⟩,
   ⟨(some 6), .mov (.tmp 60), none⟩]) (
 .ret)))))
theorem r4 : Runs Tryd.prog 4 m4.strip [.mov (.tmp 6)] 61 := ⟨by kernel_rfl, by kernel_rfl, Tryd.f4, Tryd.f4.body.getD .skip, Tryd.func4, by kernel_rfl, by kernel_rfl, by kernel_rfl, by kernel_rfl, by kernel_rfl⟩
def m6 : MC :=
 .seq (
  .reg [⟨(some 4), .mov (.const (.bool false)), none⟩]) (
 .trim [0, 1] [] [] (
 .seq (
  .seq (
   .reg [⟨(some 8), .call (.func 9) [] .pure, none⟩,
    ⟨(some 9), .un .not (.tmp 8), none⟩,
    ⟨(some 10), .mov (.tmp 9), none⟩,
    ⟨(some 11), .mov (.tmp 0), (some (10, false))⟩,
    ⟨(some 12), .lenS (.tmp 11), (some (10, false))⟩,
    ⟨(some 13), .bin .gtr (.tmp 12) (.const (.int .i64 200)), (some (10, false))⟩,
    ⟨(some 14), .pick (.tmp 10) (.const (.bool true)) (.tmp 13), none⟩,
    ⟨(some 15), .mov (.tmp 14), none⟩,
    ⟨(some 16), .mov (.tmp 1), (some (15, false))⟩,
    ⟨(some 17), .lenS (.tmp 16), (some (15, false))⟩,
    ⟨(some 18), .bin .gtr (.tmp 17) (.const (.int .i64 200)), (some (15, false))⟩,
    ⟨(some 19), .pick (.tmp 15) (.const (.bool true)) (.tmp 18), none⟩]) (
  .trim [0, 1, 19] [] [] (
  .cond (.tmp 19) (
   .seq (
    .reg [⟨(some 20), .call (.func 9) [] .pure, none⟩,
     ⟨(some 4), .mov (.tmp 20), none⟩]) (
   .ret)) (
   .skip)))) (
 .trim [0, 1] [] [] (
 .seq (
  .reg [⟨(some 21), .mov (.tmp 0), none⟩,
   ⟨(some 22), .call (.func 16) [(.tmp 21)] .pure, none⟩,
   ⟨(some 23), .mov (.tmp 1), none⟩,
   ⟨(some 24), .call (.func 16) [(.tmp 23)] .pure, none⟩,
   ⟨(some 5), .mov (.tmp 22), none⟩,
   ⟨(some 6), .mov (.tmp 24), none⟩]) (
 .trim [0, 1, 5, 6] [] [] (
 .seq (
  .seq (
   .reg [⟨(some 25), .mov (.tmp 5), none⟩,
    ⟨(some 26), .lenS (.tmp 25), none⟩,
    ⟨(some 27), .mov (.const (.int .i64 0)), none⟩]) (
  .trim [0, 1, 5, 6, 26, 27] [] [] (
  .block 0 (
   .loop (
    .trim [0, 1, 5, 6, 26, 27] [] [] (
    .seq (
     .reg [⟨(some 28), .bin .lss (.tmp 27) (.tmp 26), none⟩]) (
    .trim [0, 1, 5, 6, 26, 27, 28] [] [] (
    .seq (
     .cond (.tmp 28) (
      .skip) (
      .exit 0)) (
    .trim [0, 1, 5, 6, 26, 27] [] [] (
    .seq (
     .block 1 (
      .seq (
       .reg [⟨(some 29), .mov (.tmp 27), none⟩,
        ⟨(some 7), .mov (.tmp 29), none⟩]) (
      .trim [0, 1, 5, 6, 7, 26, 27] [] [] (
      .seq (
       .reg [⟨(some 30), .mov (.tmp 5), none⟩,
        ⟨(some 31), .mov (.tmp 7), none⟩,
        ⟨(some 32), .idxS (.tmp 30) (.tmp 31), none⟩,
        ⟨(some 33), .bin .lss (.tmp 32) (.const (.int .u8 32)), none⟩,
        ⟨(some 34), .mov (.tmp 33), none⟩,
        ⟨(some 35), .mov (.tmp 5), (some (34, false))⟩,
        ⟨(some 36), .mov (.tmp 7), (some (34, false))⟩,
        ⟨(some 37), .idxS (.tmp 35) (.tmp 36), (some (34, false))⟩,
        ⟨(some 38), .bin .gtr (.tmp 37) (.const (.int .u8 126)), (some (34, false))⟩,
        ⟨(some 39), .pick (.tmp 34) (.const (.bool true)) (.tmp 38), none⟩,
        ⟨(some 40), .mov (.tmp 39), none⟩,
        ⟨(some 41), .mov (.tmp 5), (some (40, false))⟩,
        ⟨(some 42), .mov (.tmp 7), (some (40, false))⟩,
        ⟨(some 43), .idxS (.tmp 41) (.tmp 42), (some (40, false))⟩,
        ⟨(some 44), .bin .eql (.tmp 43) (.const (.int .u8 39)), (some (40, false))⟩,
        ⟨(some 45), .mov (.tmp 7), (some (40, false))⟩,
        ⟨(some 46), .bin .eql (.tmp 45) (.const (.int .i64 0)), (some (40, false))⟩,
        ⟨(some 47), .mov (.tmp 46), (some (40, false))⟩,
        ⟨(some 48), .mov (.tmp 7), (some (47, false))⟩,
        ⟨(some 49), .mov (.tmp 5), (some (47, false))⟩,
        ⟨(some 50), .lenS (.tmp 49), (some (47, false))⟩,
        ⟨(some 51), .bin .sub (.tmp 50) (.const (.int .i64 1)), (some (47, false))⟩,
        ⟨(some 52), .bin .eql (.tmp 48) (.tmp 51), (some (47, false))⟩,
        ⟨(some 53), .pick (.tmp 47) (.const (.bool true)) (.tmp 52), (some (40, false))⟩,
        ⟨(some 54), .binB true (.tmp 44) (.tmp 53), (some (40, false))⟩,
        ⟨(some 55), .pick (.tmp 40) (.const (.bool true)) (.tmp 54), none⟩]) (
      .trim [0, 1, 5, 6, 26, 27, 55] [] [] (
      .cond (.tmp 55) (
       .seq (
        .reg [⟨(some 4), .mov (.const (.bool false)), none⟩]) (
       .ret)) (
       .skip))))))) (
    .trim [0, 1, 5, 6, 26, 27] [] [] (
    .reg [⟨(some 56), .bin .add (.tmp 27) (.const (.int .i64 1)), none⟩,
     ⟨(some 27), .mov (.tmp 56), none⟩])))))))))))) (
 .trim [0, 1, 5, 6] [] [] (
 .seq (
  .reg [⟨(some 57), .mov (.tmp 5), none⟩,
   ⟨(some 58), .mov (.tmp 6), none⟩,
   ⟨(some 59), .bin .eql (.tmp 57) (.tmp 58), none⟩,
   ⟨(some 60), .mov (.tmp 0), none⟩,
   ⟨(some 61), .mov (.tmp 1), none⟩,
   ⟨(some 62), .bin .eql (.tmp 60) (.tmp 61), none⟩,
   ⟨(some 63), .binB false (.tmp 59) (.tmp 62), none⟩,
   ⟨(some 64), .mov (.tmp 63), none⟩,
   ⟨(some 65), .mov (.tmp 5), (some (64, true))⟩,
   ⟨(some 66), .lenS (.tmp 65), (some (64, true))⟩,
   ⟨(some 67), .mov (.tmp 0), (some (64, true))⟩,
   ⟨(some 68), .lenS (.tmp 67), (some (64, true))⟩,
   ⟨(some 69), .bin .add (.tmp 68) (.const (.int .i64 2)), (some (64, true))⟩,
   ⟨(some 70), .bin .geq (.tmp 66) (.tmp 69), (some (64, true))⟩,
   ⟨(some 71), .pick (.tmp 64) (.tmp 70) (.const (.bool false)), none⟩,
   ⟨(some 72), .mov (.tmp 71), none⟩,
   ⟨(some 73), .mov (.tmp 5), (some (72, true))⟩,
   ⟨(some 74), .lenS (.tmp 73), (some (72, true))⟩,
   ⟨(some 75), .mov (.tmp 0), (some (72, true))⟩,
   ⟨(some 76), .lenS (.tmp 75), (some (72, true))⟩,
   ⟨(some 77), .bin .mul (.const (.int .i64 3)) (.tmp 76), (some (72, true))⟩,
   ⟨(some 78), .bin .add (.tmp 77) (.const (.int .i64 2)), (some (72, true))⟩,
   ⟨(some 79), .bin .leq (.tmp 74) (.tmp 78), (some (72, true))⟩,
   ⟨(some 80), .pick (.tmp 72) (.tmp 79) (.const (.bool false)), none⟩,
   ⟨(some 4), .mov (.tmp 80), none⟩]) (
 .ret)))))))))
def m10 : MC :=
 .seq (
  .reg [⟨(some 2), .alloc 24 [(.val (.int .i64 0)), (.val (.int .i64 0)), (.val (.string ⟨#[]⟩))], none⟩,
   ⟨(some 3), .mov (.const (.int .i64 0)), none⟩,
   ⟨(some 4), .mov (.const (.bool false)), none⟩]) (
 .trim [0, 2] [2] [] (
 .seq (
  .seq (
   .reg [⟨(some 13), .mov (.tmp 0), none⟩,
    ⟨(some 14), .call (.func 24) [(.tmp 13), (.const (.string ⟨#[39]⟩))] .pure, none⟩]) (
  .trim [0, 2, 14] [2] [] (
  .cond (.tmp 14) (
   .seq (
    .reg [⟨(some 16), .mov (.tmp 0), none⟩,
     ⟨(some 17), .call (.func 25) [(.tmp 16)] .pure, none⟩,
     ⟨(some 15), .mov (.tmp 17), none⟩,
     ⟨(some 18), .ext (.tmp 15) 0, none⟩,
     ⟨(some 19), .ext (.tmp 15) 1, none⟩,
     ⟨(some 20), .ext (.tmp 15) 2, none⟩,
     ⟨(some 5), .mov (.tmp 18), none⟩,
     ⟨(some 6), .mov (.tmp 19), none⟩,
     ⟨(some 7), .mov (.tmp 20), none⟩]) (
   .trim [2, 5, 6, 7] [2] [] (
   .seq (
    .seq (
     .reg [⟨(some 21), .mov (.tmp 7), none⟩,
      ⟨(some 22), .un .not (.tmp 21), none⟩]) (
    .trim [2, 5, 6, 22] [2] [] (
    .cond (.tmp 22) (
     .seq (
      .reg [⟨(some 23), .load (some 3) (.tmp 2), none⟩,
       ⟨none, .store 3 (.tmp 2) (.tmp 23), none⟩,
       ⟨(some 3), .mov (.const (.int .i64 0)), none⟩,
       ⟨(some 4), .mov (.const (.bool false)), none⟩]) (
     .ret)) (
     .skip)))) (
   .trim [2, 5, 6] [2] [] (
   .seq (
    .reg [⟨(some 24), .mov (.tmp 5), none⟩,
     ⟨(some 25), .build [(.val (.int .i64 0)), (.val (.int .i64 0)), (.val (.string ⟨#[]⟩))] [(0, 1, (.const (.int .i64 2))), (2, 1, (.tmp 24))], none⟩,
     ⟨(some 26), .mov (.tmp 6), none⟩,
     ⟨none, .store 3 (.tmp 2) (.tmp 25), none⟩,
     ⟨(some 3), .mov (.tmp 26), none⟩,
     ⟨(some 4), .mov (.const (.bool true)), none⟩]) (
   .ret)))))) (
   .skip)))) (
 .trim [0, 2] [2] [] (
 .seq (
  .reg [⟨(some 27), .mov (.tmp 0), none⟩,
   ⟨(some 28), .call (.func 26) [(.tmp 27), (.const (.string ⟨#[45]⟩))] .pure, none⟩,
   ⟨(some 8), .mov (.tmp 28), none⟩]) (
 .trim [0, 2, 8] [2] [] (
 .seq (
  .reg [⟨(some 29), .mov (.tmp 0), none⟩,
   ⟨(some 30), .lenS (.tmp 29), none⟩,
   ⟨(some 31), .mov (.tmp 8), none⟩,
   ⟨(some 32), .lenS (.tmp 31), none⟩,
   ⟨(some 33), .bin .sub (.tmp 30) (.tmp 32), none⟩,
   ⟨(some 9), .mov (.tmp 33), none⟩]) (
 .trim [0, 2, 8, 9] [2] [] (
 .seq (
  .reg [⟨(some 10), .mov (.const (.int .i64 0)), none⟩]) (
 .trim [0, 2, 8, 9, 10] [2] [] (
 .seq (
  .block 0 (
   .loop (
    .trim [0, 2, 8, 9, 10] [2] [] (
    .seq (
     .seq (
      .reg [⟨(some 34), .mov (.tmp 10), none⟩,
       ⟨(some 35), .mov (.tmp 8), none⟩,
       ⟨(some 36), .lenS (.tmp 35), none⟩,
       ⟨(some 37), .bin .lss (.tmp 34) (.tmp 36), none⟩,
       ⟨(some 38), .mov (.tmp 37), none⟩,
       ⟨(some 39), .mov (.tmp 8), (some (38, true))⟩,
       ⟨(some 40), .mov (.tmp 10), (some (38, true))⟩,
       ⟨(some 41), .idxS (.tmp 39) (.tmp 40), (some (38, true))⟩,
       ⟨(some 42), .bin .geq (.tmp 41) (.const (.int .u8 48)), (some (38, true))⟩,
       ⟨(some 43), .pick (.tmp 38) (.tmp 42) (.const (.bool false)), none⟩,
       ⟨(some 44), .mov (.tmp 43), none⟩,
       ⟨(some 45), .mov (.tmp 8), (some (44, true))⟩,
       ⟨(some 46), .mov (.tmp 10), (some (44, true))⟩,
       ⟨(some 47), .idxS (.tmp 45) (.tmp 46), (some (44, true))⟩,
       ⟨(some 48), .bin .leq (.tmp 47) (.const (.int .u8 57)), (some (44, true))⟩,
       ⟨(some 49), .pick (.tmp 44) (.tmp 48) (.const (.bool false)), none⟩]) (
     .trim [0, 2, 8, 9, 10, 49] [2] [] (
     .cond (.tmp 49) (
      .skip) (
      .exit 0)))) (
    .trim [0, 2, 8, 9, 10] [2] [] (
    .block 1 (
     .reg [⟨(some 50), .mov (.tmp 10), none⟩,
      ⟨(some 51), .bin .add (.tmp 50) (.const (.int .i64 1)), none⟩,
      ⟨(some 10), .mov (.tmp 51), none⟩]))))))) (
 .trim [0, 2, 8, 9, 10] [2] [] (
 .seq (
  .seq (
   .reg [⟨(some 52), .mov (.tmp 10), none⟩,
    ⟨(some 53), .bin .eql (.tmp 52) (.const (.int .i64 0)), none⟩]) (
  .trim [0, 2, 8, 9, 10, 53] [2] [] (
  .cond (.tmp 53) (
   .seq (
    .reg [⟨(some 54), .load (some 3) (.tmp 2), none⟩,
     ⟨(some 55), .mov (.tmp 9), none⟩,
     ⟨(some 56), .mov (.tmp 9), none⟩,
     ⟨(some 57), .bin .gtr (.tmp 56) (.const (.int .i64 0)), none⟩,
     ⟨none, .store 3 (.tmp 2) (.tmp 54), none⟩,
     ⟨(some 3), .mov (.tmp 55), none⟩,
     ⟨(some 4), .mov (.tmp 57), none⟩]) (
   .ret)) (
   .skip)))) (
 .trim [0, 2, 8, 9, 10] [2] [] (
 .seq (
  .seq (
   .reg [⟨(some 58), .mov (.tmp 8), none⟩,
    ⟨(some 59), .idxS (.tmp 58) (.const (.int .i64 0)), none⟩,
    ⟨(some 60), .bin .eql (.tmp 59) (.const (.int .u8 48)), none⟩,
    ⟨(some 61), .mov (.tmp 60), none⟩,
    ⟨(some 62), .mov (.tmp 10), (some (61, true))⟩,
    ⟨(some 63), .bin .gtr (.tmp 62) (.const (.int .i64 1)), (some (61, true))⟩,
    ⟨(some 64), .mov (.tmp 63), (some (61, true))⟩,
    ⟨(some 65), .mov (.tmp 9), (some (64, false))⟩,
    ⟨(some 66), .bin .gtr (.tmp 65) (.const (.int .i64 0)), (some (64, false))⟩,
    ⟨(some 67), .pick (.tmp 64) (.const (.bool true)) (.tmp 66), (some (61, true))⟩,
    ⟨(some 68), .pick (.tmp 61) (.tmp 67) (.const (.bool false)), none⟩]) (
  .trim [0, 2, 9, 10, 68] [2] [] (
  .cond (.tmp 68) (
   .seq (
    .reg [⟨(some 69), .load (some 3) (.tmp 2), none⟩,
     ⟨none, .store 3 (.tmp 2) (.tmp 69), none⟩,
     ⟨(some 3), .mov (.const (.int .i64 0)), none⟩,
     ⟨(some 4), .mov (.const (.bool false)), none⟩]) (
   .ret)) (
   .skip)))) (
 .trim [0, 2, 9, 10] [2] [] (
 .seq (
  .reg [⟨(some 71), .mov (.tmp 0), none⟩,
   ⟨(some 72), .mov (.tmp 9), none⟩,
   ⟨(some 73), .mov (.tmp 10), none⟩,
   ⟨(some 74), .bin .add (.tmp 72) (.tmp 73), none⟩,
   ⟨(some 75), .slcS (.tmp 71) none (some (.tmp 74)), none⟩,
   ⟨(some 76), .call (.func 27) [(.tmp 75)] .pure, none⟩,
   ⟨(some 70), .mov (.tmp 76), none⟩,
   ⟨(some 77), .ext (.tmp 70) 0, none⟩,
   ⟨(some 78), .ext (.tmp 70) 1, none⟩,
   ⟨(some 11), .mov (.tmp 77), none⟩,
   ⟨(some 12), .mov (.tmp 78), none⟩]) (
 .trim [2, 9, 10, 11, 12] [2] [] (
 .seq (
  .seq (
   .reg [⟨(some 79), .mov (.tmp 12), none⟩,
    ⟨(some 80), .xop (.isnilI true (.tmp 79)), none⟩]) (
  .trim [2, 9, 10, 11, 80] [2] [] (
  .cond (.tmp 80) (
   .seq (
    .reg [⟨(some 81), .load (some 3) (.tmp 2), none⟩,
     ⟨none, .store 3 (.tmp 2) (.tmp 81), none⟩,
     ⟨(some 3), .mov (.const (.int .i64 0)), none⟩,
     ⟨(some 4), .mov (.const (.bool false)), none⟩]) (
   .ret)) (
   .skip)))) (
 .trim [2, 9, 10, 11] [2] [] (
 .seq (
  .reg [⟨(some 82), .mov (.tmp 11), none⟩,
   ⟨(some 83), .build [(.val (.int .i64 0)), (.val (.int .i64 0)), (.val (.string ⟨#[]⟩))] [(0, 1, (.const (.int .i64 1))), (1, 1, (.tmp 82))], none⟩,
   ⟨(some 84), .mov (.tmp 9), none⟩,
   ⟨(some 85), .mov (.tmp 10), none⟩,
   ⟨(some 86), .bin .add (.tmp 84) (.tmp 85), none⟩,
   ⟨none, .store 3 (.tmp 2) (.tmp 83), none⟩,
   ⟨(some 3), .mov (.tmp 86), none⟩,
   ⟨(some 4), .mov (.const (.bool true)), none⟩]) (
 .ret)))))))))))))))))))))
theorem r10 : Runs Tryd.prog 10 m10.strip [.load (some 3) (.tmp 2), .mov (.tmp 3), .mov (.tmp 4)] 87 := ⟨by kernel_rfl, by kernel_rfl, Tryd.f10, Tryd.f10.body.getD .skip, Tryd.func10, by kernel_rfl, by kernel_rfl, by kernel_rfl, by kernel_rfl, by kernel_rfl⟩
def m12 : MC :=
 .seq (
  .reg [⟨(some 1), .box 24 3 (.tmp 0), none⟩,
   ⟨(some 2), .mov (.const (.bool false)), none⟩]) (
 .trim [1] [1] [] (
 .seq (
  .seq (
   .reg [⟨(some 3), .faddr 0 (.tmp 1), none⟩,
    ⟨(some 4), .load none (.tmp 3), none⟩]) (
  .trim [1, 4] [1] [] (
  .block 0 (
   .seq (
    .reg [⟨(some 6), .bin .eql (.tmp 4) (.const (.int .i64 0)), none⟩,
     ⟨(some 5), .mov (.tmp 6), none⟩]) (
   .trim [1, 4, 5] [1] [] (
   .cond (.tmp 5) (
    .seq (
     .reg [⟨(some 7), .load (some 3) (.tmp 1), none⟩,
      ⟨(some 8), .build [(.val (.int .i64 0)), (.val (.int .i64 0)), (.val (.string ⟨#[]⟩))] [], none⟩,
      ⟨(some 9), .eqs false [.i, .i, .s] (.tmp 7) (.tmp 8), none⟩,
      ⟨(some 2), .mov (.tmp 9), none⟩]) (
    .ret)) (
    .seq (
     .reg [⟨(some 11), .bin .eql (.tmp 4) (.const (.int .i64 1)), none⟩,
      ⟨(some 10), .mov (.tmp 11), none⟩]) (
    .trim [1, 4, 10] [1] [] (
    .cond (.tmp 10) (
     .seq (
      .reg [⟨(some 12), .faddr 2 (.tmp 1), none⟩,
       ⟨(some 13), .load none (.tmp 12), none⟩,
       ⟨(some 14), .bin .eql (.tmp 13) (.const (.string ⟨#[]⟩)), none⟩,
       ⟨(some 2), .mov (.tmp 14), none⟩]) (
     .ret)) (
     .seq (
      .reg [⟨(some 16), .bin .eql (.tmp 4) (.const (.int .i64 2)), none⟩,
       ⟨(some 15), .mov (.tmp 16), none⟩]) (
     .trim [1, 15] [1] [] (
     .cond (.tmp 15) (
      .seq (
       .reg [⟨(some 17), .faddr 1 (.tmp 1), none⟩,
        ⟨(some 18), .load none (.tmp 17), none⟩,
        ⟨(some 19), .bin .eql (.tmp 18) (.const (.int .i64 0)), none⟩,
        ⟨(some 20), .mov (.tmp 19), none⟩,
        ⟨(some 21), .faddr 2 (.tmp 1), (some (20, true))⟩,
        ⟨(some 22), .load none (.tmp 21), (some (20, true))⟩,
        ⟨(some 23), .lenS (.tmp 22), (some (20, true))⟩,
        ⟨(some 24), .bin .leq (.tmp 23) (.const (.int .i64 8)), (some (20, true))⟩,
        ⟨(some 25), .pick (.tmp 20) (.tmp 24) (.const (.bool false)), none⟩,
        ⟨(some 2), .mov (.tmp 25), none⟩]) (
      .ret)) (
      .skip))))))))))))) (
 .trim [] [] [] (
 .seq (
  .reg [⟨(some 2), .mov (.const (.bool false)), none⟩]) (
 .ret)))))
theorem r12 : Runs Tryd.prog 12 m12.strip [.mov (.tmp 2)] 26 := ⟨by kernel_rfl, by kernel_rfl, Tryd.f12, Tryd.f12.body.getD .skip, Tryd.func12, by kernel_rfl, by kernel_rfl, by kernel_rfl, by kernel_rfl, by kernel_rfl⟩
def m13 : MC :=
 .seq (
  .reg [⟨(some 2), .box 24 3 (.tmp 0), none⟩,
   ⟨(some 3), .box 24 3 (.tmp 1), none⟩,
   ⟨(some 4), .mov (.const (.int .i64 0)), none⟩]) (
 .trim [2, 3] [2, 3] [] (
 .seq (
  .seq (
   .reg [⟨(some 5), .faddr 0 (.tmp 2), none⟩,
    ⟨(some 6), .load none (.tmp 5), none⟩,
    ⟨(some 7), .faddr 0 (.tmp 3), none⟩,
    ⟨(some 8), .load none (.tmp 7), none⟩,
    ⟨(some 9), .bin .neq (.tmp 6) (.tmp 8), none⟩]) (
  .trim [2, 3, 9] [2, 3] [] (
  .cond (.tmp 9) (
   .seq (
    .reg [⟨(some 10), .faddr 0 (.tmp 2), none⟩,
     ⟨(some 11), .load none (.tmp 10), none⟩,
     ⟨(some 12), .faddr 0 (.tmp 3), none⟩,
     ⟨(some 13), .load none (.tmp 12), none⟩,
     ⟨(some 14), .call (.func 29) [(.tmp 11), (.tmp 13)] .pure, none⟩,
     ⟨(some 4), .mov (.tmp 14), none⟩]) (
   .ret)) (
   .skip)))) (
 .trim [2, 3] [2, 3] [] (
 .seq (
  .seq (
   .reg [⟨(some 15), .faddr 0 (.tmp 2), none⟩,
    ⟨(some 16), .load none (.tmp 15), none⟩]) (
  .trim [2, 3, 16] [2, 3] [] (
  .block 0 (
   .seq (
    .reg [⟨(some 18), .bin .eql (.tmp 16) (.const (.int .i64 1)), none⟩,
     ⟨(some 17), .mov (.tmp 18), none⟩]) (
   .trim [2, 3, 16, 17] [2, 3] [] (
   .cond (.tmp 17) (
    .seq (
     .reg [⟨(some 19), .faddr 1 (.tmp 2), none⟩,
      ⟨(some 20), .load none (.tmp 19), none⟩,
      ⟨(some 21), .faddr 1 (.tmp 3), none⟩,
      ⟨(some 22), .load none (.tmp 21), none⟩,
      ⟨(some 23), .call (.func 29) [(.tmp 20), (.tmp 22)] .pure, none⟩,
      ⟨(some 4), .mov (.tmp 23), none⟩]) (
    .ret)) (
    .seq (
     .reg [⟨(some 25), .bin .eql (.tmp 16) (.const (.int .i64 2)), none⟩,
      ⟨(some 24), .mov (.tmp 25), none⟩]) (
    .trim [2, 3, 24] [2, 3] [] (
    .cond (.tmp 24) (
     .seq (
      .reg [⟨(some 26), .faddr 2 (.tmp 2), none⟩,
       ⟨(some 27), .load none (.tmp 26), none⟩,
       ⟨(some 28), .faddr 2 (.tmp 3), none⟩,
       ⟨(some 29), .load none (.tmp 28), none⟩,
       ⟨(some 30), .call (.func 30) [(.tmp 27), (.tmp 29)] .pure, none⟩,
       ⟨(some 4), .mov (.tmp 30), none⟩]) (
     .ret)) (
     .skip)))))))))) (
 .trim [] [] [] (
 .seq (
  .reg [⟨(some 4), .mov (.const (.int .i64 0)), none⟩]) (
 .ret)))))))
theorem r13 : Runs Tryd.prog 13 m13.strip [.mov (.tmp 4)] 31 := ⟨by kernel_rfl, by kernel_rfl, Tryd.f13, Tryd.f13.body.getD .skip, Tryd.func13, by kernel_rfl, by kernel_rfl, by kernel_rfl, by kernel_rfl, by kernel_rfl⟩
def m16 : MH :=
 .seq (
  .pure (
  .reg [⟨(some 2), .mov (.const (.string ⟨#[]⟩)), none⟩])) (
 .trim [0] [] [] (
 .seq (
  .reg [([], (.alloc [(.val (.pointer none)), (.sl none [])] 75 3))] []) (
 .trim [0, 3] [3] [] (
 .seq (
  .reg [([], (.call (some 6) 32 [(.tmp 3), (.const (.int .u8 39))]))] []) (
 .trim [0, 3] [3] [] (
 .seq (
  .seq (
   .pure (
   .reg [⟨(some 7), .mov (.tmp 0), none⟩,
    ⟨(some 8), .lenS (.tmp 7), none⟩,
    ⟨(some 9), .mov (.const (.int .i64 0)), none⟩])) (
  .trim [0, 3, 8, 9] [3] [] (
  .block 0 (
   .loop (
    .trim [0, 3, 8, 9] [3] [] (
    .seq (
     .pure (
     .reg [⟨(some 10), .bin .lss (.tmp 9) (.tmp 8), none⟩])) (
    .trim [0, 3, 8, 9, 10] [3] [] (
    .seq (
     .pure (
     .cond (.tmp 10) (
      .skip) (
      .exit 0))) (
    .trim [0, 3, 8, 9] [3] [] (
    .seq (
     .block 1 (
      .seq (
       .pure (
       .reg [⟨(some 11), .mov (.tmp 9), none⟩,
        ⟨(some 4), .mov (.tmp 11), none⟩])) (
      .trim [0, 3, 4, 8, 9] [3] [] (
      .seq (
       .pure (
       .reg [⟨(some 12), .mov (.tmp 0), none⟩,
        ⟨(some 13), .mov (.tmp 4), none⟩,
        ⟨(some 14), .idxS (.tmp 12) (.tmp 13), none⟩,
        ⟨(some 5), .mov (.tmp 14), none⟩])) (
      .trim [0, 3, 5, 8, 9] [3] [] (
      .seq (
       .pure (
       .reg [⟨(some 15), .mov (.tmp 5), none⟩,
        ⟨(some 16), .call (.func 33) [(.tmp 15)] .pure, none⟩])) (
      .trim [0, 3, 5, 8, 9, 16] [3] [] (
      .cond (.tmp 16) (
       .reg [([⟨(some 17), .mov (.tmp 5), none⟩], (.call (some 18) 32 [(.tmp 3), (.tmp 17)]))] []) (
       .seq (
        .reg [([], (.call (some 19) 32 [(.tmp 3), (.const (.int .u8 92))]))] []) (
       .trim [0, 3, 5, 8, 9] [3] [] (
       .dreg 9 [⟨(some 20), .mov (.tmp 5), none⟩,
        ⟨(some 21), .bin .shr (.tmp 20) (.const (.int .u64 4)), none⟩,
        ⟨(some 22), .idxS (.const (.string ⟨#[48, 49, 50, 51, 52, 53, 54, 55, 56, 57, 97, 98, 99, 100, 101, 102]⟩)) (.tmp 21), none⟩,
        ⟨(some 23), .r2s (.tmp 22), none⟩,
        ⟨(some 24), .mov (.tmp 5), none⟩,
        ⟨(some 25), .bin .and (.tmp 24) (.const (.int .u8 15)), none⟩,
        ⟨(some 26), .idxS (.const (.string ⟨#[48, 49, 50, 51, 52, 53, 54, 55, 56, 57, 97, 98, 99, 100, 101, 102]⟩)) (.tmp 25), none⟩,
        ⟨(some 27), .r2s (.tmp 26), none⟩,
        ⟨(some 28), .bin .add (.tmp 23) (.tmp 27), none⟩] (some 29) 34 [(.tmp 3), (.tmp 28)]))))))))))) (
    .pure (
    .trim [0, 3, 8, 9] [3] [] (
    .reg [⟨(some 30), .bin .add (.tmp 9) (.const (.int .i64 1)), none⟩,
     ⟨(some 9), .mov (.tmp 30), none⟩]))))))))))))) (
 .trim [3] [3] [] (
 .seq (
  .reg [([], (.call (some 31) 32 [(.tmp 3), (.const (.int .u8 39))]))] []) (
 .trim [3] [3] [] (
 .seq (
  .reg [([], (.call (some 32) 35 [(.tmp 3)]))] [⟨(some 2), .mov (.tmp 32), none⟩]) (
 .pure (
 .ret))))))))))))
theorem r16 : Runs Tryd.prog 16 m16.flat.strip [.mov (.tmp 2)] 33 := ⟨by kernel_rfl, by kernel_rfl, Tryd.f16, Tryd.f16.body.getD .skip, Tryd.func16, by kernel_rfl, by kernel_rfl, by kernel_rfl, by kernel_rfl, by kernel_rfl⟩
def m17 : MC :=
 .seq (
  .reg [⟨(some 1), .box 24 3 (.tmp 0), none⟩,
   ⟨(some 2), .mov (.const (.string ⟨#[]⟩)), none⟩]) (
 .trim [1] [1] [] (
 .seq (
  .block 0 (
   .seq (
    .reg [⟨(some 4), .load (some 3) (.tmp 1), none⟩,
     ⟨(some 5), .call (.func 12) [(.tmp 4)] .pure, none⟩,
     ⟨(some 6), .un .not (.tmp 5), none⟩,
     ⟨(some 3), .mov (.tmp 6), none⟩]) (
   .trim [1, 3] [1] [] (
   .cond (.tmp 3) (
    .seq (
     .reg [⟨(some 2), .mov (.const (.string ⟨#[]⟩)), none⟩]) (
    .ret)) (
    .seq (
     .reg [⟨(some 8), .faddr 0 (.tmp 1), none⟩,
      ⟨(some 9), .load none (.tmp 8), none⟩,
      ⟨(some 10), .bin .eql (.tmp 9) (.const (.int .i64 1)), none⟩,
      ⟨(some 7), .mov (.tmp 10), none⟩]) (
    .trim [1, 7] [1] [] (
    .cond (.tmp 7) (
     .seq (
      .reg [⟨(some 11), .faddr 1 (.tmp 1), none⟩,
       ⟨(some 12), .load none (.tmp 11), none⟩,
       ⟨(some 13), .call (.func 36) [(.tmp 12)] .pure, none⟩,
       ⟨(some 2), .mov (.tmp 13), none⟩]) (
     .ret)) (
     .seq (
      .reg [⟨(some 15), .faddr 0 (.tmp 1), none⟩,
       ⟨(some 16), .load none (.tmp 15), none⟩,
       ⟨(some 17), .bin .eql (.tmp 16) (.const (.int .i64 2)), none⟩,
       ⟨(some 14), .mov (.tmp 17), none⟩]) (
     .trim [1, 14] [1] [] (
     .cond (.tmp 14) (
      .seq (
       .reg [⟨(some 18), .faddr 2 (.tmp 1), none⟩,
        ⟨(some 19), .load none (.tmp 18), none⟩,
        ⟨(some 20), .call (.func 16) [(.tmp 19)] .pure, none⟩,
        ⟨(some 2), .mov (.tmp 20), none⟩]) (
      .ret)) (
      .skip))))))))))) (
 .trim [] [] [] (
 .seq (
  .reg [⟨(some 2), .mov (.const (.string ⟨#[45]⟩)), none⟩]) (
 .ret)))))
def m18 : MC :=
 .seq (
  .reg [⟨(some 1), .box 24 3 (.tmp 0), none⟩,
   ⟨(some 2), .mov (.const (.bool false)), none⟩]) (
 .trim [1] [1] [] (
 .seq (
  .seq (
   .reg [⟨(some 3), .faddr 0 (.tmp 1), none⟩,
    ⟨(some 4), .load none (.tmp 3), none⟩]) (
  .trim [1, 4] [1] [] (
  .block 0 (
   .seq (
    .reg [⟨(some 6), .bin .eql (.tmp 4) (.const (.int .i64 0)), none⟩,
     ⟨(some 5), .mov (.tmp 6), none⟩]) (
   .trim [1, 4, 5] [1] [] (
   .cond (.tmp 5) (
    .seq (
     .reg [⟨(some 7), .faddr 1 (.tmp 1), none⟩,
      ⟨(some 8), .load none (.tmp 7), none⟩,
      ⟨(some 9), .bin .eql (.tmp 8) (.const (.int .i64 0)), none⟩,
      ⟨(some 10), .mov (.tmp 9), none⟩,
      ⟨(some 11), .faddr 2 (.tmp 1), (some (10, true))⟩,
      ⟨(some 12), .load none (.tmp 11), (some (10, true))⟩,
      ⟨(some 13), .bin .eql (.tmp 12) (.const (.string ⟨#[]⟩)), (some (10, true))⟩,
      ⟨(some 14), .pick (.tmp 10) (.tmp 13) (.const (.bool false)), none⟩,
      ⟨(some 2), .mov (.tmp 14), none⟩]) (
    .ret)) (
    .seq (
     .reg [⟨(some 16), .bin .eql (.tmp 4) (.const (.int .i64 1)), none⟩,
      ⟨(some 15), .mov (.tmp 16), none⟩]) (
    .trim [1, 4, 15] [1] [] (
    .cond (.tmp 15) (
     .seq (
      .reg [⟨(some 17), .faddr 2 (.tmp 1), none⟩,
       ⟨(some 18), .load none (.tmp 17), none⟩,
       ⟨(some 19), .bin .eql (.tmp 18) (.const (.string ⟨#[]⟩)), none⟩,
       ⟨(some 2), .mov (.tmp 19), none⟩]) (
     .ret)) (
     .seq (
      .reg [⟨(some 21), .bin .eql (.tmp 4) (.const (.int .i64 2)), none⟩,
       ⟨(some 20), .mov (.tmp 21), none⟩]) (
     .trim [1, 20] [1] [] (
     .cond (.tmp 20) (
      .seq (
       .reg [⟨(some 22), .faddr 1 (.tmp 1), none⟩,
        ⟨(some 23), .load none (.tmp 22), none⟩,
        ⟨(some 24), .bin .eql (.tmp 23) (.const (.int .i64 0)), none⟩,
        ⟨(some 25), .mov (.tmp 24), none⟩,
        ⟨(some 26), .faddr 2 (.tmp 1), (some (25, true))⟩,
        ⟨(some 27), .load none (.tmp 26), (some (25, true))⟩,
        ⟨(some 28), .lenS (.tmp 27), (some (25, true))⟩,
        ⟨(some 29), .bin .leq (.tmp 28) (.const (.int .i64 8)), (some (25, true))⟩,
        ⟨(some 30), .pick (.tmp 25) (.tmp 29) (.const (.bool false)), none⟩,
        ⟨(some 2), .mov (.tmp 30), none⟩]) (
      .ret)) (
      .skip))))))))))))) (
 .trim [] [] [] (
 .seq (
  .reg [⟨(some 2), .mov (.const (.bool false)), none⟩]) (
 .ret)))))
def m19 : MC :=
 .seq (
  .reg [⟨(some 1), .box 57 12 (.tmp 0), none⟩,
   ⟨(some 2), .mov (.const (.bool false)), none⟩]) (
 .trim [1] [1] [] (
 .seq (
  .seq (
   .reg [⟨(some 5), .load (some 12) (.tmp 1), none⟩,
    ⟨(some 6), .mov (.const (.int .i64 0)), none⟩]) (
  .trim [5, 6] [] [] (
  .block 0 (
   .loop (
    .trim [5, 6] [] [] (
    .seq (
     .reg [⟨(some 7), .bin .lss (.tmp 6) (.const (.int .i64 4)), none⟩]) (
    .trim [5, 6, 7] [] [] (
    .seq (
     .cond (.tmp 7) (
      .skip) (
      .exit 0)) (
    .trim [5, 6] [] [] (
    .seq (
     .block 1 (
      .seq (
       .reg [⟨(some 8), .idxA 4 3 true (.tmp 5) (.tmp 6), none⟩,
        ⟨(some 4), .alloc 24 [(.val (.int .i64 0)), (.val (.int .i64 0)), (.val (.string ⟨#[]⟩))], none⟩,
        ⟨none, .store 3 (.tmp 4) (.tmp 8), none⟩]) (
      .trim [4, 5, 6] [4] [] (
      .seq (
       .reg [⟨(some 9), .load (some 3) (.tmp 4), none⟩,
        ⟨(some 10), .call (.func 12) [(.tmp 9)] .pure, none⟩,
        ⟨(some 11), .un .not (.tmp 10), none⟩]) (
      .trim [5, 6, 11] [] [] (
      .cond (.tmp 11) (
       .seq (
        .reg [⟨(some 2), .mov (.const (.bool false)), none⟩]) (
       .ret)) (
       .skip))))))) (
    .trim [5, 6] [] [] (
    .reg [⟨(some 12), .bin .add (.tmp 6) (.const (.int .i64 1)), none⟩,
     ⟨(some 6), .mov (.tmp 12), none⟩])))))))))))) (
 .trim [] [] [] (
 .seq (
  .reg [⟨(some 2), .mov (.const (.bool true)), none⟩]) (
 .ret)))))
def m24 : MC :=
 .seq (
  .reg [⟨(some 4), .mov (.const (.bool false)), none⟩]) (
 .trim [0, 1] [] [] (
 .seq (
  .reg [⟨(some 5), .mov (.tmp 0), none⟩,
   ⟨(some 6), .mov (.tmp 1), none⟩,
   ⟨(some 7), .call (.func 39) [(.tmp 5), (.tmp 6)] .pure, none⟩,
   ⟨(some 4), .mov (.tmp 7), none⟩]) (
 .ret)))
theorem r24 : Runs Tryd.prog 24 m24.strip [.mov (.tmp 4)] 8 := ⟨by kernel_rfl, by kernel_rfl, Tryd.f24, Tryd.f24.body.getD .skip, Tryd.func24, by kernel_rfl, by kernel_rfl, by kernel_rfl, by kernel_rfl, by kernel_rfl⟩
def m25 : MC :=
 .seq (
  .reg [⟨(some 2), .mov (.const (.string ⟨#[]⟩)), none⟩,
   ⟨(some 3), .mov (.const (.int .i64 0)), none⟩,
   ⟨(some 4), .mov (.const (.bool false)), none⟩]) (
 .trim [0] [] [] (
 .seq (
  .reg [⟨(some 5), .nilsl 5 1, none⟩]) (
 .trim [0, 5] [] [(5, 5, 1)] (
 .seq (
  .seq (
   .reg [⟨(some 6), .mov (.const (.int .i64 1)), none⟩]) (
  .trim [0, 5, 6] [] [(5, 5, 1)] (
  .block 0 (
   .loop (
    .trim [0, 5, 6] [] [(5, 5, 1)] (
    .seq (
     .seq (
      .reg [⟨(some 12), .mov (.tmp 6), none⟩,
       ⟨(some 13), .mov (.tmp 0), none⟩,
       ⟨(some 14), .lenS (.tmp 13), none⟩,
       ⟨(some 15), .bin .lss (.tmp 12) (.tmp 14), none⟩]) (
     .trim [0, 5, 6, 15] [] [(5, 5, 1)] (
     .cond (.tmp 15) (
      .skip) (
      .exit 0)))) (
    .trim [0, 5, 6] [] [(5, 5, 1)] (
    .seq (
     .block 1 (
      .seq (
       .reg [⟨(some 18), .mov (.tmp 0), none⟩,
        ⟨(some 19), .mov (.tmp 6), none⟩,
        ⟨(some 20), .idxS (.tmp 18) (.tmp 19), none⟩,
        ⟨(some 7), .mov (.tmp 20), none⟩]) (
      .trim [0, 5, 6, 7] [] [(5, 5, 1)] (
      .block 2 (
       .seq (
        .reg [⟨(some 22), .mov (.tmp 7), none⟩,
         ⟨(some 23), .bin .eql (.tmp 22) (.const (.int .u8 39)), none⟩,
         ⟨(some 21), .mov (.tmp 23), none⟩]) (
       .trim [0, 5, 6, 7, 21] [] [(5, 5, 1)] (
       .cond (.tmp 21) (
        .seq (
         .reg [⟨(some 24), .mov (.tmp 5), none⟩,
          ⟨(some 25), .b2s (.tmp 24), none⟩,
          ⟨(some 26), .mov (.tmp 6), none⟩,
          ⟨(some 27), .bin .add (.tmp 26) (.const (.int .i64 1)), none⟩,
          ⟨(some 28), .mov (.tmp 5), none⟩,
          ⟨(some 29), .lenL (.tmp 28), none⟩,
          ⟨(some 30), .bin .leq (.tmp 29) (.const (.int .i64 8)), none⟩,
          ⟨(some 2), .mov (.tmp 25), none⟩,
          ⟨(some 3), .mov (.tmp 27), none⟩,
          ⟨(some 4), .mov (.tmp 30), none⟩]) (
        .ret)) (
        .seq (
         .reg [⟨(some 32), .mov (.tmp 7), none⟩,
          ⟨(some 33), .bin .eql (.tmp 32) (.const (.int .u8 92)), none⟩,
          ⟨(some 34), .mov (.tmp 33), none⟩,
          ⟨(some 35), .mov (.tmp 6), (some (34, true))⟩,
          ⟨(some 36), .bin .add (.tmp 35) (.const (.int .i64 2)), (some (34, true))⟩,
          ⟨(some 37), .mov (.tmp 0), (some (34, true))⟩,
          ⟨(some 38), .lenS (.tmp 37), (some (34, true))⟩,
          ⟨(some 39), .bin .lss (.tmp 36) (.tmp 38), (some (34, true))⟩,
          ⟨(some 40), .pick (.tmp 34) (.tmp 39) (.const (.bool false)), none⟩,
          ⟨(some 31), .mov (.tmp 40), none⟩]) (
        .trim [0, 5, 6, 7, 31] [] [(5, 5, 1)] (
        .cond (.tmp 31) (
         .seq (
          .reg [⟨(some 42), .mov (.tmp 0), none⟩,
           ⟨(some 43), .mov (.tmp 6), none⟩,
           ⟨(some 44), .bin .add (.tmp 43) (.const (.int .i64 1)), none⟩,
           ⟨(some 45), .idxS (.tmp 42) (.tmp 44), none⟩,
           ⟨(some 46), .call (.func 40) [(.tmp 45)] .pure, none⟩,
           ⟨(some 41), .mov (.tmp 46), none⟩,
           ⟨(some 47), .ext (.tmp 41) 0, none⟩,
           ⟨(some 48), .ext (.tmp 41) 1, none⟩,
           ⟨(some 8), .mov (.tmp 47), none⟩,
           ⟨(some 9), .mov (.tmp 48), none⟩]) (
         .trim [0, 5, 6, 8, 9] [] [(5, 5, 1)] (
         .seq (
          .reg [⟨(some 50), .mov (.tmp 0), none⟩,
           ⟨(some 51), .mov (.tmp 6), none⟩,
           ⟨(some 52), .bin .add (.tmp 51) (.const (.int .i64 2)), none⟩,
           ⟨(some 53), .idxS (.tmp 50) (.tmp 52), none⟩,
           ⟨(some 54), .call (.func 40) [(.tmp 53)] .pure, none⟩,
           ⟨(some 49), .mov (.tmp 54), none⟩,
           ⟨(some 55), .ext (.tmp 49) 0, none⟩,
           ⟨(some 56), .ext (.tmp 49) 1, none⟩,
           ⟨(some 10), .mov (.tmp 55), none⟩,
           ⟨(some 11), .mov (.tmp 56), none⟩]) (
         .trim [0, 5, 6, 8, 9, 10, 11] [] [(5, 5, 1)] (
         .seq (
          .seq (
           .reg [⟨(some 57), .mov (.tmp 8), none⟩,
            ⟨(some 58), .bin .shl (.tmp 57) (.const (.int .u64 4)), none⟩,
            ⟨(some 59), .mov (.tmp 10), none⟩,
            ⟨(some 60), .bin .or (.tmp 58) (.tmp 59), none⟩,
            ⟨(some 7), .mov (.tmp 60), none⟩]) (
          .trim [0, 5, 6, 7, 9, 11] [] [(5, 5, 1)] (
          .seq (
           .reg [⟨(some 61), .mov (.tmp 9), none⟩,
            ⟨(some 62), .un .not (.tmp 61), none⟩,
            ⟨(some 63), .mov (.tmp 62), none⟩,
            ⟨(some 64), .mov (.tmp 11), (some (63, false))⟩,
            ⟨(some 65), .un .not (.tmp 64), (some (63, false))⟩,
            ⟨(some 66), .pick (.tmp 63) (.const (.bool true)) (.tmp 65), none⟩,
            ⟨(some 67), .mov (.tmp 66), none⟩,
            ⟨(some 68), .mov (.tmp 7), (some (67, false))⟩,
            ⟨(some 69), .call (.func 33) [(.tmp 68)] .pure, (some (67, false))⟩,
            ⟨(some 70), .pick (.tmp 67) (.const (.bool true)) (.tmp 69), none⟩]) (
          .trim [0, 5, 6, 7, 70] [] [(5, 5, 1)] (
          .cond (.tmp 70) (
           .seq (
            .reg [⟨(some 2), .mov (.const (.string ⟨#[]⟩)), none⟩,
             ⟨(some 3), .mov (.const (.int .i64 0)), none⟩,
             ⟨(some 4), .mov (.const (.bool false)), none⟩]) (
           .ret)) (
           .skip)))))) (
         .trim [0, 5, 6, 7] [] [(5, 5, 1)] (
         .seq (
          .reg [⟨(some 71), .mov (.tmp 5), none⟩,
           ⟨(some 72), .mov (.tmp 7), none⟩,
           ⟨(some 73), .bslice 5 1 [(.val (.int .u8 0))] 1 [(0, 1, (.tmp 72))], none⟩,
           ⟨(some 74), .append 5 1 1 (.tmp 71) (.tmp 73), none⟩,
           ⟨(some 5), .mov (.tmp 74), none⟩]) (
         .trim [0, 5, 6] [] [(5, 5, 1)] (
         .reg [⟨(some 75), .mov (.tmp 6), none⟩,
          ⟨(some 76), .bin .add (.tmp 75) (.const (.int .i64 2)), none⟩,
          ⟨(some 6), .mov (.tmp 76), none⟩]))))))))) (
         .seq (
          .reg [⟨(some 78), .mov (.tmp 7), none⟩,
           ⟨(some 79), .call (.func 33) [(.tmp 78)] .pure, none⟩,
           ⟨(some 77), .mov (.tmp 79), none⟩]) (
         .trim [0, 5, 6, 7, 77] [] [(5, 5, 1)] (
         .cond (.tmp 77) (
          .reg [⟨(some 80), .mov (.tmp 5), none⟩,
           ⟨(some 81), .mov (.tmp 7), none⟩,
           ⟨(some 82), .bslice 5 1 [(.val (.int .u8 0))] 1 [(0, 1, (.tmp 81))], none⟩,
           ⟨(some 83), .append 5 1 1 (.tmp 80) (.tmp 82), none⟩,
           ⟨(some 5), .mov (.tmp 83), none⟩]) (
          .seq (
           .reg [⟨(some 2), .mov (.const (.string ⟨#[]⟩)), none⟩,
            ⟨(some 3), .mov (.const (.int .i64 0)), none⟩,
            ⟨(some 4), .mov (.const (.bool false)), none⟩]) (
          .ret))))))))))))))) (
    .trim [0, 5, 6] [] [(5, 5, 1)] (
    .reg [⟨(some 16), .mov (.tmp 6), none⟩,
     ⟨(some 17), .bin .add (.tmp 16) (.const (.int .i64 1)), none⟩,
     ⟨(some 6), .mov (.tmp 17), none⟩])))))))))) (
 .trim [] [] [] (
 .seq (
  .reg [⟨(some 2), .mov (.const (.string ⟨#[]⟩)), none⟩,
   ⟨(some 3), .mov (.const (.int .i64 0)), none⟩,
   ⟨(some 4), .mov (.const (.bool false)), none⟩]) (
 .ret)))))))
theorem r25 : Runs Tryd.prog 25 m25.strip [.mov (.tmp 2), .mov (.tmp 3), .mov (.tmp 4)] 84 := ⟨by kernel_rfl, by kernel_rfl, Tryd.f25, Tryd.f25.body.getD .skip, Tryd.func25, by kernel_rfl, by kernel_rfl, by kernel_rfl, by kernel_rfl, by kernel_rfl⟩
def m26 : MC :=
 .seq (
  .reg [⟨(some 4), .mov (.const (.string ⟨#[]⟩)), none⟩]) (
 .trim [0, 1] [] [] (
 .seq (
  .reg [⟨(some 5), .mov (.tmp 0), none⟩,
   ⟨(some 6), .mov (.tmp 1), none⟩,
   ⟨(some 7), .call (.func 41) [(.tmp 5), (.tmp 6)] .pure, none⟩,
   ⟨(some 4), .mov (.tmp 7), none⟩]) (
 .ret)))
theorem r26 : Runs Tryd.prog 26 m26.strip [.mov (.tmp 4)] 8 := ⟨by kernel_rfl, by kernel_rfl, Tryd.f26, Tryd.f26.body.getD .skip, Tryd.func26, by kernel_rfl, by kernel_rfl, by kernel_rfl, by kernel_rfl, by kernel_rfl⟩
def m29 : MC :=
 .seq (
  .reg [⟨(some 4), .mov (.const (.int .i64 0)), none⟩]) (
 .trim [0, 1] [] [] (
 .seq (
  .reg [⟨(some 7), .mov (.tmp 0), none⟩,
   ⟨(some 8), .call (.func 45) [(.tmp 7)] .pure, none⟩,
   ⟨(some 5), .mov (.tmp 8), none⟩]) (
 .trim [0, 1, 5] [] [] (
 .seq (
  .reg [⟨(some 9), .mov (.tmp 1), none⟩,
   ⟨(some 10), .call (.func 45) [(.tmp 9)] .pure, none⟩,
   ⟨(some 6), .mov (.tmp 10), none⟩]) (
 .trim [0, 1, 5, 6] [] [] (
 .seq (
  .seq (
   .reg [⟨(some 11), .mov (.tmp 5), none⟩]) (
  .trim [0, 1, 6, 11] [] [] (
  .cond (.tmp 11) (
   .seq (
    .seq (
     .reg [⟨(some 12), .mov (.tmp 6), none⟩]) (
    .trim [12] [] [] (
    .cond (.tmp 12) (
     .seq (
      .reg [⟨(some 4), .mov (.const (.int .i64 0)), none⟩]) (
     .ret)) (
     .skip)))) (
   .trim [] [] [] (
   .seq (
    .reg [⟨(some 4), .mov (.const (.int .i64 (-1))), none⟩]) (
   .ret)))) (
   .skip)))) (
 .trim [0, 1, 6] [] [] (
 .seq (
  .seq (
   .reg [⟨(some 13), .mov (.tmp 6), none⟩]) (
  .trim [0, 1, 13] [] [] (
  .cond (.tmp 13) (
   .seq (
    .reg [⟨(some 4), .mov (.const (.int .i64 1)), none⟩]) (
   .ret)) (
   .skip)))) (
 .trim [0, 1] [] [] (
 .seq (
  .seq (
   .reg [⟨(some 14), .mov (.tmp 0), none⟩,
    ⟨(some 15), .mov (.tmp 1), none⟩,
    ⟨(some 16), .bin .lss (.tmp 14) (.tmp 15), none⟩]) (
  .trim [0, 1, 16] [] [] (
  .cond (.tmp 16) (
   .seq (
    .reg [⟨(some 4), .mov (.const (.int .i64 (-1))), none⟩]) (
   .ret)) (
   .skip)))) (
 .trim [0, 1] [] [] (
 .seq (
  .seq (
   .reg [⟨(some 17), .mov (.tmp 0), none⟩,
    ⟨(some 18), .mov (.tmp 1), none⟩,
    ⟨(some 19), .bin .gtr (.tmp 17) (.tmp 18), none⟩]) (
  .trim [19] [] [] (
  .cond (.tmp 19) (
   .seq (
    .reg [⟨(some 4), .mov (.const (.int .i64 1)), none⟩]) (
   .ret)) (
   .skip)))) (
 .trim [] [] [] (
 .seq (
  .reg [⟨(some 4), .mov (.const (.int .i64 0)), none⟩]) (
 .ret)))))))))))))))
theorem r29 : Runs Tryd.prog 29 m29.strip [.mov (.tmp 4)] 20 := ⟨by kernel_rfl, by kernel_rfl, Tryd.f29, Tryd.f29.body.getD .skip, Tryd.func29, by kernel_rfl, by kernel_rfl, by kernel_rfl, by kernel_rfl, by kernel_rfl⟩
def m33 : MC :=
 .seq (
  .reg [⟨(some 2), .mov (.const (.bool false)), none⟩]) (
 .trim [0] [] [] (
 .seq (
  .reg [⟨(some 3), .mov (.tmp 0), none⟩,
   ⟨(some 4), .bin .geq (.tmp 3) (.const (.int .u8 32)), none⟩,
   ⟨(some 5), .mov (.tmp 4), none⟩,
   ⟨(some 6), .mov (.tmp 0), (some (5, true))⟩,
   ⟨(some 7), .bin .leq (.tmp 6) (.const (.int .u8 126)), (some (5, true))⟩,
   ⟨(some 8), .pick (.tmp 5) (.tmp 7) (.const (.bool false)), none⟩,
   ⟨(some 9), .mov (.tmp 8), none⟩,
   ⟨(some 10), .mov (.tmp 0), (some (9, true))⟩,
   ⟨(some 11), .bin .neq (.tmp 10) (.const (.int .u8 39)), (some (9, true))⟩,
   ⟨(some 12), .pick (.tmp 9) (.tmp 11) (.const (.bool false)), none⟩,
   ⟨(some 13), .mov (.tmp 12), none⟩,
   ⟨(some 14), .mov (.tmp 0), (some (13, true))⟩,
   ⟨(some 15), .bin .neq (.tmp 14) (.const (.int .u8 92)), (some (13, true))⟩,
   ⟨(some 16), .pick (.tmp 13) (.tmp 15) (.const (.bool false)), none⟩,
   ⟨(some 2), .mov (.tmp 16), none⟩]) (
 .ret)))
theorem r33 : Runs Tryd.prog 33 m33.strip [.mov (.tmp 2)] 17 := ⟨by kernel_rfl, by kernel_rfl, Tryd.f33, Tryd.f33.body.getD .skip, Tryd.func33, by kernel_rfl, by kernel_rfl, by kernel_rfl, by kernel_rfl, by kernel_rfl⟩
def m39 : MC :=
 .seq (
  .reg [⟨(some 4), .mov (.const (.bool false)), none⟩]) (
 .trim [0, 1] [] [] (
 .seq (
  .reg [⟨(some 5), .mov (.tmp 0), none⟩,
   ⟨(some 6), .lenS (.tmp 5), none⟩,
   ⟨(some 7), .mov (.tmp 1), none⟩,
   ⟨(some 8), .lenS (.tmp 7), none⟩,
   ⟨(some 9), .bin .geq (.tmp 6) (.tmp 8), none⟩,
   ⟨(some 10), .mov (.tmp 9), none⟩,
   ⟨(some 11), .mov (.tmp 0), (some (10, true))⟩,
   ⟨(some 12), .mov (.tmp 1), (some (10, true))⟩,
   ⟨(some 13), .lenS (.tmp 12), (some (10, true))⟩,
   ⟨(some 14), .slcS (.tmp 11) none (some (.tmp 13)), (some (10, true))⟩,
   ⟨(some 15), .mov (.tmp 1), (some (10, true))⟩,
   ⟨(some 16), .bin .eql (.tmp 14) (.tmp 15), (some (10, true))⟩,
   ⟨(some 17), .pick (.tmp 10) (.tmp 16) (.const (.bool false)), none⟩,
   ⟨(some 4), .mov (.tmp 17), none⟩]) (
 .ret)))
theorem r39 : Runs Tryd.prog 39 m39.strip [.mov (.tmp 4)] 18 := ⟨by kernel_rfl, by kernel_rfl, Tryd.f39, Tryd.f39.body.getD .skip, Tryd.func39, by kernel_rfl, by kernel_rfl, by kernel_rfl, by kernel_rfl, by kernel_rfl⟩
def m40 : MC :=
 .seq (
  .reg [⟨(some 2), .mov (.const (.int .u8 0)), none⟩,
   ⟨(some 3), .mov (.const (.bool false)), none⟩]) (
 .trim [0] [] [] (
 .seq (
  .reg [⟨(some 5), .mov (.tmp 0), none⟩,
   ⟨(some 6), .call (.func 52) [(.const (.string ⟨#[48, 49, 50, 51, 52, 53, 54, 55, 56, 57, 97, 98, 99, 100, 101, 102]⟩)), (.tmp 5)] .pure, none⟩,
   ⟨(some 4), .mov (.tmp 6), none⟩]) (
 .trim [4] [] [] (
 .seq (
  .reg [⟨(some 7), .mov (.tmp 4), none⟩,
   ⟨(some 8), .minmax true [(.tmp 7), (.const (.int .i64 0))], none⟩,
   ⟨(some 9), .conv .u8 (.tmp 8), none⟩,
   ⟨(some 10), .mov (.tmp 4), none⟩,
   ⟨(some 11), .bin .geq (.tmp 10) (.const (.int .i64 0)), none⟩,
   ⟨(some 2), .mov (.tmp 9), none⟩,
   ⟨(some 3), .mov (.tmp 11), none⟩]) (
 .ret)))))
theorem r40 : Runs Tryd.prog 40 m40.strip [.mov (.tmp 2), .mov (.tmp 3)] 12 := ⟨by kernel_rfl, by kernel_rfl, Tryd.f40, Tryd.f40.body.getD .skip, Tryd.func40, by kernel_rfl, by kernel_rfl, by kernel_rfl, by kernel_rfl, by kernel_rfl⟩
def m41 : MC :=
 .seq (
  .reg [⟨(some 4), .mov (.const (.string ⟨#[]⟩)), none⟩]) (
 .trim [0, 1] [] [] (
 .seq (
  .seq (
   .reg [⟨(some 5), .mov (.tmp 0), none⟩,
    ⟨(some 6), .mov (.tmp 1), none⟩,
    ⟨(some 7), .call (.func 39) [(.tmp 5), (.tmp 6)] .pure, none⟩]) (
  .trim [0, 1, 7] [] [] (
  .cond (.tmp 7) (
   .seq (
    .reg [⟨(some 8), .mov (.tmp 0), none⟩,
     ⟨(some 9), .mov (.tmp 1), none⟩,
     ⟨(some 10), .lenS (.tmp 9), none⟩,
     ⟨(some 11), .slcS (.tmp 8) (some (.tmp 10)) none, none⟩,
     ⟨(some 4), .mov (.tmp 11), none⟩]) (
   .ret)) (
   .skip)))) (
 .trim [0] [] [] (
 .seq (
  .reg [⟨(some 12), .mov (.tmp 0), none⟩,
   ⟨(some 4), .mov (.tmp 12), none⟩]) (
 .ret)))))
theorem r41 : Runs Tryd.prog 41 m41.strip [.mov (.tmp 4)] 13 := ⟨by kernel_rfl, by kernel_rfl, Tryd.f41, Tryd.f41.body.getD .skip, Tryd.func41, by kernel_rfl, by kernel_rfl, by kernel_rfl, by kernel_rfl, by kernel_rfl⟩
def m45 : MC :=
 .seq (
  .reg [⟨(some 2), .mov (.const (.bool false)), none⟩]) (
 .trim [0] [] [] (
 .seq (
  .reg [⟨(some 3), .mov (.tmp 0), none⟩,
   ⟨(some 4), .mov (.tmp 0), none⟩,
   ⟨(some 5), .bin .neq (.tmp 3) (.tmp 4), none⟩,
   ⟨(some 2), .mov (.tmp 5), none⟩]) (
 .ret)))
theorem r45 : Runs Tryd.prog 45 m45.strip [.mov (.tmp 2)] 6 := ⟨by kernel_rfl, by kernel_rfl, Tryd.f45, Tryd.f45.body.getD .skip, Tryd.func45, by kernel_rfl, by kernel_rfl, by kernel_rfl, by kernel_rfl, by kernel_rfl⟩
end Go.Proofs
