/- The functions, as code of the value machine (printed by program). -/
import Derived.Test.YtdfpmolkpkpboaaDoorVm26
import Derived.Test.YtdfpmolkpkpboaaDoorProg
set_option linter.unusedVariables false
set_option maxRecDepth 2000
namespace Go.Proofs
open Go.Vm
def dlxV_0 : MC := .dany [(⟨(some 30), .mov (.tmp 7), none⟩, []),
          (⟨(some 31), .mov (.tmp 9), none⟩, []),
          (⟨(some 32), .bin .rem (.tmp 31) (.const (.int .i64 4)), none⟩, [1]),
          (⟨(some 33), .call (.func 14) [(.tmp 30), (.tmp 32)] (.obj [(21, 1000000), (10000033, 11000000)] [] [] []), none⟩, [0, 2]),
          (⟨(some 34), .mov (.tmp 9), none⟩, []),
          (⟨(some 35), .bin .rem (.tmp 34) (.const (.int .i64 4)), none⟩, [4]),
          (⟨(some 36), .mov (.tmp 9), none⟩, []),
          (⟨(some 37), .bin .rem (.tmp 36) (.const (.int .i64 4)), none⟩, [6]),
          (⟨(some 38), .bin .add (.tmp 37) (.const (.int .i64 1)), none⟩, [7]),
          (⟨(some 39), .slcS (.const (.string ⟨#[97, 98, 99, 100]⟩)) (some (.tmp 35)) (some (.tmp 38)), none⟩, [5, 8]),
          (⟨(some 40), .bin .neq (.tmp 33) (.tmp 39), none⟩, [3, 9]),
          (⟨(some 41), .mov (.tmp 40), none⟩, [10, 3]),
          (⟨(some 42), .mov (.tmp 7), (some (41, false))⟩, [11]),
          (⟨(some 43), .mov (.tmp 9), (some (41, false))⟩, [11]),
          (⟨(some 44), .bin .rem (.tmp 43) (.const (.int .i64 4)), (some (41, false))⟩, [13, 11]),
          (⟨(some 45), .mov (.tmp 9), (some (41, false))⟩, [11]),
          (⟨(some 46), .bin .rem (.tmp 45) (.const (.int .i64 4)), (some (41, false))⟩, [15, 11]),
          (⟨(some 47), .bin .add (.tmp 46) (.const (.int .i64 1)), (some (41, false))⟩, [16, 11]),
          (⟨(some 48), .slcS (.const (.string ⟨#[97, 98, 99, 100]⟩)) (some (.tmp 44)) (some (.tmp 47)), (some (41, false))⟩, [14, 17, 11]),
          (⟨(some 49), .call (.func 15) [(.tmp 42), (.tmp 48)] (.obj [(21, 1000000), (10000033, 11000000)] [] [] []), (some (41, false))⟩, [12, 18, 11, 11]),
          (⟨(some 50), .mov (.tmp 9), (some (41, false))⟩, [11]),
          (⟨(some 51), .bin .rem (.tmp 50) (.const (.int .i64 4)), (some (41, false))⟩, [20, 11]),
          (⟨(some 52), .bin .neq (.tmp 49) (.tmp 51), (some (41, false))⟩, [19, 21, 11]),
          (⟨(some 53), .pick (.tmp 41) (.const (.bool true)) (.tmp 52), none⟩, [11, 22])]
def lxV : MC :=
     .seq (
      .reg [⟨(some 28), .bin .lss (.tmp 27) (.tmp 26), none⟩]) (
     .trim [0, 1, 7, 8, 26, 27, 28] [21, 10000033] [] (
     .seq (
      .cond (.tmp 28) (
       .skip) (
       .exit 0)) (
     .trim [0, 1, 7, 8, 26, 27] [21, 10000033] [] (
     .seq (
      .block 1 (
       .seq (
        .reg [⟨(some 29), .mov (.tmp 27), none⟩,
         ⟨(some 9), .mov (.tmp 29), none⟩]) (
       .trim [0, 1, 7, 8, 9, 26, 27] [21, 10000033] [] (
       .seq (
        dlxV_0) (
       .trim [0, 1, 7, 8, 26, 27, 53] [21, 10000033] [] (
       .cond (.tmp 53) (
        .seq (
         .reg [⟨(some 6), .mov (.const (.bool false)), none⟩]) (
        .ret)) (
        .skip))))))) (
     .trim [0, 1, 7, 8, 26, 27] [21, 10000033] [] (
     .reg [⟨(some 54), .bin .add (.tmp 27) (.const (.int .i64 1)), none⟩,
      ⟨(some 27), .mov (.tmp 54), none⟩]))))))
def dlyV_0 : MC := .dany [(⟨(some 30), .mov (.tmp 7), none⟩, []),
          (⟨(some 31), .mov (.tmp 9), none⟩, []),
          (⟨(some 32), .bin .rem (.tmp 31) (.const (.int .i64 4)), none⟩, [1]),
          (⟨(some 33), .call (.func 14) [(.tmp 30), (.tmp 32)] (.obj [(21, 1000000)] [] [(10000012, 10000033)] []), none⟩, [0, 2]),
          (⟨(some 34), .mov (.tmp 9), none⟩, []),
          (⟨(some 35), .bin .rem (.tmp 34) (.const (.int .i64 4)), none⟩, [4]),
          (⟨(some 36), .mov (.tmp 9), none⟩, []),
          (⟨(some 37), .bin .rem (.tmp 36) (.const (.int .i64 4)), none⟩, [6]),
          (⟨(some 38), .bin .add (.tmp 37) (.const (.int .i64 1)), none⟩, [7]),
          (⟨(some 39), .slcS (.const (.string ⟨#[97, 98, 99, 100]⟩)) (some (.tmp 35)) (some (.tmp 38)), none⟩, [5, 8]),
          (⟨(some 40), .bin .neq (.tmp 33) (.tmp 39), none⟩, [3, 9]),
          (⟨(some 41), .mov (.tmp 40), none⟩, [10, 3]),
          (⟨(some 42), .mov (.tmp 7), (some (41, false))⟩, [11]),
          (⟨(some 43), .mov (.tmp 9), (some (41, false))⟩, [11]),
          (⟨(some 44), .bin .rem (.tmp 43) (.const (.int .i64 4)), (some (41, false))⟩, [13, 11]),
          (⟨(some 45), .mov (.tmp 9), (some (41, false))⟩, [11]),
          (⟨(some 46), .bin .rem (.tmp 45) (.const (.int .i64 4)), (some (41, false))⟩, [15, 11]),
          (⟨(some 47), .bin .add (.tmp 46) (.const (.int .i64 1)), (some (41, false))⟩, [16, 11]),
          (⟨(some 48), .slcS (.const (.string ⟨#[97, 98, 99, 100]⟩)) (some (.tmp 44)) (some (.tmp 47)), (some (41, false))⟩, [14, 17, 11]),
          (⟨(some 49), .call (.func 15) [(.tmp 42), (.tmp 48)] (.obj [(21, 1000000), (10000033, 11000000)] [] [] []), (some (41, false))⟩, [12, 18, 11, 11]),
          (⟨(some 50), .mov (.tmp 9), (some (41, false))⟩, [11]),
          (⟨(some 51), .bin .rem (.tmp 50) (.const (.int .i64 4)), (some (41, false))⟩, [20, 11]),
          (⟨(some 52), .bin .neq (.tmp 49) (.tmp 51), (some (41, false))⟩, [19, 21, 11]),
          (⟨(some 53), .pick (.tmp 41) (.const (.bool true)) (.tmp 52), none⟩, [11, 22])]
def lyV : MC :=
     .seq (
      .reg [⟨(some 28), .bin .lss (.tmp 27) (.tmp 26), none⟩]) (
     .trim [0, 1, 7, 8, 26, 27, 28] [21, 10000033] [] (
     .seq (
      .cond (.tmp 28) (
       .skip) (
       .exit 0)) (
     .trim [0, 1, 7, 8, 26, 27] [21, 10000033] [] (
     .seq (
      .block 1 (
       .seq (
        .reg [⟨(some 29), .mov (.tmp 27), none⟩,
         ⟨(some 9), .mov (.tmp 29), none⟩]) (
       .trim [0, 1, 7, 8, 9, 26, 27] [21, 10000033] [] (
       .seq (
        dlyV_0) (
       .trim [0, 1, 7, 8, 26, 27, 53] [21, 10000033] [] (
       .cond (.tmp 53) (
        .seq (
         .reg [⟨(some 6), .mov (.const (.bool false)), none⟩]) (
        .ret)) (
        .skip))))))) (
     .trim [0, 1, 7, 8, 26, 27] [21, 10000033] [] (
     .reg [⟨(some 54), .bin .add (.tmp 27) (.const (.int .i64 1)), none⟩,
      ⟨(some 27), .mov (.tmp 54), none⟩]))))))
def t3V : MC :=
 .seq (
  .reg [⟨(some 82), .mov (.tmp 7), none⟩,
   ⟨(some 83), .mov (.tmp 0), none⟩,
   ⟨(some 84), .call (.func 14) [(.tmp 82), (.tmp 83)] (.obj [(21, 1000000), (10000033, 11000000)] [] [] []), none⟩,
   ⟨(some 85), .mov (.tmp 10), none⟩,
   ⟨(some 86), .bin .eql (.tmp 84) (.tmp 85), none⟩,
   ⟨(some 87), .mov (.tmp 86), none⟩,
   ⟨(some 88), .mov (.tmp 8), (some (87, true))⟩,
   ⟨(some 89), .mov (.tmp 0), (some (87, true))⟩,
   ⟨(some 90), .call (.func 14) [(.tmp 88), (.tmp 89)] .pure, (some (87, true))⟩,
   ⟨(some 91), .mov (.tmp 10), (some (87, true))⟩,
   ⟨(some 92), .bin .eql (.tmp 90) (.tmp 91), (some (87, true))⟩,
   ⟨(some 93), .pick (.tmp 87) (.tmp 92) (.const (.bool false)), none⟩,
   ⟨(some 94), .mov (.tmp 93), none⟩,
   ⟨(some 95), .mov (.tmp 7), (some (94, true))⟩,
   ⟨(some 96), .mov (.tmp 1), (some (94, true))⟩,
   ⟨(some 97), .call (.func 15) [(.tmp 95), (.tmp 96)] (.obj [(21, 1000000), (10000033, 11000000)] [] [] []), (some (94, true))⟩,
   ⟨(some 98), .mov (.tmp 11), (some (94, true))⟩,
   ⟨(some 99), .bin .eql (.tmp 97) (.tmp 98), (some (94, true))⟩,
   ⟨(some 100), .pick (.tmp 94) (.tmp 99) (.const (.bool false)), none⟩,
   ⟨(some 101), .mov (.tmp 100), none⟩,
   ⟨(some 102), .mov (.tmp 8), (some (101, true))⟩,
   ⟨(some 103), .mov (.tmp 1), (some (101, true))⟩,
   ⟨(some 104), .call (.func 15) [(.tmp 102), (.tmp 103)] .pure, (some (101, true))⟩,
   ⟨(some 105), .mov (.tmp 11), (some (101, true))⟩,
   ⟨(some 106), .bin .eql (.tmp 104) (.tmp 105), (some (101, true))⟩,
   ⟨(some 107), .pick (.tmp 101) (.tmp 106) (.const (.bool false)), none⟩,
   ⟨(some 6), .mov (.tmp 107), none⟩]) (
 .ret)
def t2V : MC :=
 .seq (
  .seq (
   .reg [⟨(some 65), .mov (.tmp 1), none⟩,
    ⟨(some 66), .lenS (.tmp 65), none⟩,
    ⟨(some 67), .bin .eql (.tmp 66) (.const (.int .i64 1)), none⟩,
    ⟨(some 68), .mov (.tmp 67), none⟩,
    ⟨(some 69), .mov (.tmp 1), (some (68, true))⟩,
    ⟨(some 70), .idxS (.tmp 69) (.const (.int .i64 0)), (some (68, true))⟩,
    ⟨(some 71), .bin .geq (.tmp 70) (.const (.int .u8 97)), (some (68, true))⟩,
    ⟨(some 72), .pick (.tmp 68) (.tmp 71) (.const (.bool false)), none⟩,
    ⟨(some 73), .mov (.tmp 72), none⟩,
    ⟨(some 74), .mov (.tmp 1), (some (73, true))⟩,
    ⟨(some 75), .idxS (.tmp 74) (.const (.int .i64 0)), (some (73, true))⟩,
    ⟨(some 76), .bin .leq (.tmp 75) (.const (.int .u8 100)), (some (73, true))⟩,
    ⟨(some 77), .pick (.tmp 73) (.tmp 76) (.const (.bool false)), none⟩]) (
  .trim [0, 1, 7, 8, 10, 11, 77] [21, 10000033] [] (
  .cond (.tmp 77) (
   .reg [⟨(some 78), .mov (.tmp 1), none⟩,
    ⟨(some 79), .idxS (.tmp 78) (.const (.int .i64 0)), none⟩,
    ⟨(some 80), .bin .sub (.tmp 79) (.const (.int .u8 97)), none⟩,
    ⟨(some 81), .conv .i64 (.tmp 80), none⟩,
    ⟨(some 11), .mov (.tmp 81), none⟩]) (
   .skip)))) (
 .trim [0, 1, 7, 8, 10, 11] [21, 10000033] [] (t3V))
def t1V : MC :=
 .seq (
  .seq (
   .reg [⟨(some 55), .mov (.tmp 0), none⟩,
    ⟨(some 56), .bin .geq (.tmp 55) (.const (.int .i64 0)), none⟩,
    ⟨(some 57), .mov (.tmp 56), none⟩,
    ⟨(some 58), .mov (.tmp 0), (some (57, true))⟩,
    ⟨(some 59), .bin .lss (.tmp 58) (.const (.int .i64 4)), (some (57, true))⟩,
    ⟨(some 60), .pick (.tmp 57) (.tmp 59) (.const (.bool false)), none⟩]) (
  .trim [0, 1, 7, 8, 10, 11, 60] [21, 10000033] [] (
  .cond (.tmp 60) (
   .reg [⟨(some 61), .mov (.tmp 0), none⟩,
    ⟨(some 62), .mov (.tmp 0), none⟩,
    ⟨(some 63), .bin .add (.tmp 62) (.const (.int .i64 1)), none⟩,
    ⟨(some 64), .slcS (.const (.string ⟨#[97, 98, 99, 100]⟩)) (some (.tmp 61)) (some (.tmp 63)), none⟩,
    ⟨(some 10), .mov (.tmp 64), none⟩]) (
   .skip)))) (
 .trim [0, 1, 7, 8, 10, 11] [21, 10000033] [] (t2V))
def m5v : MC :=
 .seq (
  .reg [⟨(some 6), .mov (.const (.bool false)), none⟩]) (
 .trim [0, 1, 2] [] [] (
 .seq (
  .seq (
   .reg [⟨(some 12), .call (.func 9) [] .pure, none⟩,
    ⟨(some 13), .un .not (.tmp 12), none⟩,
    ⟨(some 14), .mov (.tmp 13), none⟩,
    ⟨(some 15), .mov (.tmp 1), (some (14, false))⟩,
    ⟨(some 16), .lenS (.tmp 15), (some (14, false))⟩,
    ⟨(some 17), .bin .gtr (.tmp 16) (.const (.int .i64 100)), (some (14, false))⟩,
    ⟨(some 18), .pick (.tmp 14) (.const (.bool true)) (.tmp 17), none⟩]) (
  .trim [0, 1, 2, 18] [] [] (
  .cond (.tmp 18) (
   .seq (
    .reg [⟨(some 19), .call (.func 9) [] .pure, none⟩,
     ⟨(some 6), .mov (.tmp 19), none⟩]) (
   .ret)) (
   .skip)))) (
 .trim [0, 1, 2] [] [] (
 .seq (
  .reg [⟨(some 20), .build [(.val (.int .u32 0)), (.val (.int .i32 0)), (.val (.int .u32 0)), (.val (.string ⟨#[]⟩)), (.val (.string ⟨#[]⟩)), (.val (.string ⟨#[]⟩)), (.val (.string ⟨#[]⟩)), (.val (.map none))] [], none⟩,
   ⟨(some 21), .box 47 8 (.tmp 20), none⟩,
   ⟨(some 7), .mov (.tmp 21), none⟩]) (
 .trim [0, 1, 2, 7] [21, 10000033] [] (
 .seq (
  .reg [⟨(some 8), .mov (.const (.pointer none)), none⟩]) (
 .trim [0, 1, 2, 7, 8] [21, 10000033] [] (
 .seq (
  .seq (
   .reg [⟨(some 22), .mov (.tmp 2), none⟩,
    ⟨(some 23), .conv .u64 (.tmp 22), none⟩,
    ⟨(some 24), .bin .rem (.tmp 23) (.const (.int .u64 8)), none⟩,
    ⟨(some 25), .conv .i64 (.tmp 24), none⟩,
    ⟨(some 26), .bin .add (.const (.int .i64 1)) (.tmp 25), none⟩,
    ⟨(some 27), .mov (.const (.int .i64 0)), none⟩]) (
  .trim [0, 1, 7, 8, 26, 27] [21, 10000033] [] (
  .block 0 (
   .loop2 (.trim [0, 1, 7, 8, 26, 27] [21, 10000033] [] (lyV)) (.trim [0, 1, 7, 8, 26, 27] [21, 10000033] [] (lxV)))))) (
 .trim [0, 1, 7, 8] [21, 10000033] [] (
 .seq (
  .reg [⟨(some 10), .mov (.const (.string ⟨#[]⟩)), none⟩,
   ⟨(some 11), .mov (.const (.int .i64 (-1))), none⟩]) (
 .trim [0, 1, 7, 8, 10, 11] [21, 10000033] [] (t1V))))))))))))
theorem r5v : Runs Tryd.prog 5 m5v.strip [.mov (.tmp 6)] 108 := ⟨by kernel_rfl, by kernel_rfl, Tryd.f5, Tryd.f5.body.getD .skip, Tryd.func5, by kernel_rfl, by kernel_rfl, by kernel_rfl, by kernel_rfl, by kernel_rfl⟩
end Go.Proofs
