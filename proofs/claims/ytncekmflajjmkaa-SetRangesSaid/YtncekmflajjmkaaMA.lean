/- The functions, as code of the value machine (printed by program). -/
import Derived.Test.YtncekmflajjmkaaVm24
import Derived.Test.YtncekmflajjmkaaProg
namespace Go.Proofs
open Go.Vm
/-- arbour/arbourlaw03.SetRanges -/
def m3 : MC :=
  .seq (
   .reg [⟨(some 2), .mov (.const (.bool false)), none⟩]) (
  .trim [0] [] [] (
  .seq (
   .seq (
    .reg [⟨(some 5), .call (.func 4) [] .pure, none⟩,
      ⟨(some 6), .un .not (.tmp 5), none⟩,
      ⟨(some 7), .mov (.tmp 6), none⟩,
      ⟨(some 8), .mov (.tmp 0), (some (7, false))⟩,
      ⟨(some 9), .lenL (.tmp 8), (some (7, false))⟩,
      ⟨(some 10), .bin .gtr (.tmp 9) (.const (.int .i64 60)), (some (7, false))⟩,
      ⟨(some 11), .pick (.tmp 7) (.const (.bool true)) (.tmp 10), none⟩]) (
   .trim [0, 11] [] [] (
   .cond (.tmp 11) (
     .seq (
      .reg [⟨(some 12), .call (.func 4) [] .pure, none⟩,
        ⟨(some 2), .mov (.tmp 12), none⟩]) (
     .ret)) (
     .skip)))) (
  .trim [0] [] [] (
  .seq (
   .reg [⟨(some 13), .bslice 33 2 [(.val (.int .i64 0)), (.val (.int .i64 0))] 0 [], none⟩,
     ⟨(some 14), .mov (.tmp 0), none⟩,
     ⟨(some 15), .append 33 2 16 (.tmp 13) (.tmp 14), none⟩,
     ⟨(some 16), .call (.func 5) [(.tmp 15)] .pure, none⟩,
     ⟨(some 17), .mov (.tmp 0), none⟩,
     ⟨(some 18), .call (.func 6) [(.tmp 17)] .pure, none⟩,
     ⟨(some 3), .mov (.tmp 16), none⟩,
     ⟨(some 4), .mov (.tmp 18), none⟩]) (
  .trim [3, 4] [] [] (
  .seq (
   .reg [⟨(some 19), .mov (.tmp 3), none⟩,
     ⟨(some 20), .build [(.val (.bool false)), (.sl none []), (.val (.bool false)), (.sl none [])] [(1, 1, (.tmp 19))], none⟩,
     ⟨(some 21), .mov (.tmp 4), none⟩,
     ⟨(some 22), .build [(.val (.bool false)), (.sl none []), (.val (.bool false)), (.sl none [])] [(1, 1, (.tmp 21))], none⟩,
     ⟨(some 23), .call (.func 7) [(.tmp 20), (.tmp 22)] .pure, none⟩,
     ⟨(some 24), .mov (.tmp 23), none⟩,
     ⟨(some 25), .mov (.tmp 3), (some (24, true))⟩,
     ⟨(some 26), .build [(.val (.bool false)), (.sl none []), (.val (.bool false)), (.sl none [])] [(1, 1, (.tmp 25))], (some (24, true))⟩,
     ⟨(some 27), .call (.func 8) [(.tmp 26)] .pure, (some (24, true))⟩,
     ⟨(some 28), .pick (.tmp 24) (.tmp 27) (.const (.bool false)), none⟩,
     ⟨(some 2), .mov (.tmp 28), none⟩]) (
  .ret)))))))
theorem r3 : Runs Try.prog 3 m3.strip [.mov (.tmp 2)] 29 := ⟨by kernel_rfl, by kernel_rfl, Try.f3, Try.f3.body.getD .skip, Try.func3, by kernel_rfl, by kernel_rfl, by kernel_rfl, by kernel_rfl, by kernel_rfl⟩

/-- arbour/arbourlaw03.awake -/
def m4 : MC :=
  .seq (
   .reg [⟨(some 0), .mov (.const (.bool false)), none⟩]) (
  .trim [] [] [] (
  .seq (
   .reg [⟨(some 3), .build [(.val (.int .i64 0)), (.val (.int .i64 0))] [(0, 1, (.const (.int .i64 1))), (1, 1, (.const (.int .i64 3)))], none⟩,
     ⟨(some 4), .build [(.val (.int .i64 0)), (.val (.int .i64 0))] [(0, 1, (.const (.int .i64 4))), (1, 1, (.const (.int .i64 5)))], none⟩,
     ⟨(some 5), .build [(.val (.int .i64 0)), (.val (.int .i64 0))] [(0, 1, (.const (.int .i64 9))), (1, 1, (.const (.int .i64 8)))], none⟩,
     ⟨(some 6), .bslice 33 2 [(.val (.int .i64 0)), (.val (.int .i64 0))] 3 [(0, 2, (.tmp 3)), (2, 2, (.tmp 4)), (4, 2, (.tmp 5))], none⟩,
     ⟨(some 7), .call (.func 5) [(.tmp 6)] .pure, none⟩,
     ⟨(some 1), .mov (.tmp 7), none⟩]) (
  .trim [1] [] [] (
  .seq (
   .reg [⟨(some 8), .build [(.val (.int .i64 0)), (.val (.int .i64 0))] [(0, 1, (.const (.int .i64 7))), (1, 1, (.const (.int .i64 7)))], none⟩,
     ⟨(some 9), .bslice 33 2 [(.val (.int .i64 0)), (.val (.int .i64 0))] 1 [(0, 2, (.tmp 8))], none⟩,
     ⟨(some 10), .build [(.val (.bool false)), (.sl none []), (.val (.bool false)), (.sl none [])] [(1, 1, (.tmp 9))], none⟩,
     ⟨(some 11), .call (.func 9) [(.tmp 10)] .pure, none⟩,
     ⟨(some 2), .alloc 29 [(.val (.bool false)), (.sl none []), (.val (.bool false)), (.sl none [])], none⟩,
     ⟨none, .store 4 (.tmp 2) (.tmp 11), none⟩]) (
  .trim [1, 2] [2] [] (
  .seq (
   .reg [⟨(some 12), .mov (.tmp 1), none⟩,
     ⟨(some 13), .lenL (.tmp 12), none⟩,
     ⟨(some 14), .bin .eql (.tmp 13) (.const (.int .i64 1)), none⟩,
     ⟨(some 15), .mov (.tmp 14), none⟩,
     ⟨(some 16), .mov (.tmp 1), (some (15, true))⟩,
     ⟨(some 17), .iaddrS 2 (.tmp 16) (.const (.int .i64 0)), (some (15, true))⟩,
     ⟨(some 18), .load (some 2) (.tmp 17), (some (15, true))⟩,
     ⟨(some 19), .build [(.val (.int .i64 0)), (.val (.int .i64 0))] [(0, 1, (.const (.int .i64 1))), (1, 1, (.const (.int .i64 5)))], (some (15, true))⟩,
     ⟨(some 20), .eqs false [.i, .i] (.tmp 18) (.tmp 19), (some (15, true))⟩,
     ⟨(some 21), .pick (.tmp 15) (.tmp 20) (.const (.bool false)), none⟩,
     ⟨(some 22), .mov (.tmp 21), none⟩,
     ⟨(some 23), .faddr 0 (.tmp 2), (some (22, true))⟩,
     ⟨(some 24), .load none (.tmp 23), (some (22, true))⟩,
     ⟨(some 25), .pick (.tmp 22) (.tmp 24) (.const (.bool false)), none⟩,
     ⟨(some 26), .mov (.tmp 25), none⟩,
     ⟨(some 27), .faddr 2 (.tmp 2), (some (26, true))⟩,
     ⟨(some 28), .load none (.tmp 27), (some (26, true))⟩,
     ⟨(some 29), .pick (.tmp 26) (.tmp 28) (.const (.bool false)), none⟩,
     ⟨(some 30), .mov (.tmp 29), none⟩,
     ⟨(some 31), .faddr 1 (.tmp 2), (some (30, true))⟩,
     ⟨(some 32), .load none (.tmp 31), (some (30, true))⟩,
     ⟨(some 33), .lenL (.tmp 32), (some (30, true))⟩,
     ⟨(some 34), .bin .eql (.tmp 33) (.const (.int .i64 2)), (some (30, true))⟩,
     ⟨(some 35), .pick (.tmp 30) (.tmp 34) (.const (.bool false)), none⟩,
     ⟨(some 36), .mov (.tmp 35), none⟩,
     ⟨(some 37), .faddr 1 (.tmp 2), (some (36, true))⟩,
     ⟨(some 38), .load none (.tmp 37), (some (36, true))⟩,
     ⟨(some 39), .iaddrS 2 (.tmp 38) (.const (.int .i64 0)), (some (36, true))⟩,
     ⟨(some 40), .faddr 1 (.tmp 39), (some (36, true))⟩,
     ⟨(some 41), .load none (.tmp 40), (some (36, true))⟩,
     ⟨(some 42), .bin .eql (.tmp 41) (.const (.int .i64 6)), (some (36, true))⟩,
     ⟨(some 43), .pick (.tmp 36) (.tmp 42) (.const (.bool false)), none⟩,
     ⟨(some 44), .mov (.tmp 43), none⟩,
     ⟨(some 45), .faddr 1 (.tmp 2), (some (44, true))⟩,
     ⟨(some 46), .load none (.tmp 45), (some (44, true))⟩,
     ⟨(some 47), .iaddrS 2 (.tmp 46) (.const (.int .i64 1)), (some (44, true))⟩,
     ⟨(some 48), .faddr 0 (.tmp 47), (some (44, true))⟩,
     ⟨(some 49), .load none (.tmp 48), (some (44, true))⟩,
     ⟨(some 50), .bin .eql (.tmp 49) (.const (.int .i64 8)), (some (44, true))⟩,
     ⟨(some 51), .pick (.tmp 44) (.tmp 50) (.const (.bool false)), none⟩,
     ⟨(some 52), .mov (.tmp 51), none⟩,
     ⟨(some 53), .load (some 4) (.tmp 2), (some (52, true))⟩,
     ⟨(some 54), .build [(.val (.int .i64 0)), (.val (.int .i64 0)), (.val (.string ⟨#[]⟩))] [(0, 1, (.const (.int .i64 2))), (2, 1, (.const (.string ⟨#[120]⟩)))], (some (52, true))⟩,
     ⟨(some 55), .call (.func 10) [(.tmp 53), (.tmp 54)] .pure, (some (52, true))⟩,
     ⟨(some 56), .pick (.tmp 52) (.tmp 55) (.const (.bool false)), none⟩,
     ⟨(some 57), .mov (.tmp 56), none⟩,
     ⟨(some 58), .load (some 4) (.tmp 2), (some (57, true))⟩,
     ⟨(some 59), .build [(.val (.int .i64 0)), (.val (.int .i64 0)), (.val (.string ⟨#[]⟩))] [(0, 1, (.const (.int .i64 1))), (1, 1, (.const (.int .i64 7)))], (some (57, true))⟩,
     ⟨(some 60), .call (.func 10) [(.tmp 58), (.tmp 59)] .pure, (some (57, true))⟩,
     ⟨(some 61), .un .not (.tmp 60), (some (57, true))⟩,
     ⟨(some 62), .pick (.tmp 57) (.tmp 61) (.const (.bool false)), none⟩,
     ⟨(some 63), .mov (.tmp 62), none⟩,
     ⟨(some 64), .build [(.val (.bool false)), (.sl none []), (.val (.bool false)), (.sl none [])] [], (some (63, true))⟩,
     ⟨(some 65), .call (.func 11) [(.tmp 64)] .pure, (some (63, true))⟩,
     ⟨(some 66), .pick (.tmp 63) (.tmp 65) (.const (.bool false)), none⟩,
     ⟨(some 67), .mov (.tmp 66), none⟩,
     ⟨(some 68), .call (.func 13) [] .pure, (some (67, true))⟩,
     ⟨(some 69), .build [(.val (.bool false)), (.sl none []), (.val (.bool false)), (.sl none [])] [], (some (67, true))⟩,
     ⟨(some 70), .call (.func 9) [(.tmp 69)] .pure, (some (67, true))⟩,
     ⟨(some 71), .call (.func 12) [(.tmp 68), (.tmp 70)] .pure, (some (67, true))⟩,
     ⟨(some 72), .pick (.tmp 67) (.tmp 71) (.const (.bool false)), none⟩,
     ⟨(some 0), .mov (.tmp 72), none⟩]) (
  .ret)))))))
theorem r4 : Runs Try.prog 4 m4.strip [.mov (.tmp 0)] 73 := ⟨by kernel_rfl, by kernel_rfl, Try.f4, Try.f4.body.getD .skip, Try.func4, by kernel_rfl, by kernel_rfl, by kernel_rfl, by kernel_rfl, by kernel_rfl⟩

/-- arbour/set.Ranges -/
def m5 : MC :=
  .seq (
   .reg [⟨(some 2), .nilsl 33 2, none⟩]) (
  .trim [0, 2] [] [(2, 33, 2), (7, 33, 2)] (
  .seq (
   .reg [⟨(some 6), .mov (.tmp 0), none⟩,
     ⟨(some 7), .call (.func 14) [(.tmp 6)] (.fresh 33 2), none⟩,
     ⟨(some 0), .mov (.tmp 7), none⟩]) (
  .trim [0, 2] [] [(2, 33, 2), (7, 33, 2)] (
  .seq (
   .reg [⟨(some 8), .mov (.tmp 0), none⟩,
     ⟨(some 9), .call (.func 15) [(.tmp 8), (.func 16)] .turn, none⟩]) (
  .trim [0, 2] [] [(2, 33, 2), (7, 33, 2)] (
  .seq (
   .seq (
    .reg [⟨(some 10), .mov (.tmp 0), none⟩,
      ⟨(some 11), .lenL (.tmp 10), none⟩,
      ⟨(some 12), .mov (.const (.int .i64 0)), none⟩]) (
   .trim [2, 10, 11, 12] [] [(2, 33, 2), (7, 33, 2)] (
   .block 0 (
    .loop (
     .trim [2, 10, 11, 12] [] [(2, 33, 2), (7, 33, 2)] (
     .seq (
      .reg [⟨(some 13), .bin .lss (.tmp 12) (.tmp 11), none⟩]) (
     .trim [2, 10, 11, 12, 13] [] [(2, 33, 2), (7, 33, 2)] (
     .seq (
      .cond (.tmp 13) (
        .skip) (
        .exit 0)) (
     .trim [2, 10, 11, 12] [] [(2, 33, 2), (7, 33, 2)] (
     .seq (
      .block 1 (
       .seq (
        .reg [⟨(some 14), .iaddrS 2 (.tmp 10) (.tmp 12), none⟩,
          ⟨(some 15), .load (some 2) (.tmp 14), none⟩,
          ⟨(some 4), .alloc 33 [(.val (.int .i64 0)), (.val (.int .i64 0))], none⟩,
          ⟨none, .store 2 (.tmp 4) (.tmp 15), none⟩]) (
       .trim [2, 4, 10, 11, 12] [4] [(2, 33, 2), (7, 33, 2)] (
       .seq (
        .seq (
         .reg [⟨(some 16), .faddr 0 (.tmp 4), none⟩,
           ⟨(some 17), .load none (.tmp 16), none⟩,
           ⟨(some 18), .faddr 1 (.tmp 4), none⟩,
           ⟨(some 19), .load none (.tmp 18), none⟩,
           ⟨(some 20), .bin .gtr (.tmp 17) (.tmp 19), none⟩]) (
        .trim [2, 4, 10, 11, 12, 20] [4] [(2, 33, 2), (7, 33, 2)] (
        .cond (.tmp 20) (
          .exit 1) (
          .skip)))) (
       .trim [2, 4, 10, 11, 12] [4] [(2, 33, 2), (7, 33, 2)] (
       .seq (
        .reg [⟨(some 21), .mov (.tmp 2), none⟩,
          ⟨(some 22), .lenL (.tmp 21), none⟩,
          ⟨(some 5), .mov (.tmp 22), none⟩]) (
       .trim [2, 4, 5, 10, 11, 12] [4] [(2, 33, 2), (7, 33, 2)] (
       .seq (
        .seq (
         .dreg 23 [⟨(some 23), .mov (.tmp 5), none⟩,
           ⟨(some 24), .bin .gtr (.tmp 23) (.const (.int .i64 0)), none⟩,
           ⟨(some 25), .mov (.tmp 24), none⟩,
           ⟨(some 26), .mov (.tmp 2), (some (25, true))⟩,
           ⟨(some 27), .mov (.tmp 5), (some (25, true))⟩,
           ⟨(some 28), .bin .sub (.tmp 27) (.const (.int .i64 1)), (some (25, true))⟩,
           ⟨(some 29), .iaddrS 2 (.tmp 26) (.tmp 28), (some (25, true))⟩,
           ⟨(some 30), .faddr 1 (.tmp 29), (some (25, true))⟩,
           ⟨(some 31), .load none (.tmp 30), (some (25, true))⟩,
           ⟨(some 32), .bin .eql (.tmp 31) (.const (.int .i64 9223372036854775807)), (some (25, true))⟩,
           ⟨(some 33), .mov (.tmp 32), (some (25, true))⟩,
           ⟨(some 34), .faddr 0 (.tmp 4), (some (33, false))⟩,
           ⟨(some 35), .load none (.tmp 34), (some (33, false))⟩,
           ⟨(some 36), .mov (.tmp 2), (some (33, false))⟩,
           ⟨(some 37), .mov (.tmp 5), (some (33, false))⟩,
           ⟨(some 38), .bin .sub (.tmp 37) (.const (.int .i64 1)), (some (33, false))⟩,
           ⟨(some 39), .iaddrS 2 (.tmp 36) (.tmp 38), (some (33, false))⟩,
           ⟨(some 40), .faddr 1 (.tmp 39), (some (33, false))⟩,
           ⟨(some 41), .load none (.tmp 40), (some (33, false))⟩,
           ⟨(some 42), .bin .add (.tmp 41) (.const (.int .i64 1)), (some (33, false))⟩,
           ⟨(some 43), .bin .leq (.tmp 35) (.tmp 42), (some (33, false))⟩,
           ⟨(some 44), .pick (.tmp 33) (.const (.bool true)) (.tmp 43), (some (25, true))⟩,
           ⟨(some 45), .pick (.tmp 25) (.tmp 44) (.const (.bool false)), none⟩]) (
        .trim [2, 4, 5, 10, 11, 12, 45] [4] [(2, 33, 2), (7, 33, 2)] (
        .cond (.tmp 45) (
          .seq (
           .dreg 14 [⟨(some 46), .mov (.tmp 2), none⟩,
             ⟨(some 47), .mov (.tmp 5), none⟩,
             ⟨(some 48), .bin .sub (.tmp 47) (.const (.int .i64 1)), none⟩,
             ⟨(some 49), .mov (.tmp 2), none⟩,
             ⟨(some 50), .mov (.tmp 5), none⟩,
             ⟨(some 51), .bin .sub (.tmp 50) (.const (.int .i64 1)), none⟩,
             ⟨(some 52), .iaddrS 2 (.tmp 49) (.tmp 51), none⟩,
             ⟨(some 53), .faddr 1 (.tmp 52), none⟩,
             ⟨(some 54), .load none (.tmp 53), none⟩,
             ⟨(some 55), .faddr 1 (.tmp 4), none⟩,
             ⟨(some 56), .load none (.tmp 55), none⟩,
             ⟨(some 57), .minmax true [(.tmp 54), (.tmp 56)], none⟩,
             ⟨(some 58), .iaddrS 2 (.tmp 46) (.tmp 48), none⟩,
             ⟨(some 59), .faddr 1 (.tmp 58), none⟩,
             ⟨none, .store 1 (.tmp 59) (.tmp 57), none⟩]) (
          .exit 1)) (
          .skip)))) (
       .trim [2, 4, 10, 11, 12] [4] [(7, 33, 2), (2, 33, 2)] (
       .reg [⟨(some 60), .mov (.tmp 2), none⟩,
         ⟨(some 61), .load (some 2) (.tmp 4), none⟩,
         ⟨(some 62), .bslice 33 2 [(.val (.int .i64 0)), (.val (.int .i64 0))] 1 [(0, 2, (.tmp 61))], none⟩,
         ⟨(some 63), .append 33 2 16 (.tmp 60) (.tmp 62), none⟩,
         ⟨(some 2), .mov (.tmp 63), none⟩])))))))))) (
     .trim [2, 10, 11, 12] [] [(2, 33, 2), (7, 33, 2)] (
     .reg [⟨(some 64), .bin .add (.tmp 12) (.const (.int .i64 1)), none⟩,
       ⟨(some 12), .mov (.tmp 64), none⟩])))))))))))) (
  .trim [2] [] [(2, 33, 2)] (
  .seq (
   .reg [⟨(some 65), .mov (.tmp 2), none⟩,
     ⟨(some 2), .mov (.tmp 65), none⟩]) (
  .ret)))))))))
theorem r5 : Runs Try.prog 5 m5.strip [.mov (.tmp 2)] 66 := ⟨by kernel_rfl, by kernel_rfl, Try.f5, Try.f5.body.getD .skip, Try.func5, by kernel_rfl, by kernel_rfl, by kernel_rfl, by kernel_rfl, by kernel_rfl⟩

/-- arbour/arbourref03.Ranges -/
def m6 : MC :=
  .seq (
   .reg [⟨(some 2), .nilsl 33 2, none⟩]) (
  .trim [0] [] [] (
  .seq (
   .reg [⟨(some 3), .nilsl 33 2, none⟩]) (
  .trim [0, 3] [] [(3, 33, 2)] (
  .block 0 (
   .loop (
    .trim [0, 3] [] [(3, 33, 2)] (
    .block 1 (
     .seq (
      .reg [⟨(some 4), .mov (.const (.int .i64 (-1))), none⟩]) (
     .trim [0, 3, 4] [] [(3, 33, 2)] (
     .seq (
      .seq (
       .reg [⟨(some 5), .mov (.const (.int .i64 0)), none⟩]) (
      .trim [0, 3, 4, 5] [] [(3, 33, 2)] (
      .block 2 (
       .loop (
        .trim [0, 3, 4, 5] [] [(3, 33, 2)] (
        .seq (
         .seq (
          .reg [⟨(some 8), .mov (.tmp 5), none⟩,
            ⟨(some 9), .mov (.tmp 0), none⟩,
            ⟨(some 10), .lenL (.tmp 9), none⟩,
            ⟨(some 11), .bin .lss (.tmp 8) (.tmp 10), none⟩]) (
         .trim [0, 3, 4, 5, 11] [] [(3, 33, 2)] (
         .cond (.tmp 11) (
           .skip) (
           .exit 2)))) (
        .trim [0, 3, 4, 5] [] [(3, 33, 2)] (
        .seq (
         .block 3 (
          .seq (
           .reg [⟨(some 14), .mov (.tmp 0), none⟩,
             ⟨(some 15), .mov (.tmp 5), none⟩,
             ⟨(some 16), .iaddrS 2 (.tmp 14) (.tmp 15), none⟩,
             ⟨(some 17), .load (some 2) (.tmp 16), none⟩,
             ⟨(some 6), .alloc 33 [(.val (.int .i64 0)), (.val (.int .i64 0))], none⟩,
             ⟨none, .store 2 (.tmp 6) (.tmp 17), none⟩]) (
          .trim [0, 3, 4, 5, 6] [6] [(3, 33, 2)] (
          .seq (
           .seq (
            .dreg 22 [⟨(some 18), .faddr 0 (.tmp 6), none⟩,
              ⟨(some 19), .load none (.tmp 18), none⟩,
              ⟨(some 20), .faddr 1 (.tmp 6), none⟩,
              ⟨(some 21), .load none (.tmp 20), none⟩,
              ⟨(some 22), .bin .gtr (.tmp 19) (.tmp 21), none⟩,
              ⟨(some 23), .mov (.tmp 22), none⟩,
              ⟨(some 24), .mov (.tmp 3), (some (23, false))⟩,
              ⟨(some 25), .lenL (.tmp 24), (some (23, false))⟩,
              ⟨(some 26), .bin .gtr (.tmp 25) (.const (.int .i64 0)), (some (23, false))⟩,
              ⟨(some 27), .mov (.tmp 26), (some (23, false))⟩,
              ⟨(some 28), .faddr 1 (.tmp 6), (some (27, true))⟩,
              ⟨(some 29), .load none (.tmp 28), (some (27, true))⟩,
              ⟨(some 30), .mov (.tmp 3), (some (27, true))⟩,
              ⟨(some 31), .mov (.tmp 3), (some (27, true))⟩,
              ⟨(some 32), .lenL (.tmp 31), (some (27, true))⟩,
              ⟨(some 33), .bin .sub (.tmp 32) (.const (.int .i64 1)), (some (27, true))⟩,
              ⟨(some 34), .iaddrS 2 (.tmp 30) (.tmp 33), (some (27, true))⟩,
              ⟨(some 35), .faddr 1 (.tmp 34), (some (27, true))⟩,
              ⟨(some 36), .load none (.tmp 35), (some (27, true))⟩,
              ⟨(some 37), .bin .leq (.tmp 29) (.tmp 36), (some (27, true))⟩,
              ⟨(some 38), .pick (.tmp 27) (.tmp 37) (.const (.bool false)), (some (23, false))⟩,
              ⟨(some 39), .pick (.tmp 23) (.const (.bool true)) (.tmp 38), none⟩]) (
           .trim [0, 3, 4, 5, 6, 39] [6] [(3, 33, 2)] (
           .cond (.tmp 39) (
             .exit 3) (
             .skip)))) (
          .trim [0, 3, 4, 5, 6] [6] [(3, 33, 2)] (
          .seq (
           .dreg 32 [⟨(some 40), .mov (.tmp 4), none⟩,
             ⟨(some 41), .bin .lss (.tmp 40) (.const (.int .i64 0)), none⟩,
             ⟨(some 42), .mov (.tmp 41), none⟩,
             ⟨(some 43), .faddr 0 (.tmp 6), (some (42, false))⟩,
             ⟨(some 44), .load none (.tmp 43), (some (42, false))⟩,
             ⟨(some 45), .mov (.tmp 0), (some (42, false))⟩,
             ⟨(some 46), .mov (.tmp 4), (some (42, false))⟩,
             ⟨(some 47), .iaddrS 2 (.tmp 45) (.tmp 46), (some (42, false))⟩,
             ⟨(some 48), .faddr 0 (.tmp 47), (some (42, false))⟩,
             ⟨(some 49), .load none (.tmp 48), (some (42, false))⟩,
             ⟨(some 50), .bin .lss (.tmp 44) (.tmp 49), (some (42, false))⟩,
             ⟨(some 51), .pick (.tmp 42) (.const (.bool true)) (.tmp 50), none⟩,
             ⟨(some 52), .mov (.tmp 51), none⟩,
             ⟨(some 53), .faddr 0 (.tmp 6), (some (52, false))⟩,
             ⟨(some 54), .load none (.tmp 53), (some (52, false))⟩,
             ⟨(some 55), .mov (.tmp 0), (some (52, false))⟩,
             ⟨(some 56), .mov (.tmp 4), (some (52, false))⟩,
             ⟨(some 57), .iaddrS 2 (.tmp 55) (.tmp 56), (some (52, false))⟩,
             ⟨(some 58), .faddr 0 (.tmp 57), (some (52, false))⟩,
             ⟨(some 59), .load none (.tmp 58), (some (52, false))⟩,
             ⟨(some 60), .bin .eql (.tmp 54) (.tmp 59), (some (52, false))⟩,
             ⟨(some 61), .mov (.tmp 60), (some (52, false))⟩,
             ⟨(some 62), .faddr 1 (.tmp 6), (some (61, true))⟩,
             ⟨(some 63), .load none (.tmp 62), (some (61, true))⟩,
             ⟨(some 64), .mov (.tmp 0), (some (61, true))⟩,
             ⟨(some 65), .mov (.tmp 4), (some (61, true))⟩,
             ⟨(some 66), .iaddrS 2 (.tmp 64) (.tmp 65), (some (61, true))⟩,
             ⟨(some 67), .faddr 1 (.tmp 66), (some (61, true))⟩,
             ⟨(some 68), .load none (.tmp 67), (some (61, true))⟩,
             ⟨(some 69), .bin .gtr (.tmp 63) (.tmp 68), (some (61, true))⟩,
             ⟨(some 70), .pick (.tmp 61) (.tmp 69) (.const (.bool false)), (some (52, false))⟩,
             ⟨(some 71), .pick (.tmp 52) (.const (.bool true)) (.tmp 70), none⟩]) (
          .trim [0, 3, 4, 5, 71] [] [(3, 33, 2)] (
          .cond (.tmp 71) (
            .reg [⟨(some 72), .mov (.tmp 5), none⟩,
              ⟨(some 4), .mov (.tmp 72), none⟩]) (
            .skip))))))))) (
        .trim [0, 3, 4, 5] [] [(3, 33, 2)] (
        .reg [⟨(some 12), .mov (.tmp 5), none⟩,
          ⟨(some 13), .bin .add (.tmp 12) (.const (.int .i64 1)), none⟩,
          ⟨(some 5), .mov (.tmp 13), none⟩])))))))))) (
     .trim [0, 3, 4] [] [(3, 33, 2)] (
     .seq (
      .seq (
       .reg [⟨(some 73), .mov (.tmp 4), none⟩,
         ⟨(some 74), .bin .lss (.tmp 73) (.const (.int .i64 0)), none⟩]) (
      .trim [0, 3, 4, 74] [] [(3, 33, 2)] (
      .cond (.tmp 74) (
        .seq (
         .reg [⟨(some 75), .mov (.tmp 3), none⟩,
           ⟨(some 2), .mov (.tmp 75), none⟩]) (
        .ret)) (
        .skip)))) (
     .trim [0, 3, 4] [] [(3, 33, 2)] (
     .seq (
      .reg [⟨(some 76), .mov (.tmp 0), none⟩,
        ⟨(some 77), .mov (.tmp 4), none⟩,
        ⟨(some 78), .iaddrS 2 (.tmp 76) (.tmp 77), none⟩,
        ⟨(some 79), .load (some 2) (.tmp 78), none⟩,
        ⟨(some 7), .alloc 33 [(.val (.int .i64 0)), (.val (.int .i64 0))], none⟩,
        ⟨none, .store 2 (.tmp 7) (.tmp 79), none⟩]) (
     .trim [0, 3, 7] [7] [(3, 33, 2)] (
     .seq (
      .dreg 16 [⟨(some 80), .mov (.tmp 3), none⟩,
        ⟨(some 81), .lenL (.tmp 80), none⟩,
        ⟨(some 82), .bin .gtr (.tmp 81) (.const (.int .i64 0)), none⟩,
        ⟨(some 83), .mov (.tmp 82), none⟩,
        ⟨(some 84), .faddr 0 (.tmp 7), (some (83, true))⟩,
        ⟨(some 85), .load none (.tmp 84), (some (83, true))⟩,
        ⟨(some 86), .mov (.tmp 3), (some (83, true))⟩,
        ⟨(some 87), .mov (.tmp 3), (some (83, true))⟩,
        ⟨(some 88), .lenL (.tmp 87), (some (83, true))⟩,
        ⟨(some 89), .bin .sub (.tmp 88) (.const (.int .i64 1)), (some (83, true))⟩,
        ⟨(some 90), .iaddrS 2 (.tmp 86) (.tmp 89), (some (83, true))⟩,
        ⟨(some 91), .faddr 1 (.tmp 90), (some (83, true))⟩,
        ⟨(some 92), .load none (.tmp 91), (some (83, true))⟩,
        ⟨(some 93), .bin .add (.tmp 92) (.const (.int .i64 1)), (some (83, true))⟩,
        ⟨(some 94), .bin .leq (.tmp 85) (.tmp 93), (some (83, true))⟩,
        ⟨(some 95), .pick (.tmp 83) (.tmp 94) (.const (.bool false)), none⟩]) (
     .trim [0, 3, 7, 95] [7] [(3, 33, 2)] (
     .cond (.tmp 95) (
       .reg [⟨(some 96), .mov (.tmp 3), none⟩,
         ⟨(some 97), .mov (.tmp 3), none⟩,
         ⟨(some 98), .lenL (.tmp 97), none⟩,
         ⟨(some 99), .bin .sub (.tmp 98) (.const (.int .i64 1)), none⟩,
         ⟨(some 100), .faddr 1 (.tmp 7), none⟩,
         ⟨(some 101), .load none (.tmp 100), none⟩,
         ⟨(some 102), .iaddrS 2 (.tmp 96) (.tmp 99), none⟩,
         ⟨(some 103), .faddr 1 (.tmp 102), none⟩,
         ⟨none, .store 1 (.tmp 103) (.tmp 101), none⟩]) (
       .reg [⟨(some 104), .mov (.tmp 3), none⟩,
         ⟨(some 105), .load (some 2) (.tmp 7), none⟩,
         ⟨(some 106), .bslice 33 2 [(.val (.int .i64 0)), (.val (.int .i64 0))] 1 [(0, 2, (.tmp 105))], none⟩,
         ⟨(some 107), .append 33 2 16 (.tmp 104) (.tmp 106), none⟩,
         ⟨(some 3), .mov (.tmp 107), none⟩])))))))))))))))))))
theorem r6 : Runs Try.prog 6 m6.strip [.mov (.tmp 2)] 108 := ⟨by kernel_rfl, by kernel_rfl, Try.f6, Try.f6.body.getD .skip, Try.func6, by kernel_rfl, by kernel_rfl, by kernel_rfl, by kernel_rfl, by kernel_rfl⟩

/-- arbour/arbourref03.Same -/
def m7 : MC :=
  .seq (
   .reg [⟨(some 2), .box 29 4 (.tmp 0), none⟩,
     ⟨(some 3), .box 29 4 (.tmp 1), none⟩,
     ⟨(some 4), .mov (.const (.bool false)), none⟩]) (
  .trim [2, 3] [2, 3] [] (
  .seq (
   .seq (
    .reg [⟨(some 7), .faddr 0 (.tmp 2), none⟩,
      ⟨(some 8), .load none (.tmp 7), none⟩,
      ⟨(some 9), .faddr 0 (.tmp 3), none⟩,
      ⟨(some 10), .load none (.tmp 9), none⟩,
      ⟨(some 11), .binB true (.tmp 8) (.tmp 10), none⟩,
      ⟨(some 12), .mov (.tmp 11), none⟩,
      ⟨(some 13), .faddr 2 (.tmp 2), (some (12, false))⟩,
      ⟨(some 14), .load none (.tmp 13), (some (12, false))⟩,
      ⟨(some 15), .faddr 2 (.tmp 3), (some (12, false))⟩,
      ⟨(some 16), .load none (.tmp 15), (some (12, false))⟩,
      ⟨(some 17), .binB true (.tmp 14) (.tmp 16), (some (12, false))⟩,
      ⟨(some 18), .pick (.tmp 12) (.const (.bool true)) (.tmp 17), none⟩,
      ⟨(some 19), .mov (.tmp 18), none⟩,
      ⟨(some 20), .faddr 1 (.tmp 2), (some (19, false))⟩,
      ⟨(some 21), .load none (.tmp 20), (some (19, false))⟩,
      ⟨(some 22), .lenL (.tmp 21), (some (19, false))⟩,
      ⟨(some 23), .faddr 1 (.tmp 3), (some (19, false))⟩,
      ⟨(some 24), .load none (.tmp 23), (some (19, false))⟩,
      ⟨(some 25), .lenL (.tmp 24), (some (19, false))⟩,
      ⟨(some 26), .bin .neq (.tmp 22) (.tmp 25), (some (19, false))⟩,
      ⟨(some 27), .pick (.tmp 19) (.const (.bool true)) (.tmp 26), none⟩,
      ⟨(some 28), .mov (.tmp 27), none⟩,
      ⟨(some 29), .faddr 3 (.tmp 2), (some (28, false))⟩,
      ⟨(some 30), .load none (.tmp 29), (some (28, false))⟩,
      ⟨(some 31), .lenL (.tmp 30), (some (28, false))⟩,
      ⟨(some 32), .faddr 3 (.tmp 3), (some (28, false))⟩,
      ⟨(some 33), .load none (.tmp 32), (some (28, false))⟩,
      ⟨(some 34), .lenL (.tmp 33), (some (28, false))⟩,
      ⟨(some 35), .bin .neq (.tmp 31) (.tmp 34), (some (28, false))⟩,
      ⟨(some 36), .pick (.tmp 28) (.const (.bool true)) (.tmp 35), none⟩]) (
   .trim [2, 3, 36] [2, 3] [] (
   .cond (.tmp 36) (
     .seq (
      .reg [⟨(some 4), .mov (.const (.bool false)), none⟩]) (
     .ret)) (
     .skip)))) (
  .trim [2, 3] [2, 3] [] (
  .seq (
   .seq (
    .reg [⟨(some 5), .mov (.const (.int .i64 0)), none⟩]) (
   .trim [2, 3, 5] [2, 3] [] (
   .block 0 (
    .loop (
     .trim [2, 3, 5] [2, 3] [] (
     .seq (
      .seq (
       .reg [⟨(some 37), .mov (.tmp 5), none⟩,
         ⟨(some 38), .faddr 1 (.tmp 2), none⟩,
         ⟨(some 39), .load none (.tmp 38), none⟩,
         ⟨(some 40), .lenL (.tmp 39), none⟩,
         ⟨(some 41), .bin .lss (.tmp 37) (.tmp 40), none⟩]) (
      .trim [2, 3, 5, 41] [2, 3] [] (
      .cond (.tmp 41) (
        .skip) (
        .exit 0)))) (
     .trim [2, 3, 5] [2, 3] [] (
     .seq (
      .block 1 (
       .seq (
        .dreg 11 [⟨(some 44), .faddr 1 (.tmp 2), none⟩,
          ⟨(some 45), .load none (.tmp 44), none⟩,
          ⟨(some 46), .mov (.tmp 5), none⟩,
          ⟨(some 47), .iaddrS 2 (.tmp 45) (.tmp 46), none⟩,
          ⟨(some 48), .load (some 2) (.tmp 47), none⟩,
          ⟨(some 49), .faddr 1 (.tmp 3), none⟩,
          ⟨(some 50), .load none (.tmp 49), none⟩,
          ⟨(some 51), .mov (.tmp 5), none⟩,
          ⟨(some 52), .iaddrS 2 (.tmp 50) (.tmp 51), none⟩,
          ⟨(some 53), .load (some 2) (.tmp 52), none⟩,
          ⟨(some 54), .eqs true [.i, .i] (.tmp 48) (.tmp 53), none⟩]) (
       .trim [2, 3, 5, 54] [2, 3] [] (
       .cond (.tmp 54) (
         .seq (
          .reg [⟨(some 4), .mov (.const (.bool false)), none⟩]) (
         .ret)) (
         .skip))))) (
     .trim [2, 3, 5] [2, 3] [] (
     .reg [⟨(some 42), .mov (.tmp 5), none⟩,
       ⟨(some 43), .bin .add (.tmp 42) (.const (.int .i64 1)), none⟩,
       ⟨(some 5), .mov (.tmp 43), none⟩])))))))))) (
  .trim [2, 3] [2, 3] [] (
  .seq (
   .seq (
    .reg [⟨(some 6), .mov (.const (.int .i64 0)), none⟩]) (
   .trim [2, 3, 6] [2, 3] [] (
   .block 2 (
    .loop (
     .trim [2, 3, 6] [2, 3] [] (
     .seq (
      .seq (
       .reg [⟨(some 55), .mov (.tmp 6), none⟩,
         ⟨(some 56), .faddr 3 (.tmp 2), none⟩,
         ⟨(some 57), .load none (.tmp 56), none⟩,
         ⟨(some 58), .lenL (.tmp 57), none⟩,
         ⟨(some 59), .bin .lss (.tmp 55) (.tmp 58), none⟩]) (
      .trim [2, 3, 6, 59] [2, 3] [] (
      .cond (.tmp 59) (
        .skip) (
        .exit 2)))) (
     .trim [2, 3, 6] [2, 3] [] (
     .seq (
      .block 3 (
       .seq (
        .dreg 11 [⟨(some 62), .faddr 3 (.tmp 2), none⟩,
          ⟨(some 63), .load none (.tmp 62), none⟩,
          ⟨(some 64), .mov (.tmp 6), none⟩,
          ⟨(some 65), .iaddrS 1 (.tmp 63) (.tmp 64), none⟩,
          ⟨(some 66), .load none (.tmp 65), none⟩,
          ⟨(some 67), .faddr 3 (.tmp 3), none⟩,
          ⟨(some 68), .load none (.tmp 67), none⟩,
          ⟨(some 69), .mov (.tmp 6), none⟩,
          ⟨(some 70), .iaddrS 1 (.tmp 68) (.tmp 69), none⟩,
          ⟨(some 71), .load none (.tmp 70), none⟩,
          ⟨(some 72), .bin .neq (.tmp 66) (.tmp 71), none⟩]) (
       .trim [2, 3, 6, 72] [2, 3] [] (
       .cond (.tmp 72) (
         .seq (
          .reg [⟨(some 4), .mov (.const (.bool false)), none⟩]) (
         .ret)) (
         .skip))))) (
     .trim [2, 3, 6] [2, 3] [] (
     .reg [⟨(some 60), .mov (.tmp 6), none⟩,
       ⟨(some 61), .bin .add (.tmp 60) (.const (.int .i64 1)), none⟩,
       ⟨(some 6), .mov (.tmp 61), none⟩])))))))))) (
  .trim [] [] [] (
  .seq (
   .reg [⟨(some 4), .mov (.const (.bool true)), none⟩]) (
  .ret)))))))))
theorem r7 : Runs Try.prog 7 m7.strip [.mov (.tmp 4)] 73 := ⟨by kernel_rfl, by kernel_rfl, Try.f7, Try.f7.body.getD .skip, Try.func7, by kernel_rfl, by kernel_rfl, by kernel_rfl, by kernel_rfl, by kernel_rfl⟩

/-- arbour/arbourref03.Right -/
def m8 : MC :=
  .seq (
   .reg [⟨(some 1), .box 29 4 (.tmp 0), none⟩,
     ⟨(some 2), .mov (.const (.bool false)), none⟩]) (
  .trim [1] [1] [] (
  .seq (
   .seq (
    .reg [⟨(some 3), .mov (.const (.int .i64 0)), none⟩]) (
   .trim [1, 3] [1] [] (
   .block 0 (
    .loop (
     .trim [1, 3] [1] [] (
     .seq (
      .seq (
       .reg [⟨(some 6), .mov (.tmp 3), none⟩,
         ⟨(some 7), .faddr 1 (.tmp 1), none⟩,
         ⟨(some 8), .load none (.tmp 7), none⟩,
         ⟨(some 9), .lenL (.tmp 8), none⟩,
         ⟨(some 10), .bin .lss (.tmp 6) (.tmp 9), none⟩]) (
      .trim [1, 3, 10] [1] [] (
      .cond (.tmp 10) (
        .skip) (
        .exit 0)))) (
     .trim [1, 3] [1] [] (
     .seq (
      .block 1 (
       .seq (
        .reg [⟨(some 13), .faddr 1 (.tmp 1), none⟩,
          ⟨(some 14), .load none (.tmp 13), none⟩,
          ⟨(some 15), .mov (.tmp 3), none⟩,
          ⟨(some 16), .iaddrS 2 (.tmp 14) (.tmp 15), none⟩,
          ⟨(some 17), .load (some 2) (.tmp 16), none⟩,
          ⟨(some 4), .alloc 33 [(.val (.int .i64 0)), (.val (.int .i64 0))], none⟩,
          ⟨none, .store 2 (.tmp 4) (.tmp 17), none⟩]) (
       .trim [1, 3, 4] [1, 4] [] (
       .seq (
        .seq (
         .reg [⟨(some 18), .faddr 0 (.tmp 4), none⟩,
           ⟨(some 19), .load none (.tmp 18), none⟩,
           ⟨(some 20), .faddr 1 (.tmp 4), none⟩,
           ⟨(some 21), .load none (.tmp 20), none⟩,
           ⟨(some 22), .bin .gtr (.tmp 19) (.tmp 21), none⟩]) (
        .trim [1, 3, 4, 22] [1, 4] [] (
        .cond (.tmp 22) (
          .seq (
           .reg [⟨(some 2), .mov (.const (.bool false)), none⟩]) (
          .ret)) (
          .skip)))) (
       .trim [1, 3, 4] [1, 4] [] (
       .seq (
        .dreg 27 [⟨(some 23), .mov (.tmp 3), none⟩,
          ⟨(some 24), .bin .gtr (.tmp 23) (.const (.int .i64 0)), none⟩,
          ⟨(some 25), .mov (.tmp 24), none⟩,
          ⟨(some 26), .faddr 1 (.tmp 1), (some (25, true))⟩,
          ⟨(some 27), .load none (.tmp 26), (some (25, true))⟩,
          ⟨(some 28), .mov (.tmp 3), (some (25, true))⟩,
          ⟨(some 29), .bin .sub (.tmp 28) (.const (.int .i64 1)), (some (25, true))⟩,
          ⟨(some 30), .iaddrS 2 (.tmp 27) (.tmp 29), (some (25, true))⟩,
          ⟨(some 31), .faddr 1 (.tmp 30), (some (25, true))⟩,
          ⟨(some 32), .load none (.tmp 31), (some (25, true))⟩,
          ⟨(some 33), .faddr 0 (.tmp 4), (some (25, true))⟩,
          ⟨(some 34), .load none (.tmp 33), (some (25, true))⟩,
          ⟨(some 35), .bin .geq (.tmp 32) (.tmp 34), (some (25, true))⟩,
          ⟨(some 36), .mov (.tmp 35), (some (25, true))⟩,
          ⟨(some 37), .faddr 1 (.tmp 1), (some (36, false))⟩,
          ⟨(some 38), .load none (.tmp 37), (some (36, false))⟩,
          ⟨(some 39), .mov (.tmp 3), (some (36, false))⟩,
          ⟨(some 40), .bin .sub (.tmp 39) (.const (.int .i64 1)), (some (36, false))⟩,
          ⟨(some 41), .iaddrS 2 (.tmp 38) (.tmp 40), (some (36, false))⟩,
          ⟨(some 42), .faddr 1 (.tmp 41), (some (36, false))⟩,
          ⟨(some 43), .load none (.tmp 42), (some (36, false))⟩,
          ⟨(some 44), .bin .add (.tmp 43) (.const (.int .i64 1)), (some (36, false))⟩,
          ⟨(some 45), .faddr 0 (.tmp 4), (some (36, false))⟩,
          ⟨(some 46), .load none (.tmp 45), (some (36, false))⟩,
          ⟨(some 47), .bin .geq (.tmp 44) (.tmp 46), (some (36, false))⟩,
          ⟨(some 48), .pick (.tmp 36) (.const (.bool true)) (.tmp 47), (some (25, true))⟩,
          ⟨(some 49), .pick (.tmp 25) (.tmp 48) (.const (.bool false)), none⟩]) (
       .trim [1, 3, 49] [1] [] (
       .cond (.tmp 49) (
         .seq (
          .reg [⟨(some 2), .mov (.const (.bool false)), none⟩]) (
         .ret)) (
         .skip))))))))) (
     .trim [1, 3] [1] [] (
     .reg [⟨(some 11), .mov (.tmp 3), none⟩,
       ⟨(some 12), .bin .add (.tmp 11) (.const (.int .i64 1)), none⟩,
       ⟨(some 3), .mov (.tmp 12), none⟩])))))))))) (
  .trim [1] [1] [] (
  .seq (
   .seq (
    .reg [⟨(some 5), .mov (.const (.int .i64 0)), none⟩]) (
   .trim [1, 5] [1] [] (
   .block 2 (
    .loop (
     .trim [1, 5] [1] [] (
     .seq (
      .seq (
       .reg [⟨(some 50), .mov (.tmp 5), none⟩,
         ⟨(some 51), .faddr 3 (.tmp 1), none⟩,
         ⟨(some 52), .load none (.tmp 51), none⟩,
         ⟨(some 53), .lenL (.tmp 52), none⟩,
         ⟨(some 54), .bin .lss (.tmp 50) (.tmp 53), none⟩]) (
      .trim [1, 5, 54] [1] [] (
      .cond (.tmp 54) (
        .skip) (
        .exit 2)))) (
     .trim [1, 5] [1] [] (
     .seq (
      .block 3 (
       .seq (
        .dreg 25 [⟨(some 57), .faddr 3 (.tmp 1), none⟩,
          ⟨(some 58), .load none (.tmp 57), none⟩,
          ⟨(some 59), .mov (.tmp 5), none⟩,
          ⟨(some 60), .iaddrS 1 (.tmp 58) (.tmp 59), none⟩,
          ⟨(some 61), .load none (.tmp 60), none⟩,
          ⟨(some 62), .lenS (.tmp 61), none⟩,
          ⟨(some 63), .bin .gtr (.tmp 62) (.const (.int .i64 8)), none⟩,
          ⟨(some 64), .mov (.tmp 63), none⟩,
          ⟨(some 65), .mov (.tmp 5), (some (64, false))⟩,
          ⟨(some 66), .bin .gtr (.tmp 65) (.const (.int .i64 0)), (some (64, false))⟩,
          ⟨(some 67), .mov (.tmp 66), (some (64, false))⟩,
          ⟨(some 68), .faddr 3 (.tmp 1), (some (67, true))⟩,
          ⟨(some 69), .load none (.tmp 68), (some (67, true))⟩,
          ⟨(some 70), .mov (.tmp 5), (some (67, true))⟩,
          ⟨(some 71), .bin .sub (.tmp 70) (.const (.int .i64 1)), (some (67, true))⟩,
          ⟨(some 72), .iaddrS 1 (.tmp 69) (.tmp 71), (some (67, true))⟩,
          ⟨(some 73), .load none (.tmp 72), (some (67, true))⟩,
          ⟨(some 74), .faddr 3 (.tmp 1), (some (67, true))⟩,
          ⟨(some 75), .load none (.tmp 74), (some (67, true))⟩,
          ⟨(some 76), .mov (.tmp 5), (some (67, true))⟩,
          ⟨(some 77), .iaddrS 1 (.tmp 75) (.tmp 76), (some (67, true))⟩,
          ⟨(some 78), .load none (.tmp 77), (some (67, true))⟩,
          ⟨(some 79), .bin .geq (.tmp 73) (.tmp 78), (some (67, true))⟩,
          ⟨(some 80), .pick (.tmp 67) (.tmp 79) (.const (.bool false)), (some (64, false))⟩,
          ⟨(some 81), .pick (.tmp 64) (.const (.bool true)) (.tmp 80), none⟩]) (
       .trim [1, 5, 81] [1] [] (
       .cond (.tmp 81) (
         .seq (
          .reg [⟨(some 2), .mov (.const (.bool false)), none⟩]) (
         .ret)) (
         .skip))))) (
     .trim [1, 5] [1] [] (
     .reg [⟨(some 55), .mov (.tmp 5), none⟩,
       ⟨(some 56), .bin .add (.tmp 55) (.const (.int .i64 1)), none⟩,
       ⟨(some 5), .mov (.tmp 56), none⟩])))))))))) (
  .trim [] [] [] (
  .seq (
   .reg [⟨(some 2), .mov (.const (.bool true)), none⟩]) (
  .ret)))))))
theorem r8 : Runs Try.prog 8 m8.strip [.mov (.tmp 2)] 82 := ⟨by kernel_rfl, by kernel_rfl, Try.f8, Try.f8.body.getD .skip, Try.func8, by kernel_rfl, by kernel_rfl, by kernel_rfl, by kernel_rfl, by kernel_rfl⟩

/-- arbour/set.Not -/
def m9 : MC :=
  .seq (
   .reg [⟨(some 1), .box 29 4 (.tmp 0), none⟩,
     ⟨(some 2), .alloc 29 [(.val (.bool false)), (.sl none []), (.val (.bool false)), (.sl none [])], none⟩]) (
  .trim [1, 2] [1, 2] [] (
  .seq (
   .dreg 14 [⟨(some 3), .faddr 0 (.tmp 1), none⟩,
     ⟨(some 4), .load none (.tmp 3), none⟩,
     ⟨(some 5), .un .not (.tmp 4), none⟩,
     ⟨(some 6), .faddr 1 (.tmp 1), none⟩,
     ⟨(some 7), .load none (.tmp 6), none⟩,
     ⟨(some 8), .call (.func 5) [(.tmp 7)] .pure, none⟩,
     ⟨(some 9), .call (.func 18) [(.tmp 8)] .pure, none⟩,
     ⟨(some 10), .faddr 2 (.tmp 1), none⟩,
     ⟨(some 11), .load none (.tmp 10), none⟩,
     ⟨(some 12), .un .not (.tmp 11), none⟩,
     ⟨(some 13), .faddr 3 (.tmp 1), none⟩,
     ⟨(some 14), .load none (.tmp 13), none⟩,
     ⟨(some 15), .call (.func 19) [(.tmp 14)] .pure, none⟩,
     ⟨(some 16), .build [(.val (.bool false)), (.sl none []), (.val (.bool false)), (.sl none [])] [(0, 1, (.tmp 5)), (1, 1, (.tmp 9)), (2, 1, (.tmp 12)), (3, 1, (.tmp 15))], none⟩,
     ⟨none, .store 4 (.tmp 2) (.tmp 16), none⟩]) (
  .ret)))
theorem r9 : Runs Try.prog 9 m9.strip [.load (some 4) (.tmp 2)] 17 := ⟨by kernel_rfl, by kernel_rfl, Try.f9, Try.f9.body.getD .skip, Try.func9, by kernel_rfl, by kernel_rfl, by kernel_rfl, by kernel_rfl, by kernel_rfl⟩

/-- arbour/set.Has -/
def m10 : MC :=
  .seq (
   .reg [⟨(some 2), .box 29 4 (.tmp 0), none⟩,
     ⟨(some 3), .box 37 3 (.tmp 1), none⟩,
     ⟨(some 4), .mov (.const (.bool false)), none⟩]) (
  .trim [2, 3] [2, 3] [] (
  .fzb 3 (
  .seq (
   .block 0 (
    .seq (
     .reg [⟨(some 6), .load (some 3) (.tmp 3), none⟩,
       ⟨(some 7), .call (.func 20) [(.tmp 6)] .pure, none⟩,
       ⟨(some 8), .un .not (.tmp 7), none⟩,
       ⟨(some 5), .mov (.tmp 8), none⟩]) (
    .trim [2, 3, 5] [2, 3] [] (
    .cond (.tmp 5) (
      .seq (
       .reg [⟨(some 4), .mov (.const (.bool false)), none⟩]) (
      .ret)) (
      .seq (
       .reg [⟨(some 10), .faddr 0 (.tmp 3), none⟩,
         ⟨(some 11), .load none (.tmp 10), none⟩,
         ⟨(some 12), .bin .eql (.tmp 11) (.const (.int .i64 1)), none⟩,
         ⟨(some 9), .mov (.tmp 12), none⟩]) (
      .trim [2, 3, 9] [2, 3] [] (
      .cond (.tmp 9) (
        .seq (
         .reg [⟨(some 13), .faddr 1 (.tmp 2), none⟩,
           ⟨(some 14), .load none (.tmp 13), none⟩,
           ⟨(some 15), .mkfn 22 [] [(.tmp 3)], none⟩,
           ⟨(some 16), .call (.func 21) [(.tmp 14), (.tmp 15)] .pure, none⟩,
           ⟨(some 4), .mov (.tmp 16), none⟩]) (
        .ret)) (
        .seq (
         .reg [⟨(some 18), .faddr 0 (.tmp 3), none⟩,
           ⟨(some 19), .load none (.tmp 18), none⟩,
           ⟨(some 20), .bin .eql (.tmp 19) (.const (.int .i64 2)), none⟩,
           ⟨(some 17), .mov (.tmp 20), none⟩]) (
        .trim [2, 3, 17] [2, 3] [] (
        .cond (.tmp 17) (
          .seq (
           .dreg 9 [⟨(some 21), .faddr 3 (.tmp 2), none⟩,
             ⟨(some 22), .load none (.tmp 21), none⟩,
             ⟨(some 23), .faddr 2 (.tmp 3), none⟩,
             ⟨(some 24), .load none (.tmp 23), none⟩,
             ⟨(some 25), .call (.func 23) [(.tmp 22), (.tmp 24)] .pure, none⟩,
             ⟨(some 26), .faddr 2 (.tmp 2), none⟩,
             ⟨(some 27), .load none (.tmp 26), none⟩,
             ⟨(some 28), .binB true (.tmp 25) (.tmp 27), none⟩,
             ⟨(some 4), .mov (.tmp 28), none⟩]) (
          .ret)) (
          .skip))))))))))) (
  .trim [2] [2] [] (
  .seq (
   .reg [⟨(some 29), .faddr 0 (.tmp 2), none⟩,
     ⟨(some 30), .load none (.tmp 29), none⟩,
     ⟨(some 4), .mov (.tmp 30), none⟩]) (
  .ret))))))
theorem r10 : Runs Try.prog 10 m10.strip [.mov (.tmp 4)] 31 := ⟨by kernel_rfl, by kernel_rfl, Try.f10, Try.f10.body.getD .skip, Try.func10, by kernel_rfl, by kernel_rfl, by kernel_rfl, by kernel_rfl, by kernel_rfl⟩

/-- arbour/set.Empty -/
def m11 : MC :=
  .seq (
   .reg [⟨(some 1), .box 29 4 (.tmp 0), none⟩,
     ⟨(some 2), .mov (.const (.bool false)), none⟩]) (
  .trim [1] [1] [] (
  .seq (
   .reg [⟨(some 3), .faddr 0 (.tmp 1), none⟩,
     ⟨(some 4), .load none (.tmp 3), none⟩,
     ⟨(some 5), .un .not (.tmp 4), none⟩,
     ⟨(some 6), .mov (.tmp 5), none⟩,
     ⟨(some 7), .faddr 1 (.tmp 1), (some (6, true))⟩,
     ⟨(some 8), .load none (.tmp 7), (some (6, true))⟩,
     ⟨(some 9), .lenL (.tmp 8), (some (6, true))⟩,
     ⟨(some 10), .bin .eql (.tmp 9) (.const (.int .i64 0)), (some (6, true))⟩,
     ⟨(some 11), .pick (.tmp 6) (.tmp 10) (.const (.bool false)), none⟩,
     ⟨(some 12), .mov (.tmp 11), none⟩,
     ⟨(some 13), .faddr 2 (.tmp 1), (some (12, true))⟩,
     ⟨(some 14), .load none (.tmp 13), (some (12, true))⟩,
     ⟨(some 15), .un .not (.tmp 14), (some (12, true))⟩,
     ⟨(some 16), .pick (.tmp 12) (.tmp 15) (.const (.bool false)), none⟩,
     ⟨(some 17), .mov (.tmp 16), none⟩,
     ⟨(some 18), .faddr 3 (.tmp 1), (some (17, true))⟩,
     ⟨(some 19), .load none (.tmp 18), (some (17, true))⟩,
     ⟨(some 20), .lenL (.tmp 19), (some (17, true))⟩,
     ⟨(some 21), .bin .eql (.tmp 20) (.const (.int .i64 0)), (some (17, true))⟩,
     ⟨(some 22), .pick (.tmp 17) (.tmp 21) (.const (.bool false)), none⟩,
     ⟨(some 2), .mov (.tmp 22), none⟩]) (
  .ret)))
theorem r11 : Runs Try.prog 11 m11.strip [.mov (.tmp 2)] 23 := ⟨by kernel_rfl, by kernel_rfl, Try.f11, Try.f11.body.getD .skip, Try.func11, by kernel_rfl, by kernel_rfl, by kernel_rfl, by kernel_rfl, by kernel_rfl⟩

/-- arbour/set.Same -/
def m12 : MC :=
  .seq (
   .reg [⟨(some 2), .box 29 4 (.tmp 0), none⟩,
     ⟨(some 3), .box 29 4 (.tmp 1), none⟩,
     ⟨(some 4), .mov (.const (.bool false)), none⟩]) (
  .trim [2, 3] [2, 3] [] (
  .seq (
   .reg [⟨(some 5), .faddr 0 (.tmp 2), none⟩,
     ⟨(some 6), .load none (.tmp 5), none⟩,
     ⟨(some 7), .faddr 0 (.tmp 3), none⟩,
     ⟨(some 8), .load none (.tmp 7), none⟩,
     ⟨(some 9), .binB false (.tmp 6) (.tmp 8), none⟩,
     ⟨(some 10), .mov (.tmp 9), none⟩,
     ⟨(some 11), .faddr 2 (.tmp 2), (some (10, true))⟩,
     ⟨(some 12), .load none (.tmp 11), (some (10, true))⟩,
     ⟨(some 13), .faddr 2 (.tmp 3), (some (10, true))⟩,
     ⟨(some 14), .load none (.tmp 13), (some (10, true))⟩,
     ⟨(some 15), .binB false (.tmp 12) (.tmp 14), (some (10, true))⟩,
     ⟨(some 16), .pick (.tmp 10) (.tmp 15) (.const (.bool false)), none⟩,
     ⟨(some 17), .mov (.tmp 16), none⟩,
     ⟨(some 18), .faddr 1 (.tmp 2), (some (17, true))⟩,
     ⟨(some 19), .load none (.tmp 18), (some (17, true))⟩,
     ⟨(some 20), .faddr 1 (.tmp 3), (some (17, true))⟩,
     ⟨(some 21), .load none (.tmp 20), (some (17, true))⟩,
     ⟨(some 22), .call (.func 24) [(.tmp 19), (.tmp 21)] .pure, (some (17, true))⟩,
     ⟨(some 23), .pick (.tmp 17) (.tmp 22) (.const (.bool false)), none⟩,
     ⟨(some 24), .mov (.tmp 23), none⟩,
     ⟨(some 25), .faddr 3 (.tmp 2), (some (24, true))⟩,
     ⟨(some 26), .load none (.tmp 25), (some (24, true))⟩,
     ⟨(some 27), .faddr 3 (.tmp 3), (some (24, true))⟩,
     ⟨(some 28), .load none (.tmp 27), (some (24, true))⟩,
     ⟨(some 29), .call (.func 25) [(.tmp 26), (.tmp 28)] .pure, (some (24, true))⟩,
     ⟨(some 30), .pick (.tmp 24) (.tmp 29) (.const (.bool false)), none⟩,
     ⟨(some 4), .mov (.tmp 30), none⟩]) (
  .ret)))
theorem r12 : Runs Try.prog 12 m12.strip [.mov (.tmp 4)] 31 := ⟨by kernel_rfl, by kernel_rfl, Try.f12, Try.f12.body.getD .skip, Try.func12, by kernel_rfl, by kernel_rfl, by kernel_rfl, by kernel_rfl, by kernel_rfl⟩

/-- arbour/set.All -/
def m13 : MC :=
  .seq (
   .reg [⟨(some 0), .alloc 29 [(.val (.bool false)), (.sl none []), (.val (.bool false)), (.sl none [])], none⟩]) (
  .trim [0] [0] [(2, 33, 2)] (
  .seq (
   .reg [⟨(some 1), .build [(.val (.int .i64 0)), (.val (.int .i64 0))] [(0, 1, (.const (.int .i64 (-9223372036854775808)))), (1, 1, (.const (.int .i64 9223372036854775807)))], none⟩,
     ⟨(some 2), .bslice 33 2 [(.val (.int .i64 0)), (.val (.int .i64 0))] 1 [(0, 2, (.tmp 1))], none⟩,
     ⟨(some 3), .build [(.val (.bool false)), (.sl none []), (.val (.bool false)), (.sl none [])] [(0, 1, (.const (.bool true))), (1, 1, (.tmp 2)), (2, 1, (.const (.bool true)))], none⟩,
     ⟨none, .store 4 (.tmp 0) (.tmp 3), none⟩]) (
  .ret)))
theorem r13 : Runs Try.prog 13 m13.strip [.load (some 4) (.tmp 0)] 4 := ⟨by kernel_rfl, by kernel_rfl, Try.f13, Try.f13.body.getD .skip, Try.func13, by kernel_rfl, by kernel_rfl, by kernel_rfl, by kernel_rfl, by kernel_rfl⟩

/-- slices.Clone[[]arbour/api.Range,arbour/api.Range] -/
def m14 : MC :=
  .seq (
   .reg [⟨(some 2), .nilsl 33 2, none⟩]) (
  .trim [0] [] [] (
  .seq (
   .seq (
    .reg [⟨(some 3), .mov (.tmp 0), none⟩,
      ⟨(some 4), .isnil false (.tmp 3), none⟩]) (
   .trim [0, 4] [] [] (
   .cond (.tmp 4) (
     .seq (
      .reg [⟨(some 2), .nilsl 33 2, none⟩]) (
     .ret)) (
     .skip)))) (
  .trim [0] [] [] (
  .seq (
   .reg [⟨(some 5), .bslice 33 2 [(.val (.int .i64 0)), (.val (.int .i64 0))] 0 [], none⟩,
     ⟨(some 6), .mov (.tmp 0), none⟩,
     ⟨(some 7), .append 33 2 16 (.tmp 5) (.tmp 6), none⟩,
     ⟨(some 2), .mov (.tmp 7), none⟩]) (
  .ret)))))
theorem r14 : Runs Try.prog 14 m14.strip [.mov (.tmp 2)] 8 := ⟨by kernel_rfl, by kernel_rfl, Try.f14, Try.f14.body.getD .skip, Try.func14, by kernel_rfl, by kernel_rfl, by kernel_rfl, by kernel_rfl, by kernel_rfl⟩

/-- arbour/set.Ranges$1 -/
def m16 : MC :=
  .seq (
   .reg [⟨(some 2), .box 33 2 (.tmp 0), none⟩,
     ⟨(some 3), .box 33 2 (.tmp 1), none⟩,
     ⟨(some 4), .mov (.const (.int .i64 0)), none⟩]) (
  .trim [2, 3] [2, 3] [] (
  .seq (
   .reg [⟨(some 5), .faddr 0 (.tmp 2), none⟩,
     ⟨(some 6), .load none (.tmp 5), none⟩,
     ⟨(some 7), .faddr 0 (.tmp 3), none⟩,
     ⟨(some 8), .load none (.tmp 7), none⟩,
     ⟨(some 9), .call (.func 17) [(.tmp 6), (.tmp 8)] .pure, none⟩,
     ⟨(some 4), .mov (.tmp 9), none⟩]) (
  .ret)))
theorem r16 : Runs Try.prog 16 m16.strip [.mov (.tmp 4)] 10 := ⟨by kernel_rfl, by kernel_rfl, Try.f16, Try.f16.body.getD .skip, Try.func16, by kernel_rfl, by kernel_rfl, by kernel_rfl, by kernel_rfl, by kernel_rfl⟩

/-- cmp.Compare[int] -/
def m17 : MC :=
  .seq (
   .reg [⟨(some 4), .mov (.const (.int .i64 0)), none⟩]) (
  .trim [0, 1] [] [] (
  .seq (
   .reg [⟨(some 7), .mov (.tmp 0), none⟩,
     ⟨(some 8), .call (.func 28) [(.tmp 7)] .pure, none⟩,
     ⟨(some 5), .mov (.tmp 8), none⟩]) (
  .trim [0, 1, 5] [] [] (
  .seq (
   .reg [⟨(some 9), .mov (.tmp 1), none⟩,
     ⟨(some 10), .call (.func 28) [(.tmp 9)] .pure, none⟩,
     ⟨(some 6), .mov (.tmp 10), none⟩]) (
  .trim [0, 1, 5, 6] [] [] (
  .seq (
   .seq (
    .reg [⟨(some 11), .mov (.tmp 5), none⟩]) (
   .trim [0, 1, 6, 11] [] [] (
   .cond (.tmp 11) (
     .seq (
      .seq (
       .reg [⟨(some 12), .mov (.tmp 6), none⟩]) (
      .trim [12] [] [] (
      .cond (.tmp 12) (
        .seq (
         .reg [⟨(some 4), .mov (.const (.int .i64 0)), none⟩]) (
        .ret)) (
        .skip)))) (
     .trim [] [] [] (
     .seq (
      .reg [⟨(some 4), .mov (.const (.int .i64 (-1))), none⟩]) (
     .ret)))) (
     .skip)))) (
  .trim [0, 1, 6] [] [] (
  .seq (
   .seq (
    .reg [⟨(some 13), .mov (.tmp 6), none⟩]) (
   .trim [0, 1, 13] [] [] (
   .cond (.tmp 13) (
     .seq (
      .reg [⟨(some 4), .mov (.const (.int .i64 1)), none⟩]) (
     .ret)) (
     .skip)))) (
  .trim [0, 1] [] [] (
  .seq (
   .seq (
    .reg [⟨(some 14), .mov (.tmp 0), none⟩,
      ⟨(some 15), .mov (.tmp 1), none⟩,
      ⟨(some 16), .bin .lss (.tmp 14) (.tmp 15), none⟩]) (
   .trim [0, 1, 16] [] [] (
   .cond (.tmp 16) (
     .seq (
      .reg [⟨(some 4), .mov (.const (.int .i64 (-1))), none⟩]) (
     .ret)) (
     .skip)))) (
  .trim [0, 1] [] [] (
  .seq (
   .seq (
    .reg [⟨(some 17), .mov (.tmp 0), none⟩,
      ⟨(some 18), .mov (.tmp 1), none⟩,
      ⟨(some 19), .bin .gtr (.tmp 17) (.tmp 18), none⟩]) (
   .trim [19] [] [] (
   .cond (.tmp 19) (
     .seq (
      .reg [⟨(some 4), .mov (.const (.int .i64 1)), none⟩]) (
     .ret)) (
     .skip)))) (
  .trim [] [] [] (
  .seq (
   .reg [⟨(some 4), .mov (.const (.int .i64 0)), none⟩]) (
  .ret)))))))))))))))
theorem r17 : Runs Try.prog 17 m17.strip [.mov (.tmp 4)] 20 := ⟨by kernel_rfl, by kernel_rfl, Try.f17, Try.f17.body.getD .skip, Try.func17, by kernel_rfl, by kernel_rfl, by kernel_rfl, by kernel_rfl, by kernel_rfl⟩

/-- arbour/set.gaps -/
def m18 : MC :=
  .seq (
   .reg [⟨(some 2), .nilsl 33 2, none⟩]) (
  .trim [0, 2] [] [(2, 33, 2)] (
  .seq (
   .reg [⟨(some 3), .mov (.const (.int .i64 (-9223372036854775808))), none⟩]) (
  .trim [0, 2, 3] [] [(2, 33, 2)] (
  .seq (
   .seq (
    .reg [⟨(some 6), .mov (.tmp 0), none⟩,
      ⟨(some 7), .lenL (.tmp 6), none⟩,
      ⟨(some 8), .mov (.const (.int .i64 0)), none⟩]) (
   .trim [2, 3, 6, 7, 8] [] [(2, 33, 2)] (
   .block 0 (
    .loop (
     .trim [2, 3, 6, 7, 8] [] [(2, 33, 2)] (
     .seq (
      .reg [⟨(some 9), .bin .lss (.tmp 8) (.tmp 7), none⟩]) (
     .trim [2, 3, 6, 7, 8, 9] [] [(2, 33, 2)] (
     .seq (
      .cond (.tmp 9) (
        .skip) (
        .exit 0)) (
     .trim [2, 3, 6, 7, 8] [] [(2, 33, 2)] (
     .seq (
      .block 1 (
       .seq (
        .reg [⟨(some 10), .iaddrS 2 (.tmp 6) (.tmp 8), none⟩,
          ⟨(some 11), .load (some 2) (.tmp 10), none⟩,
          ⟨(some 5), .alloc 33 [(.val (.int .i64 0)), (.val (.int .i64 0))], none⟩,
          ⟨none, .store 2 (.tmp 5) (.tmp 11), none⟩]) (
       .trim [2, 3, 5, 6, 7, 8] [5] [(2, 33, 2)] (
       .seq (
        .seq (
         .reg [⟨(some 12), .faddr 0 (.tmp 5), none⟩,
           ⟨(some 13), .load none (.tmp 12), none⟩,
           ⟨(some 14), .mov (.tmp 3), none⟩,
           ⟨(some 15), .bin .gtr (.tmp 13) (.tmp 14), none⟩]) (
        .trim [2, 3, 5, 6, 7, 8, 15] [5] [(2, 33, 2)] (
        .cond (.tmp 15) (
          .reg [⟨(some 16), .mov (.tmp 2), none⟩,
            ⟨(some 17), .mov (.tmp 3), none⟩,
            ⟨(some 18), .faddr 0 (.tmp 5), none⟩,
            ⟨(some 19), .load none (.tmp 18), none⟩,
            ⟨(some 20), .bin .sub (.tmp 19) (.const (.int .i64 1)), none⟩,
            ⟨(some 21), .build [(.val (.int .i64 0)), (.val (.int .i64 0))] [(0, 1, (.tmp 17)), (1, 1, (.tmp 20))], none⟩,
            ⟨(some 22), .bslice 33 2 [(.val (.int .i64 0)), (.val (.int .i64 0))] 1 [(0, 2, (.tmp 21))], none⟩,
            ⟨(some 23), .append 33 2 16 (.tmp 16) (.tmp 22), none⟩,
            ⟨(some 2), .mov (.tmp 23), none⟩]) (
          .skip)))) (
       .trim [2, 5, 6, 7, 8] [5] [(2, 33, 2)] (
       .seq (
        .seq (
         .reg [⟨(some 24), .faddr 1 (.tmp 5), none⟩,
           ⟨(some 25), .load none (.tmp 24), none⟩,
           ⟨(some 26), .bin .eql (.tmp 25) (.const (.int .i64 9223372036854775807)), none⟩]) (
        .trim [2, 5, 6, 7, 8, 26] [5] [(2, 33, 2)] (
        .cond (.tmp 26) (
          .seq (
           .reg [⟨(some 27), .mov (.tmp 2), none⟩,
             ⟨(some 2), .mov (.tmp 27), none⟩]) (
          .ret)) (
          .skip)))) (
       .trim [2, 5, 6, 7, 8] [5] [(2, 33, 2)] (
       .reg [⟨(some 28), .faddr 1 (.tmp 5), none⟩,
         ⟨(some 29), .load none (.tmp 28), none⟩,
         ⟨(some 30), .bin .add (.tmp 29) (.const (.int .i64 1)), none⟩,
         ⟨(some 3), .mov (.tmp 30), none⟩])))))))) (
     .trim [2, 3, 6, 7, 8] [] [(2, 33, 2)] (
     .reg [⟨(some 31), .bin .add (.tmp 8) (.const (.int .i64 1)), none⟩,
       ⟨(some 8), .mov (.tmp 31), none⟩])))))))))))) (
  .trim [2, 3] [] [(2, 33, 2)] (
  .seq (
   .reg [⟨(some 32), .mov (.tmp 2), none⟩,
     ⟨(some 33), .mov (.tmp 3), none⟩,
     ⟨(some 34), .build [(.val (.int .i64 0)), (.val (.int .i64 0))] [(0, 1, (.tmp 33)), (1, 1, (.const (.int .i64 9223372036854775807)))], none⟩,
     ⟨(some 35), .bslice 33 2 [(.val (.int .i64 0)), (.val (.int .i64 0))] 1 [(0, 2, (.tmp 34))], none⟩,
     ⟨(some 36), .append 33 2 16 (.tmp 32) (.tmp 35), none⟩,
     ⟨(some 2), .mov (.tmp 36), none⟩]) (
  .ret)))))))
theorem r18 : Runs Try.prog 18 m18.strip [.mov (.tmp 2)] 37 := ⟨by kernel_rfl, by kernel_rfl, Try.f18, Try.f18.body.getD .skip, Try.func18, by kernel_rfl, by kernel_rfl, by kernel_rfl, by kernel_rfl, by kernel_rfl⟩

/-- slices.Clone[[]string,string] -/
def m19 : MC :=
  .seq (
   .reg [⟨(some 2), .nilsl 9 1, none⟩]) (
  .trim [0] [] [] (
  .seq (
   .seq (
    .reg [⟨(some 3), .mov (.tmp 0), none⟩,
      ⟨(some 4), .isnil false (.tmp 3), none⟩]) (
   .trim [0, 4] [] [] (
   .cond (.tmp 4) (
     .seq (
      .reg [⟨(some 2), .nilsl 9 1, none⟩]) (
     .ret)) (
     .skip)))) (
  .trim [0] [] [] (
  .seq (
   .reg [⟨(some 5), .bslice 9 1 [(.val (.string ⟨#[]⟩))] 0 [], none⟩,
     ⟨(some 6), .mov (.tmp 0), none⟩,
     ⟨(some 7), .append 9 1 16 (.tmp 5) (.tmp 6), none⟩,
     ⟨(some 2), .mov (.tmp 7), none⟩]) (
  .ret)))))
theorem r19 : Runs Try.prog 19 m19.strip [.mov (.tmp 2)] 8 := ⟨by kernel_rfl, by kernel_rfl, Try.f19, Try.f19.body.getD .skip, Try.func19, by kernel_rfl, by kernel_rfl, by kernel_rfl, by kernel_rfl, by kernel_rfl⟩

/-- arbour/value.Right -/
def m20 : MC :=
  .seq (
   .reg [⟨(some 1), .box 37 3 (.tmp 0), none⟩,
     ⟨(some 2), .mov (.const (.bool false)), none⟩]) (
  .trim [1] [1] [] (
  .seq (
   .seq (
    .reg [⟨(some 3), .faddr 0 (.tmp 1), none⟩,
      ⟨(some 4), .load none (.tmp 3), none⟩]) (
   .trim [1, 4] [1] [] (
   .block 0 (
    .seq (
     .reg [⟨(some 6), .bin .eql (.tmp 4) (.const (.int .i64 0)), none⟩,
       ⟨(some 5), .mov (.tmp 6), none⟩]) (
    .trim [1, 4, 5] [1] [] (
    .cond (.tmp 5) (
      .seq (
       .reg [⟨(some 7), .load (some 3) (.tmp 1), none⟩,
         ⟨(some 8), .build [(.val (.int .i64 0)), (.val (.int .i64 0)), (.val (.string ⟨#[]⟩))] [], none⟩,
         ⟨(some 9), .eqs false [.i, .i, .s] (.tmp 7) (.tmp 8), none⟩,
         ⟨(some 2), .mov (.tmp 9), none⟩]) (
      .ret)) (
      .seq (
       .reg [⟨(some 11), .bin .eql (.tmp 4) (.const (.int .i64 1)), none⟩,
         ⟨(some 10), .mov (.tmp 11), none⟩]) (
      .trim [1, 4, 10] [1] [] (
      .cond (.tmp 10) (
        .seq (
         .reg [⟨(some 12), .faddr 2 (.tmp 1), none⟩,
           ⟨(some 13), .load none (.tmp 12), none⟩,
           ⟨(some 14), .bin .eql (.tmp 13) (.const (.string ⟨#[]⟩)), none⟩,
           ⟨(some 2), .mov (.tmp 14), none⟩]) (
        .ret)) (
        .seq (
         .reg [⟨(some 16), .bin .eql (.tmp 4) (.const (.int .i64 2)), none⟩,
           ⟨(some 15), .mov (.tmp 16), none⟩]) (
        .trim [1, 15] [1] [] (
        .cond (.tmp 15) (
          .seq (
           .reg [⟨(some 17), .faddr 1 (.tmp 1), none⟩,
             ⟨(some 18), .load none (.tmp 17), none⟩,
             ⟨(some 19), .bin .eql (.tmp 18) (.const (.int .i64 0)), none⟩,
             ⟨(some 20), .mov (.tmp 19), none⟩,
             ⟨(some 21), .faddr 2 (.tmp 1), (some (20, true))⟩,
             ⟨(some 22), .load none (.tmp 21), (some (20, true))⟩,
             ⟨(some 23), .lenS (.tmp 22), (some (20, true))⟩,
             ⟨(some 24), .bin .leq (.tmp 23) (.const (.int .i64 8)), (some (20, true))⟩,
             ⟨(some 25), .pick (.tmp 20) (.tmp 24) (.const (.bool false)), none⟩,
             ⟨(some 2), .mov (.tmp 25), none⟩]) (
          .ret)) (
          .skip))))))))))))) (
  .trim [] [] [] (
  .seq (
   .reg [⟨(some 2), .mov (.const (.bool false)), none⟩]) (
  .ret)))))
theorem r20 : Runs Try.prog 20 m20.strip [.mov (.tmp 2)] 26 := ⟨by kernel_rfl, by kernel_rfl, Try.f20, Try.f20.body.getD .skip, Try.func20, by kernel_rfl, by kernel_rfl, by kernel_rfl, by kernel_rfl, by kernel_rfl⟩

/-- slices.ContainsFunc[[]arbour/api.Range,arbour/api.Range] -/
def m21 : MC :=
  .seq (
   .reg [⟨(some 4), .mov (.const (.bool false)), none⟩]) (
  .trim [0, 1] [] [] (
  .seq (
   .reg [⟨(some 5), .mov (.tmp 0), none⟩,
     ⟨(some 6), .mov (.tmp 1), none⟩,
     ⟨(some 7), .call (.func 29) [(.tmp 5), (.tmp 6)] .pure, none⟩,
     ⟨(some 8), .bin .geq (.tmp 7) (.const (.int .i64 0)), none⟩,
     ⟨(some 4), .mov (.tmp 8), none⟩]) (
  .ret)))
theorem r21 : Runs Try.prog 21 m21.strip [.mov (.tmp 4)] 9 := ⟨by kernel_rfl, by kernel_rfl, Try.f21, Try.f21.body.getD .skip, Try.func21, by kernel_rfl, by kernel_rfl, by kernel_rfl, by kernel_rfl, by kernel_rfl⟩

/-- arbour/set.Has$1 -/
def m22 : MC :=
  .seq (
   .reg [⟨(some 2), .box 33 2 (.tmp 0), none⟩,
     ⟨(some 3), .mov (.const (.bool false)), none⟩]) (
  .trim [1, 2] [2] [] (
  .seq (
   .reg [⟨(some 4), .faddr 0 (.tmp 2), none⟩,
     ⟨(some 5), .load none (.tmp 4), none⟩,
     ⟨(some 6), .faddr 1 (.tmp 1), none⟩,
     ⟨(some 7), .load none (.tmp 6), none⟩,
     ⟨(some 8), .bin .leq (.tmp 5) (.tmp 7), none⟩,
     ⟨(some 9), .mov (.tmp 8), none⟩,
     ⟨(some 10), .faddr 1 (.tmp 1), (some (9, true))⟩,
     ⟨(some 11), .load none (.tmp 10), (some (9, true))⟩,
     ⟨(some 12), .faddr 1 (.tmp 2), (some (9, true))⟩,
     ⟨(some 13), .load none (.tmp 12), (some (9, true))⟩,
     ⟨(some 14), .bin .leq (.tmp 11) (.tmp 13), (some (9, true))⟩,
     ⟨(some 15), .pick (.tmp 9) (.tmp 14) (.const (.bool false)), none⟩,
     ⟨(some 3), .mov (.tmp 15), none⟩]) (
  .ret)))
theorem r22 : Runs Try.prog 22 m22.strip [.mov (.tmp 3)] 16 := ⟨by kernel_rfl, by kernel_rfl, Try.f22, Try.f22.body.getD .skip, Try.func22, by kernel_rfl, by kernel_rfl, by kernel_rfl, by kernel_rfl, by kernel_rfl⟩

/-- slices.Contains[[]string,string] -/
def m23 : MC :=
  .seq (
   .reg [⟨(some 4), .mov (.const (.bool false)), none⟩]) (
  .trim [0, 1] [] [] (
  .seq (
   .reg [⟨(some 5), .mov (.tmp 0), none⟩,
     ⟨(some 6), .mov (.tmp 1), none⟩,
     ⟨(some 7), .call (.func 30) [(.tmp 5), (.tmp 6)] .pure, none⟩,
     ⟨(some 8), .bin .geq (.tmp 7) (.const (.int .i64 0)), none⟩,
     ⟨(some 4), .mov (.tmp 8), none⟩]) (
  .ret)))
theorem r23 : Runs Try.prog 23 m23.strip [.mov (.tmp 4)] 9 := ⟨by kernel_rfl, by kernel_rfl, Try.f23, Try.f23.body.getD .skip, Try.func23, by kernel_rfl, by kernel_rfl, by kernel_rfl, by kernel_rfl, by kernel_rfl⟩

/-- slices.Equal[[]arbour/api.Range,arbour/api.Range] -/
def m24 : MC :=
  .seq (
   .reg [⟨(some 4), .mov (.const (.bool false)), none⟩]) (
  .trim [0, 1] [] [] (
  .seq (
   .seq (
    .reg [⟨(some 6), .mov (.tmp 0), none⟩,
      ⟨(some 7), .lenL (.tmp 6), none⟩,
      ⟨(some 8), .mov (.tmp 1), none⟩,
      ⟨(some 9), .lenL (.tmp 8), none⟩,
      ⟨(some 10), .bin .neq (.tmp 7) (.tmp 9), none⟩]) (
   .trim [0, 1, 10] [] [] (
   .cond (.tmp 10) (
     .seq (
      .reg [⟨(some 4), .mov (.const (.bool false)), none⟩]) (
     .ret)) (
     .skip)))) (
  .trim [0, 1] [] [] (
  .seq (
   .seq (
    .reg [⟨(some 11), .mov (.tmp 0), none⟩,
      ⟨(some 12), .lenL (.tmp 11), none⟩,
      ⟨(some 13), .mov (.const (.int .i64 0)), none⟩]) (
   .trim [0, 1, 12, 13] [] [] (
   .block 0 (
    .loop (
     .trim [0, 1, 12, 13] [] [] (
     .seq (
      .reg [⟨(some 14), .bin .lss (.tmp 13) (.tmp 12), none⟩]) (
     .trim [0, 1, 12, 13, 14] [] [] (
     .seq (
      .cond (.tmp 14) (
        .skip) (
        .exit 0)) (
     .trim [0, 1, 12, 13] [] [] (
     .seq (
      .block 1 (
       .seq (
        .reg [⟨(some 15), .mov (.tmp 13), none⟩,
          ⟨(some 5), .mov (.tmp 15), none⟩]) (
       .trim [0, 1, 5, 12, 13] [] [] (
       .seq (
        .dreg 9 [⟨(some 16), .mov (.tmp 0), none⟩,
          ⟨(some 17), .mov (.tmp 5), none⟩,
          ⟨(some 18), .iaddrS 2 (.tmp 16) (.tmp 17), none⟩,
          ⟨(some 19), .load (some 2) (.tmp 18), none⟩,
          ⟨(some 20), .mov (.tmp 1), none⟩,
          ⟨(some 21), .mov (.tmp 5), none⟩,
          ⟨(some 22), .iaddrS 2 (.tmp 20) (.tmp 21), none⟩,
          ⟨(some 23), .load (some 2) (.tmp 22), none⟩,
          ⟨(some 24), .eqs true [.i, .i] (.tmp 19) (.tmp 23), none⟩]) (
       .trim [0, 1, 12, 13, 24] [] [] (
       .cond (.tmp 24) (
         .seq (
          .reg [⟨(some 4), .mov (.const (.bool false)), none⟩]) (
         .ret)) (
         .skip))))))) (
     .trim [0, 1, 12, 13] [] [] (
     .reg [⟨(some 25), .bin .add (.tmp 13) (.const (.int .i64 1)), none⟩,
       ⟨(some 13), .mov (.tmp 25), none⟩])))))))))))) (
  .trim [] [] [] (
  .seq (
   .reg [⟨(some 4), .mov (.const (.bool true)), none⟩]) (
  .ret)))))))
theorem r24 : Runs Try.prog 24 m24.strip [.mov (.tmp 4)] 26 := ⟨by kernel_rfl, by kernel_rfl, Try.f24, Try.f24.body.getD .skip, Try.func24, by kernel_rfl, by kernel_rfl, by kernel_rfl, by kernel_rfl, by kernel_rfl⟩

/-- slices.Equal[[]string,string] -/
def m25 : MC :=
  .seq (
   .reg [⟨(some 4), .mov (.const (.bool false)), none⟩]) (
  .trim [0, 1] [] [] (
  .seq (
   .seq (
    .reg [⟨(some 6), .mov (.tmp 0), none⟩,
      ⟨(some 7), .lenL (.tmp 6), none⟩,
      ⟨(some 8), .mov (.tmp 1), none⟩,
      ⟨(some 9), .lenL (.tmp 8), none⟩,
      ⟨(some 10), .bin .neq (.tmp 7) (.tmp 9), none⟩]) (
   .trim [0, 1, 10] [] [] (
   .cond (.tmp 10) (
     .seq (
      .reg [⟨(some 4), .mov (.const (.bool false)), none⟩]) (
     .ret)) (
     .skip)))) (
  .trim [0, 1] [] [] (
  .seq (
   .seq (
    .reg [⟨(some 11), .mov (.tmp 0), none⟩,
      ⟨(some 12), .lenL (.tmp 11), none⟩,
      ⟨(some 13), .mov (.const (.int .i64 0)), none⟩]) (
   .trim [0, 1, 12, 13] [] [] (
   .block 0 (
    .loop (
     .trim [0, 1, 12, 13] [] [] (
     .seq (
      .reg [⟨(some 14), .bin .lss (.tmp 13) (.tmp 12), none⟩]) (
     .trim [0, 1, 12, 13, 14] [] [] (
     .seq (
      .cond (.tmp 14) (
        .skip) (
        .exit 0)) (
     .trim [0, 1, 12, 13] [] [] (
     .seq (
      .block 1 (
       .seq (
        .reg [⟨(some 15), .mov (.tmp 13), none⟩,
          ⟨(some 5), .mov (.tmp 15), none⟩]) (
       .trim [0, 1, 5, 12, 13] [] [] (
       .seq (
        .dreg 9 [⟨(some 16), .mov (.tmp 0), none⟩,
          ⟨(some 17), .mov (.tmp 5), none⟩,
          ⟨(some 18), .iaddrS 1 (.tmp 16) (.tmp 17), none⟩,
          ⟨(some 19), .load none (.tmp 18), none⟩,
          ⟨(some 20), .mov (.tmp 1), none⟩,
          ⟨(some 21), .mov (.tmp 5), none⟩,
          ⟨(some 22), .iaddrS 1 (.tmp 20) (.tmp 21), none⟩,
          ⟨(some 23), .load none (.tmp 22), none⟩,
          ⟨(some 24), .bin .neq (.tmp 19) (.tmp 23), none⟩]) (
       .trim [0, 1, 12, 13, 24] [] [] (
       .cond (.tmp 24) (
         .seq (
          .reg [⟨(some 4), .mov (.const (.bool false)), none⟩]) (
         .ret)) (
         .skip))))))) (
     .trim [0, 1, 12, 13] [] [] (
     .reg [⟨(some 25), .bin .add (.tmp 13) (.const (.int .i64 1)), none⟩,
       ⟨(some 13), .mov (.tmp 25), none⟩])))))))))))) (
  .trim [] [] [] (
  .seq (
   .reg [⟨(some 4), .mov (.const (.bool true)), none⟩]) (
  .ret)))))))
theorem r25 : Runs Try.prog 25 m25.strip [.mov (.tmp 4)] 26 := ⟨by kernel_rfl, by kernel_rfl, Try.f25, Try.f25.body.getD .skip, Try.func25, by kernel_rfl, by kernel_rfl, by kernel_rfl, by kernel_rfl, by kernel_rfl⟩

/-- cmp.isNaN[int] -/
def m28 : MC :=
  .seq (
   .reg [⟨(some 2), .mov (.const (.bool false)), none⟩]) (
  .trim [0] [] [] (
  .seq (
   .reg [⟨(some 3), .mov (.tmp 0), none⟩,
     ⟨(some 4), .mov (.tmp 0), none⟩,
     ⟨(some 5), .bin .neq (.tmp 3) (.tmp 4), none⟩,
     ⟨(some 2), .mov (.tmp 5), none⟩]) (
  .ret)))
theorem r28 : Runs Try.prog 28 m28.strip [.mov (.tmp 2)] 6 := ⟨by kernel_rfl, by kernel_rfl, Try.f28, Try.f28.body.getD .skip, Try.func28, by kernel_rfl, by kernel_rfl, by kernel_rfl, by kernel_rfl, by kernel_rfl⟩

/-- slices.IndexFunc[[]arbour/api.Range,arbour/api.Range] -/
def m29 : MC :=
  .seq (
   .reg [⟨(some 4), .mov (.const (.int .i64 0)), none⟩]) (
  .trim [0, 1] [] [] (
  .seq (
   .seq (
    .reg [⟨(some 6), .mov (.tmp 0), none⟩,
      ⟨(some 7), .lenL (.tmp 6), none⟩,
      ⟨(some 8), .mov (.const (.int .i64 0)), none⟩]) (
   .trim [0, 1, 7, 8] [] [] (
   .block 0 (
    .loop (
     .trim [0, 1, 7, 8] [] [] (
     .seq (
      .reg [⟨(some 9), .bin .lss (.tmp 8) (.tmp 7), none⟩]) (
     .trim [0, 1, 7, 8, 9] [] [] (
     .seq (
      .cond (.tmp 9) (
        .skip) (
        .exit 0)) (
     .trim [0, 1, 7, 8] [] [] (
     .seq (
      .block 1 (
       .seq (
        .reg [⟨(some 10), .mov (.tmp 8), none⟩,
          ⟨(some 5), .mov (.tmp 10), none⟩]) (
       .trim [0, 1, 5, 7, 8] [] [] (
       .seq (
        .reg [⟨(some 11), .mov (.tmp 1), none⟩,
          ⟨(some 12), .mov (.tmp 0), none⟩,
          ⟨(some 13), .mov (.tmp 5), none⟩,
          ⟨(some 14), .iaddrS 2 (.tmp 12) (.tmp 13), none⟩,
          ⟨(some 15), .load (some 2) (.tmp 14), none⟩,
          ⟨(some 16), .call (.tmp 11) [(.tmp 15)] .pure, none⟩]) (
       .trim [0, 1, 5, 7, 8, 16] [] [] (
       .cond (.tmp 16) (
         .seq (
          .reg [⟨(some 17), .mov (.tmp 5), none⟩,
            ⟨(some 4), .mov (.tmp 17), none⟩]) (
         .ret)) (
         .skip))))))) (
     .trim [0, 1, 7, 8] [] [] (
     .reg [⟨(some 18), .bin .add (.tmp 8) (.const (.int .i64 1)), none⟩,
       ⟨(some 8), .mov (.tmp 18), none⟩])))))))))))) (
  .trim [] [] [] (
  .seq (
   .reg [⟨(some 4), .mov (.const (.int .i64 (-1))), none⟩]) (
  .ret)))))
theorem r29 : Runs Try.prog 29 m29.strip [.mov (.tmp 4)] 19 := ⟨by kernel_rfl, by kernel_rfl, Try.f29, Try.f29.body.getD .skip, Try.func29, by kernel_rfl, by kernel_rfl, by kernel_rfl, by kernel_rfl, by kernel_rfl⟩

/-- slices.Index[[]string,string] -/
def m30 : MC :=
  .seq (
   .reg [⟨(some 4), .mov (.const (.int .i64 0)), none⟩]) (
  .trim [0, 1] [] [] (
  .seq (
   .seq (
    .reg [⟨(some 6), .mov (.tmp 0), none⟩,
      ⟨(some 7), .lenL (.tmp 6), none⟩,
      ⟨(some 8), .mov (.const (.int .i64 0)), none⟩]) (
   .trim [0, 1, 7, 8] [] [] (
   .block 0 (
    .loop (
     .trim [0, 1, 7, 8] [] [] (
     .seq (
      .reg [⟨(some 9), .bin .lss (.tmp 8) (.tmp 7), none⟩]) (
     .trim [0, 1, 7, 8, 9] [] [] (
     .seq (
      .cond (.tmp 9) (
        .skip) (
        .exit 0)) (
     .trim [0, 1, 7, 8] [] [] (
     .seq (
      .block 1 (
       .seq (
        .reg [⟨(some 10), .mov (.tmp 8), none⟩,
          ⟨(some 5), .mov (.tmp 10), none⟩]) (
       .trim [0, 1, 5, 7, 8] [] [] (
       .seq (
        .reg [⟨(some 11), .mov (.tmp 1), none⟩,
          ⟨(some 12), .mov (.tmp 0), none⟩,
          ⟨(some 13), .mov (.tmp 5), none⟩,
          ⟨(some 14), .iaddrS 1 (.tmp 12) (.tmp 13), none⟩,
          ⟨(some 15), .load none (.tmp 14), none⟩,
          ⟨(some 16), .bin .eql (.tmp 11) (.tmp 15), none⟩]) (
       .trim [0, 1, 5, 7, 8, 16] [] [] (
       .cond (.tmp 16) (
         .seq (
          .reg [⟨(some 17), .mov (.tmp 5), none⟩,
            ⟨(some 4), .mov (.tmp 17), none⟩]) (
         .ret)) (
         .skip))))))) (
     .trim [0, 1, 7, 8] [] [] (
     .reg [⟨(some 18), .bin .add (.tmp 8) (.const (.int .i64 1)), none⟩,
       ⟨(some 8), .mov (.tmp 18), none⟩])))))))))))) (
  .trim [] [] [] (
  .seq (
   .reg [⟨(some 4), .mov (.const (.int .i64 (-1))), none⟩]) (
  .ret)))))
theorem r30 : Runs Try.prog 30 m30.strip [.mov (.tmp 4)] 19 := ⟨by kernel_rfl, by kernel_rfl, Try.f30, Try.f30.body.getD .skip, Try.func30, by kernel_rfl, by kernel_rfl, by kernel_rfl, by kernel_rfl, by kernel_rfl⟩

end Go.Proofs
