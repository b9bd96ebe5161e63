/- The functions, as code of the value machine (printed by program). -/
import Derived.Test.YtoojpeidgdadgaaVG
import Derived.Test.YtoojpeidgdadgaaProg
namespace Go.Proofs
open Go.Vm
/-- arbour/arbourlaw04.BoxAnd -/
def m7 : MC :=
  .seq (
   .reg [⟨(some 3), .box 42 16 (.tmp 0), none⟩,
     ⟨(some 4), .box 42 16 (.tmp 1), none⟩,
     ⟨(some 5), .box 44 12 (.tmp 2), none⟩,
     ⟨(some 6), .mov (.const (.bool false)), none⟩]) (
  .trim [3, 4, 5] [3, 4, 5] [] (
  .seq (
   .seq (
    .reg [⟨(some 8), .call (.func 25) [] .pure, none⟩,
      ⟨(some 9), .un .not (.tmp 8), none⟩,
      ⟨(some 10), .mov (.tmp 9), none⟩,
      ⟨(some 11), .load (some 16) (.tmp 3), (some (10, false))⟩,
      ⟨(some 12), .load (some 16) (.tmp 4), (some (10, false))⟩,
      ⟨(some 13), .bslice 42 16 [(.val (.bool false)), (.sl none []), (.val (.bool false)), (.sl none []), (.val (.bool false)), (.sl none []), (.val (.bool false)), (.sl none []), (.val (.bool false)), (.sl none []), (.val (.bool false)), (.sl none []), (.val (.bool false)), (.sl none []), (.val (.bool false)), (.sl none [])] 2 [(0, 16, (.tmp 11)), (16, 16, (.tmp 12))], (some (10, false))⟩,
      ⟨(some 14), .call (.func 26) [(.tmp 13)] .pure, (some (10, false))⟩,
      ⟨(some 15), .un .not (.tmp 14), (some (10, false))⟩,
      ⟨(some 16), .pick (.tmp 10) (.const (.bool true)) (.tmp 15), none⟩,
      ⟨(some 17), .mov (.tmp 16), none⟩,
      ⟨(some 18), .load (some 16) (.tmp 3), (some (17, false))⟩,
      ⟨(some 19), .call (.func 27) [(.tmp 18)] .pure, (some (17, false))⟩,
      ⟨(some 20), .un .not (.tmp 19), (some (17, false))⟩,
      ⟨(some 21), .pick (.tmp 17) (.const (.bool true)) (.tmp 20), none⟩,
      ⟨(some 22), .mov (.tmp 21), none⟩,
      ⟨(some 23), .load (some 16) (.tmp 4), (some (22, false))⟩,
      ⟨(some 24), .call (.func 27) [(.tmp 23)] .pure, (some (22, false))⟩,
      ⟨(some 25), .un .not (.tmp 24), (some (22, false))⟩,
      ⟨(some 26), .pick (.tmp 22) (.const (.bool true)) (.tmp 25), none⟩]) (
   .trim [3, 4, 5, 26] [3, 4, 5] [] (
   .cond (.tmp 26) (
     .seq (
      .reg [⟨(some 27), .call (.func 25) [] .pure, none⟩,
        ⟨(some 6), .mov (.tmp 27), none⟩]) (
     .ret)) (
     .skip)))) (
  .trim [3, 4, 5] [3, 4, 5] [] (
  .seq (
   .reg [⟨(some 28), .load (some 16) (.tmp 3), none⟩,
     ⟨(some 29), .load (some 16) (.tmp 4), none⟩,
     ⟨(some 30), .call (.func 28) [(.tmp 28), (.tmp 29)] .pure, none⟩,
     ⟨(some 7), .alloc 42 [(.val (.bool false)), (.sl none []), (.val (.bool false)), (.sl none []), (.val (.bool false)), (.sl none []), (.val (.bool false)), (.sl none []), (.val (.bool false)), (.sl none []), (.val (.bool false)), (.sl none []), (.val (.bool false)), (.sl none []), (.val (.bool false)), (.sl none [])], none⟩,
     ⟨none, .store 16 (.tmp 7) (.tmp 30), none⟩]) (
  .trim [3, 4, 5, 7] [3, 4, 5, 7] [] (
  .seq (
   .dreg 27 [⟨(some 31), .load (some 16) (.tmp 7), none⟩,
     ⟨(some 32), .call (.func 27) [(.tmp 31)] .pure, none⟩,
     ⟨(some 33), .mov (.tmp 32), none⟩,
     ⟨(some 34), .load (some 16) (.tmp 7), (some (33, true))⟩,
     ⟨(some 35), .load (some 12) (.tmp 5), (some (33, true))⟩,
     ⟨(some 36), .call (.func 29) [(.tmp 34), (.tmp 35)] .pure, (some (33, true))⟩,
     ⟨(some 37), .load (some 16) (.tmp 3), (some (33, true))⟩,
     ⟨(some 38), .load (some 12) (.tmp 5), (some (33, true))⟩,
     ⟨(some 39), .call (.func 29) [(.tmp 37), (.tmp 38)] .pure, (some (33, true))⟩,
     ⟨(some 40), .mov (.tmp 39), (some (33, true))⟩,
     ⟨(some 41), .load (some 16) (.tmp 4), (some (40, true))⟩,
     ⟨(some 42), .load (some 12) (.tmp 5), (some (40, true))⟩,
     ⟨(some 43), .call (.func 29) [(.tmp 41), (.tmp 42)] .pure, (some (40, true))⟩,
     ⟨(some 44), .pick (.tmp 40) (.tmp 43) (.const (.bool false)), (some (33, true))⟩,
     ⟨(some 45), .binB false (.tmp 36) (.tmp 44), (some (33, true))⟩,
     ⟨(some 46), .pick (.tmp 33) (.tmp 45) (.const (.bool false)), none⟩,
     ⟨(some 47), .mov (.tmp 46), none⟩,
     ⟨(some 48), .load (some 16) (.tmp 7), (some (47, true))⟩,
     ⟨(some 49), .load (some 16) (.tmp 3), (some (47, true))⟩,
     ⟨(some 50), .call (.func 30) [(.tmp 48), (.tmp 49)] .pure, (some (47, true))⟩,
     ⟨(some 51), .pick (.tmp 47) (.tmp 50) (.const (.bool false)), none⟩,
     ⟨(some 52), .mov (.tmp 51), none⟩,
     ⟨(some 53), .load (some 16) (.tmp 7), (some (52, true))⟩,
     ⟨(some 54), .load (some 16) (.tmp 4), (some (52, true))⟩,
     ⟨(some 55), .call (.func 30) [(.tmp 53), (.tmp 54)] .pure, (some (52, true))⟩,
     ⟨(some 56), .pick (.tmp 52) (.tmp 55) (.const (.bool false)), none⟩,
     ⟨(some 6), .mov (.tmp 56), none⟩]) (
  .ret)))))))
theorem r7 : Runs Try.prog 7 m7.strip [.mov (.tmp 6)] 57 := ⟨by kernel_rfl, by kernel_rfl, Try.f7, Try.f7.body.getD .skip, Try.func7, by kernel_rfl, by kernel_rfl, by kernel_rfl, by kernel_rfl, by kernel_rfl⟩

/-- arbour/arbourlaw04.BoxJoins -/
def m8 : MC :=
  .seq (
   .reg [⟨(some 4), .box 42 16 (.tmp 0), none⟩,
     ⟨(some 6), .box 25 4 (.tmp 2), none⟩,
     ⟨(some 7), .box 44 12 (.tmp 3), none⟩,
     ⟨(some 8), .mov (.const (.bool false)), none⟩]) (
  .trim [1, 4, 6, 7] [4, 6, 7] [] (
  .seq (
   .reg [⟨(some 13), .mov (.tmp 1), none⟩,
     ⟨(some 14), .conv .u64 (.tmp 13), none⟩,
     ⟨(some 15), .bin .rem (.tmp 14) (.const (.int .u64 4)), none⟩,
     ⟨(some 16), .conv .i64 (.tmp 15), none⟩,
     ⟨(some 1), .mov (.tmp 16), none⟩]) (
  .trim [1, 4, 6, 7] [4, 6, 7] [] (
  .seq (
   .seq (
    .reg [⟨(some 17), .call (.func 25) [] .pure, none⟩,
      ⟨(some 18), .un .not (.tmp 17), none⟩,
      ⟨(some 19), .mov (.tmp 18), none⟩,
      ⟨(some 20), .load (some 16) (.tmp 4), (some (19, false))⟩,
      ⟨(some 21), .bslice 42 16 [(.val (.bool false)), (.sl none []), (.val (.bool false)), (.sl none []), (.val (.bool false)), (.sl none []), (.val (.bool false)), (.sl none []), (.val (.bool false)), (.sl none []), (.val (.bool false)), (.sl none []), (.val (.bool false)), (.sl none []), (.val (.bool false)), (.sl none [])] 1 [(0, 16, (.tmp 20))], (some (19, false))⟩,
      ⟨(some 22), .call (.func 26) [(.tmp 21)] .pure, (some (19, false))⟩,
      ⟨(some 23), .un .not (.tmp 22), (some (19, false))⟩,
      ⟨(some 24), .pick (.tmp 19) (.const (.bool true)) (.tmp 23), none⟩,
      ⟨(some 25), .mov (.tmp 24), none⟩,
      ⟨(some 26), .load (some 4) (.tmp 6), (some (25, false))⟩,
      ⟨(some 27), .bslice 25 4 [(.val (.bool false)), (.sl none []), (.val (.bool false)), (.sl none [])] 1 [(0, 4, (.tmp 26))], (some (25, false))⟩,
      ⟨(some 28), .call (.func 12) [(.tmp 27)] .pure, (some (25, false))⟩,
      ⟨(some 29), .un .not (.tmp 28), (some (25, false))⟩,
      ⟨(some 30), .pick (.tmp 25) (.const (.bool true)) (.tmp 29), none⟩,
      ⟨(some 31), .mov (.tmp 30), none⟩,
      ⟨(some 32), .load (some 16) (.tmp 4), (some (31, false))⟩,
      ⟨(some 33), .call (.func 27) [(.tmp 32)] .pure, (some (31, false))⟩,
      ⟨(some 34), .un .not (.tmp 33), (some (31, false))⟩,
      ⟨(some 35), .pick (.tmp 31) (.const (.bool true)) (.tmp 34), none⟩,
      ⟨(some 36), .mov (.tmp 35), none⟩,
      ⟨(some 37), .load (some 4) (.tmp 6), (some (36, false))⟩,
      ⟨(some 38), .call (.func 13) [(.tmp 37)] .pure, (some (36, false))⟩,
      ⟨(some 39), .un .not (.tmp 38), (some (36, false))⟩,
      ⟨(some 40), .pick (.tmp 36) (.const (.bool true)) (.tmp 39), none⟩]) (
   .trim [1, 4, 6, 7, 40] [4, 6, 7] [] (
   .cond (.tmp 40) (
     .seq (
      .reg [⟨(some 41), .call (.func 25) [] .pure, none⟩,
        ⟨(some 8), .mov (.tmp 41), none⟩]) (
     .ret)) (
     .skip)))) (
  .trim [1, 4, 6, 7] [4, 6, 7] [] (
  .seq (
   .reg [⟨(some 42), .load (some 16) (.tmp 4), none⟩,
     ⟨(some 43), .mov (.tmp 1), none⟩,
     ⟨(some 44), .load (some 4) (.tmp 6), none⟩,
     ⟨(some 45), .call (.func 31) [(.tmp 42), (.tmp 43), (.tmp 44)] .pure, none⟩,
     ⟨(some 9), .alloc 42 [(.val (.bool false)), (.sl none []), (.val (.bool false)), (.sl none []), (.val (.bool false)), (.sl none []), (.val (.bool false)), (.sl none []), (.val (.bool false)), (.sl none []), (.val (.bool false)), (.sl none []), (.val (.bool false)), (.sl none []), (.val (.bool false)), (.sl none [])], none⟩,
     ⟨none, .store 16 (.tmp 9) (.tmp 45), none⟩]) (
  .trim [1, 4, 6, 7, 9] [4, 6, 7, 9] [] (
  .seq (
   .dreg2 [(⟨(some 46), .load (some 16) (.tmp 4), none⟩, .q),
     (⟨(some 47), .mov (.tmp 1), none⟩, .q),
     (⟨(some 48), .mov (.tmp 1), none⟩, .q),
     (⟨(some 49), .iaddrA 4 4 (.tmp 4) (.tmp 48), none⟩, .q),
     (⟨(some 50), .load (some 4) (.tmp 49), none⟩, .q),
     (⟨(some 51), .load (some 4) (.tmp 6), none⟩, .q),
     (⟨(some 52), .call (.func 15) [(.tmp 50), (.tmp 51)] .pure, none⟩, .q),
     (⟨(some 53), .call (.func 31) [(.tmp 46), (.tmp 47), (.tmp 52)] .pure, none⟩, .q),
     (⟨(some 10), .alloc 42 [(.val (.bool false)), (.sl none []), (.val (.bool false)), (.sl none []), (.val (.bool false)), (.sl none []), (.val (.bool false)), (.sl none []), (.val (.bool false)), (.sl none []), (.val (.bool false)), (.sl none []), (.val (.bool false)), (.sl none []), (.val (.bool false)), (.sl none [])], none⟩, .a),
     (⟨none, .store 16 (.tmp 10) (.tmp 53), none⟩, .h)]) (
  .trim [4, 7, 9, 10] [4, 7, 9, 10] [] (
  .seq (
   .reg [⟨(some 55), .load (some 16) (.tmp 4), none⟩,
     ⟨(some 56), .load (some 16) (.tmp 9), none⟩,
     ⟨(some 57), .call (.func 32) [(.tmp 55), (.tmp 56)] .pure, none⟩,
     ⟨(some 54), .mov (.tmp 57), none⟩,
     ⟨(some 58), .ext (.tmp 54) 0, none⟩,
     ⟨(some 59), .ext (.tmp 54) 1, none⟩,
     ⟨(some 11), .mov (.tmp 58), none⟩,
     ⟨(some 12), .mov (.tmp 59), none⟩]) (
  .trim [4, 7, 9, 10, 11] [4, 7, 9, 10] [] (
  .seq (
   .dreg 27 [⟨(some 60), .mov (.tmp 11), none⟩,
     ⟨(some 61), .bin .leq (.tmp 60) (.const (.int .i64 1)), none⟩,
     ⟨(some 62), .mov (.tmp 61), none⟩,
     ⟨(some 63), .load (some 16) (.tmp 10), (some (62, true))⟩,
     ⟨(some 64), .load (some 12) (.tmp 7), (some (62, true))⟩,
     ⟨(some 65), .call (.func 29) [(.tmp 63), (.tmp 64)] .pure, (some (62, true))⟩,
     ⟨(some 66), .load (some 16) (.tmp 4), (some (62, true))⟩,
     ⟨(some 67), .load (some 12) (.tmp 7), (some (62, true))⟩,
     ⟨(some 68), .call (.func 29) [(.tmp 66), (.tmp 67)] .pure, (some (62, true))⟩,
     ⟨(some 69), .mov (.tmp 68), (some (62, true))⟩,
     ⟨(some 70), .load (some 16) (.tmp 9), (some (69, false))⟩,
     ⟨(some 71), .load (some 12) (.tmp 7), (some (69, false))⟩,
     ⟨(some 72), .call (.func 29) [(.tmp 70), (.tmp 71)] .pure, (some (69, false))⟩,
     ⟨(some 73), .pick (.tmp 69) (.const (.bool true)) (.tmp 72), (some (62, true))⟩,
     ⟨(some 74), .binB false (.tmp 65) (.tmp 73), (some (62, true))⟩,
     ⟨(some 75), .pick (.tmp 62) (.tmp 74) (.const (.bool false)), none⟩,
     ⟨(some 76), .mov (.tmp 75), none⟩,
     ⟨(some 77), .load (some 16) (.tmp 4), (some (76, true))⟩,
     ⟨(some 78), .load (some 16) (.tmp 10), (some (76, true))⟩,
     ⟨(some 79), .call (.func 30) [(.tmp 77), (.tmp 78)] .pure, (some (76, true))⟩,
     ⟨(some 80), .pick (.tmp 76) (.tmp 79) (.const (.bool false)), none⟩,
     ⟨(some 81), .mov (.tmp 80), none⟩,
     ⟨(some 82), .load (some 16) (.tmp 9), (some (81, true))⟩,
     ⟨(some 83), .load (some 16) (.tmp 10), (some (81, true))⟩,
     ⟨(some 84), .call (.func 30) [(.tmp 82), (.tmp 83)] .pure, (some (81, true))⟩,
     ⟨(some 85), .pick (.tmp 81) (.tmp 84) (.const (.bool false)), none⟩,
     ⟨(some 8), .mov (.tmp 85), none⟩]) (
  .ret)))))))))))))
theorem r8 : Runs Try.prog 8 m8.strip [.mov (.tmp 8)] 86 := ⟨by kernel_rfl, by kernel_rfl, Try.f8, Try.f8.body.getD .skip, Try.func8, by kernel_rfl, by kernel_rfl, by kernel_rfl, by kernel_rfl, by kernel_rfl⟩

/-- arbour/arbourlaw04.BoxAtoms -/
def m9 : MC :=
  .seq (
   .reg [⟨(some 4), .box 25 4 (.tmp 1), none⟩,
     ⟨(some 5), .box 44 12 (.tmp 2), none⟩,
     ⟨(some 6), .mov (.const (.bool false)), none⟩]) (
  .trim [0, 4, 5] [4, 5] [] (
  .seq (
   .seq (
    .reg [⟨(some 9), .call (.func 25) [] .pure, none⟩,
      ⟨(some 10), .un .not (.tmp 9), none⟩,
      ⟨(some 11), .mov (.tmp 10), none⟩,
      ⟨(some 12), .load (some 4) (.tmp 4), (some (11, false))⟩,
      ⟨(some 13), .bslice 25 4 [(.val (.bool false)), (.sl none []), (.val (.bool false)), (.sl none [])] 1 [(0, 4, (.tmp 12))], (some (11, false))⟩,
      ⟨(some 14), .call (.func 12) [(.tmp 13)] .pure, (some (11, false))⟩,
      ⟨(some 15), .un .not (.tmp 14), (some (11, false))⟩,
      ⟨(some 16), .pick (.tmp 11) (.const (.bool true)) (.tmp 15), none⟩,
      ⟨(some 17), .mov (.tmp 16), none⟩,
      ⟨(some 18), .load (some 4) (.tmp 4), (some (17, false))⟩,
      ⟨(some 19), .call (.func 13) [(.tmp 18)] .pure, (some (17, false))⟩,
      ⟨(some 20), .un .not (.tmp 19), (some (17, false))⟩,
      ⟨(some 21), .pick (.tmp 17) (.const (.bool true)) (.tmp 20), none⟩]) (
   .trim [0, 4, 5, 21] [4, 5] [] (
   .cond (.tmp 21) (
     .seq (
      .reg [⟨(some 22), .call (.func 25) [] .pure, none⟩,
        ⟨(some 6), .mov (.tmp 22), none⟩]) (
     .ret)) (
     .skip)))) (
  .trim [0, 4, 5] [4, 5] [] (
  .seq (
   .reg [⟨(some 23), .mov (.tmp 0), none⟩,
     ⟨(some 24), .load (some 4) (.tmp 4), none⟩,
     ⟨(some 25), .call (.func 33) [(.tmp 23), (.tmp 24)] .pure, none⟩,
     ⟨(some 7), .alloc 42 [(.val (.bool false)), (.sl none []), (.val (.bool false)), (.sl none []), (.val (.bool false)), (.sl none []), (.val (.bool false)), (.sl none []), (.val (.bool false)), (.sl none []), (.val (.bool false)), (.sl none []), (.val (.bool false)), (.sl none []), (.val (.bool false)), (.sl none [])], none⟩,
     ⟨none, .store 16 (.tmp 7) (.tmp 25), none⟩]) (
  .trim [0, 4, 5, 7] [4, 5, 7] [] (
  .seq (
   .dreg 4 [⟨(some 26), .call (.func 34) [] .pure, none⟩,
     ⟨(some 27), .load (some 12) (.tmp 5), none⟩,
     ⟨(some 28), .call (.func 29) [(.tmp 26), (.tmp 27)] .pure, none⟩,
     ⟨(some 8), .mov (.tmp 28), none⟩]) (
  .trim [0, 4, 5, 7, 8] [4, 5, 7] [] (
  .seq (
   .seq (
    .reg [⟨(some 29), .mov (.tmp 0), none⟩,
      ⟨(some 30), .bin .lss (.tmp 29) (.const (.int .i64 0)), none⟩,
      ⟨(some 31), .mov (.tmp 30), none⟩,
      ⟨(some 32), .mov (.tmp 0), (some (31, false))⟩,
      ⟨(some 33), .bin .gtr (.tmp 32) (.const (.int .i64 3)), (some (31, false))⟩,
      ⟨(some 34), .pick (.tmp 31) (.const (.bool true)) (.tmp 33), none⟩]) (
   .trim [0, 4, 5, 7, 8, 34] [4, 5, 7] [] (
   .cond (.tmp 34) (
     .seq (
      .dreg 12 [⟨(some 35), .load (some 16) (.tmp 7), none⟩,
        ⟨(some 36), .call (.func 34) [] .pure, none⟩,
        ⟨(some 37), .call (.func 35) [(.tmp 35), (.tmp 36)] .pure, none⟩,
        ⟨(some 38), .mov (.tmp 37), none⟩,
        ⟨(some 39), .load (some 16) (.tmp 7), (some (38, true))⟩,
        ⟨(some 40), .mov (.tmp 0), (some (38, true))⟩,
        ⟨(some 41), .load (some 4) (.tmp 4), (some (38, true))⟩,
        ⟨(some 42), .call (.func 31) [(.tmp 39), (.tmp 40), (.tmp 41)] .pure, (some (38, true))⟩,
        ⟨(some 43), .load (some 16) (.tmp 7), (some (38, true))⟩,
        ⟨(some 44), .call (.func 35) [(.tmp 42), (.tmp 43)] .pure, (some (38, true))⟩,
        ⟨(some 45), .pick (.tmp 38) (.tmp 44) (.const (.bool false)), none⟩,
        ⟨(some 6), .mov (.tmp 45), none⟩]) (
     .ret)) (
     .skip)))) (
  .trim [0, 4, 5, 7, 8] [4, 5, 7] [] (
  .seq (
   .dreg 21 [⟨(some 46), .load (some 16) (.tmp 7), none⟩,
     ⟨(some 47), .load (some 12) (.tmp 5), none⟩,
     ⟨(some 48), .call (.func 36) [(.tmp 46), (.tmp 47)] .pure, none⟩,
     ⟨(some 49), .mov (.tmp 8), none⟩,
     ⟨(some 50), .mov (.tmp 49), none⟩,
     ⟨(some 51), .load (some 4) (.tmp 4), (some (50, true))⟩,
     ⟨(some 52), .mov (.tmp 0), (some (50, true))⟩,
     ⟨(some 53), .iaddrA 4 3 (.tmp 5) (.tmp 52), (some (50, true))⟩,
     ⟨(some 54), .load (some 3) (.tmp 53), (some (50, true))⟩,
     ⟨(some 55), .call (.func 19) [(.tmp 51), (.tmp 54)] .pure, (some (50, true))⟩,
     ⟨(some 56), .pick (.tmp 50) (.tmp 55) (.const (.bool false)), none⟩,
     ⟨(some 57), .binB false (.tmp 48) (.tmp 56), none⟩,
     ⟨(some 58), .mov (.tmp 57), none⟩,
     ⟨(some 59), .call (.func 34) [] .pure, (some (58, true))⟩,
     ⟨(some 60), .mov (.tmp 0), (some (58, true))⟩,
     ⟨(some 61), .load (some 4) (.tmp 4), (some (58, true))⟩,
     ⟨(some 62), .call (.func 31) [(.tmp 59), (.tmp 60), (.tmp 61)] .pure, (some (58, true))⟩,
     ⟨(some 63), .load (some 16) (.tmp 7), (some (58, true))⟩,
     ⟨(some 64), .call (.func 35) [(.tmp 62), (.tmp 63)] .pure, (some (58, true))⟩,
     ⟨(some 65), .pick (.tmp 58) (.tmp 64) (.const (.bool false)), none⟩,
     ⟨(some 6), .mov (.tmp 65), none⟩]) (
  .ret)))))))))))
theorem r9 : Runs Try.prog 9 m9.strip [.mov (.tmp 6)] 66 := ⟨by kernel_rfl, by kernel_rfl, Try.f9, Try.f9.body.getD .skip, Try.func9, by kernel_rfl, by kernel_rfl, by kernel_rfl, by kernel_rfl, by kernel_rfl⟩

/-- arbour/arbourlaw04.BoxOrder -/
def m10 : MC :=
  .seq (
   .reg [⟨(some 3), .box 42 16 (.tmp 0), none⟩,
     ⟨(some 4), .box 42 16 (.tmp 1), none⟩,
     ⟨(some 5), .box 42 16 (.tmp 2), none⟩,
     ⟨(some 6), .mov (.const (.bool false)), none⟩]) (
  .trim [3, 4, 5] [3, 4, 5] [] (
  .seq (
   .seq (
    .reg [⟨(some 7), .call (.func 25) [] .pure, none⟩,
      ⟨(some 8), .un .not (.tmp 7), none⟩,
      ⟨(some 9), .mov (.tmp 8), none⟩,
      ⟨(some 10), .load (some 16) (.tmp 3), (some (9, false))⟩,
      ⟨(some 11), .load (some 16) (.tmp 4), (some (9, false))⟩,
      ⟨(some 12), .load (some 16) (.tmp 5), (some (9, false))⟩,
      ⟨(some 13), .bslice 42 16 [(.val (.bool false)), (.sl none []), (.val (.bool false)), (.sl none []), (.val (.bool false)), (.sl none []), (.val (.bool false)), (.sl none []), (.val (.bool false)), (.sl none []), (.val (.bool false)), (.sl none []), (.val (.bool false)), (.sl none []), (.val (.bool false)), (.sl none [])] 3 [(0, 16, (.tmp 10)), (16, 16, (.tmp 11)), (32, 16, (.tmp 12))], (some (9, false))⟩,
      ⟨(some 14), .call (.func 26) [(.tmp 13)] .pure, (some (9, false))⟩,
      ⟨(some 15), .un .not (.tmp 14), (some (9, false))⟩,
      ⟨(some 16), .pick (.tmp 9) (.const (.bool true)) (.tmp 15), none⟩,
      ⟨(some 17), .mov (.tmp 16), none⟩,
      ⟨(some 18), .load (some 16) (.tmp 3), (some (17, false))⟩,
      ⟨(some 19), .call (.func 27) [(.tmp 18)] .pure, (some (17, false))⟩,
      ⟨(some 20), .un .not (.tmp 19), (some (17, false))⟩,
      ⟨(some 21), .pick (.tmp 17) (.const (.bool true)) (.tmp 20), none⟩,
      ⟨(some 22), .mov (.tmp 21), none⟩,
      ⟨(some 23), .load (some 16) (.tmp 4), (some (22, false))⟩,
      ⟨(some 24), .call (.func 27) [(.tmp 23)] .pure, (some (22, false))⟩,
      ⟨(some 25), .un .not (.tmp 24), (some (22, false))⟩,
      ⟨(some 26), .pick (.tmp 22) (.const (.bool true)) (.tmp 25), none⟩,
      ⟨(some 27), .mov (.tmp 26), none⟩,
      ⟨(some 28), .load (some 16) (.tmp 5), (some (27, false))⟩,
      ⟨(some 29), .call (.func 27) [(.tmp 28)] .pure, (some (27, false))⟩,
      ⟨(some 30), .un .not (.tmp 29), (some (27, false))⟩,
      ⟨(some 31), .pick (.tmp 27) (.const (.bool true)) (.tmp 30), none⟩]) (
   .trim [3, 4, 5, 31] [3, 4, 5] [] (
   .cond (.tmp 31) (
     .seq (
      .reg [⟨(some 32), .call (.func 25) [] .pure, none⟩,
        ⟨(some 6), .mov (.tmp 32), none⟩]) (
     .ret)) (
     .skip)))) (
  .trim [3, 4, 5] [3, 4, 5] [] (
  .seq (
   .dreg 49 [⟨(some 33), .load (some 16) (.tmp 3), none⟩,
     ⟨(some 34), .load (some 16) (.tmp 4), none⟩,
     ⟨(some 35), .call (.func 30) [(.tmp 33), (.tmp 34)] .pure, none⟩,
     ⟨(some 36), .un .not (.tmp 35), none⟩,
     ⟨(some 37), .mov (.tmp 36), none⟩,
     ⟨(some 38), .load (some 16) (.tmp 4), (some (37, false))⟩,
     ⟨(some 39), .load (some 16) (.tmp 5), (some (37, false))⟩,
     ⟨(some 40), .call (.func 30) [(.tmp 38), (.tmp 39)] .pure, (some (37, false))⟩,
     ⟨(some 41), .un .not (.tmp 40), (some (37, false))⟩,
     ⟨(some 42), .pick (.tmp 37) (.const (.bool true)) (.tmp 41), none⟩,
     ⟨(some 43), .mov (.tmp 42), none⟩,
     ⟨(some 44), .load (some 16) (.tmp 3), (some (43, false))⟩,
     ⟨(some 45), .load (some 16) (.tmp 5), (some (43, false))⟩,
     ⟨(some 46), .call (.func 30) [(.tmp 44), (.tmp 45)] .pure, (some (43, false))⟩,
     ⟨(some 47), .pick (.tmp 43) (.const (.bool true)) (.tmp 46), none⟩,
     ⟨(some 48), .mov (.tmp 47), none⟩,
     ⟨(some 49), .load (some 16) (.tmp 3), (some (48, true))⟩,
     ⟨(some 50), .load (some 16) (.tmp 4), (some (48, true))⟩,
     ⟨(some 51), .call (.func 30) [(.tmp 49), (.tmp 50)] .pure, (some (48, true))⟩,
     ⟨(some 52), .mov (.tmp 51), (some (48, true))⟩,
     ⟨(some 53), .load (some 16) (.tmp 3), (some (52, true))⟩,
     ⟨(some 54), .load (some 16) (.tmp 5), (some (52, true))⟩,
     ⟨(some 55), .call (.func 30) [(.tmp 53), (.tmp 54)] .pure, (some (52, true))⟩,
     ⟨(some 56), .pick (.tmp 52) (.tmp 55) (.const (.bool false)), (some (48, true))⟩,
     ⟨(some 57), .load (some 16) (.tmp 3), (some (48, true))⟩,
     ⟨(some 58), .load (some 16) (.tmp 4), (some (48, true))⟩,
     ⟨(some 59), .load (some 16) (.tmp 5), (some (48, true))⟩,
     ⟨(some 60), .call (.func 28) [(.tmp 58), (.tmp 59)] .pure, (some (48, true))⟩,
     ⟨(some 61), .call (.func 30) [(.tmp 57), (.tmp 60)] .pure, (some (48, true))⟩,
     ⟨(some 62), .binB false (.tmp 56) (.tmp 61), (some (48, true))⟩,
     ⟨(some 63), .pick (.tmp 48) (.tmp 62) (.const (.bool false)), none⟩,
     ⟨(some 64), .mov (.tmp 63), none⟩,
     ⟨(some 65), .load (some 16) (.tmp 3), (some (64, true))⟩,
     ⟨(some 66), .load (some 16) (.tmp 3), (some (64, true))⟩,
     ⟨(some 67), .call (.func 30) [(.tmp 65), (.tmp 66)] .pure, (some (64, true))⟩,
     ⟨(some 68), .pick (.tmp 64) (.tmp 67) (.const (.bool false)), none⟩,
     ⟨(some 69), .mov (.tmp 68), none⟩,
     ⟨(some 70), .load (some 16) (.tmp 3), (some (69, true))⟩,
     ⟨(some 71), .call (.func 34) [] .pure, (some (69, true))⟩,
     ⟨(some 72), .call (.func 30) [(.tmp 70), (.tmp 71)] .pure, (some (69, true))⟩,
     ⟨(some 73), .pick (.tmp 69) (.tmp 72) (.const (.bool false)), none⟩,
     ⟨(some 74), .mov (.tmp 73), none⟩,
     ⟨(some 75), .load (some 16) (.tmp 3), (some (74, true))⟩,
     ⟨(some 76), .call (.func 34) [] .pure, (some (74, true))⟩,
     ⟨(some 77), .call (.func 28) [(.tmp 75), (.tmp 76)] .pure, (some (74, true))⟩,
     ⟨(some 78), .load (some 16) (.tmp 3), (some (74, true))⟩,
     ⟨(some 79), .call (.func 35) [(.tmp 77), (.tmp 78)] .pure, (some (74, true))⟩,
     ⟨(some 80), .pick (.tmp 74) (.tmp 79) (.const (.bool false)), none⟩,
     ⟨(some 6), .mov (.tmp 80), none⟩]) (
  .ret)))))
theorem r10 : Runs Try.prog 10 m10.strip [.mov (.tmp 6)] 81 := ⟨by kernel_rfl, by kernel_rfl, Try.f10, Try.f10.body.getD .skip, Try.func10, by kernel_rfl, by kernel_rfl, by kernel_rfl, by kernel_rfl, by kernel_rfl⟩

/-- arbour/arbourlaw04.awake -/
def m25 : MC :=
  .seq (
   .reg [⟨(some 0), .mov (.const (.bool false)), none⟩]) (
  .trim [] [] [] (
  .seq (
   .reg [⟨(some 6), .build [(.val (.int .i64 0)), (.val (.int .i64 0))] [(0, 1, (.const (.int .i64 1))), (1, 1, (.const (.int .i64 5)))], none⟩,
     ⟨(some 7), .bslice 63 2 [(.val (.int .i64 0)), (.val (.int .i64 0))] 1 [(0, 2, (.tmp 6))], none⟩,
     ⟨(some 8), .build [(.val (.bool false)), (.sl none []), (.val (.bool false)), (.sl none [])] [(1, 1, (.tmp 7))], none⟩,
     ⟨(some 9), .call (.func 33) [(.const (.int .i64 0)), (.tmp 8)] .pure, none⟩,
     ⟨(some 1), .alloc 42 [(.val (.bool false)), (.sl none []), (.val (.bool false)), (.sl none []), (.val (.bool false)), (.sl none []), (.val (.bool false)), (.sl none []), (.val (.bool false)), (.sl none []), (.val (.bool false)), (.sl none []), (.val (.bool false)), (.sl none []), (.val (.bool false)), (.sl none [])], none⟩,
     ⟨none, .store 16 (.tmp 1) (.tmp 9), none⟩]) (
  .trim [1] [1] [] (
  .seq (
   .reg [⟨(some 10), .bslice 9 1 [(.val (.string ⟨#[]⟩))] 1 [(0, 1, (.const (.string ⟨#[120]⟩)))], none⟩,
     ⟨(some 11), .build [(.val (.bool false)), (.sl none []), (.val (.bool false)), (.sl none [])] [(3, 1, (.tmp 10))], none⟩,
     ⟨(some 12), .call (.func 33) [(.const (.int .i64 1)), (.tmp 11)] .pure, none⟩,
     ⟨(some 2), .alloc 42 [(.val (.bool false)), (.sl none []), (.val (.bool false)), (.sl none []), (.val (.bool false)), (.sl none []), (.val (.bool false)), (.sl none []), (.val (.bool false)), (.sl none []), (.val (.bool false)), (.sl none []), (.val (.bool false)), (.sl none []), (.val (.bool false)), (.sl none [])], none⟩,
     ⟨none, .store 16 (.tmp 2) (.tmp 12), none⟩]) (
  .trim [1, 2] [1, 2] [] (
  .seq (
   .reg [⟨(some 14), .load (some 16) (.tmp 1), none⟩,
     ⟨(some 15), .load (some 16) (.tmp 2), none⟩,
     ⟨(some 16), .call (.func 32) [(.tmp 14), (.tmp 15)] .pure, none⟩,
     ⟨(some 13), .mov (.tmp 16), none⟩,
     ⟨(some 17), .ext (.tmp 13) 0, none⟩,
     ⟨(some 18), .ext (.tmp 13) 1, none⟩,
     ⟨(some 3), .mov (.tmp 17), none⟩,
     ⟨(some 4), .mov (.tmp 18), none⟩]) (
  .trim [1, 2, 3, 4] [1, 2] [] (
  .seq (
   .reg [⟨(some 19), .build [(.val (.int .i64 0)), (.val (.int .i64 0)), (.val (.string ⟨#[]⟩))] [(0, 1, (.const (.int .i64 1))), (1, 1, (.const (.int .i64 3)))], none⟩,
     ⟨(some 20), .build [(.val (.int .i64 0)), (.val (.int .i64 0)), (.val (.string ⟨#[]⟩))] [(0, 1, (.const (.int .i64 2))), (2, 1, (.const (.string ⟨#[120]⟩)))], none⟩,
     ⟨(some 21), .build [(.val (.int .i64 0)), (.val (.int .i64 0)), (.val (.string ⟨#[]⟩)), (.val (.int .i64 0)), (.val (.int .i64 0)), (.val (.string ⟨#[]⟩)), (.val (.int .i64 0)), (.val (.int .i64 0)), (.val (.string ⟨#[]⟩)), (.val (.int .i64 0)), (.val (.int .i64 0)), (.val (.string ⟨#[]⟩))] [(0, 3, (.tmp 19)), (3, 3, (.tmp 20))], none⟩,
     ⟨(some 5), .alloc 44 [(.val (.int .i64 0)), (.val (.int .i64 0)), (.val (.string ⟨#[]⟩)), (.val (.int .i64 0)), (.val (.int .i64 0)), (.val (.string ⟨#[]⟩)), (.val (.int .i64 0)), (.val (.int .i64 0)), (.val (.string ⟨#[]⟩)), (.val (.int .i64 0)), (.val (.int .i64 0)), (.val (.string ⟨#[]⟩))], none⟩,
     ⟨none, .store 12 (.tmp 5) (.tmp 21), none⟩]) (
  .trim [1, 2, 3, 4, 5] [1, 2, 5] [] (
  .seq (
   .dreg 47 [⟨(some 22), .mov (.tmp 3), none⟩,
     ⟨(some 23), .bin .eql (.tmp 22) (.const (.int .i64 2)), none⟩,
     ⟨(some 24), .mov (.tmp 23), none⟩,
     ⟨(some 25), .mov (.tmp 4), (some (24, true))⟩,
     ⟨(some 26), .bin .eql (.tmp 25) (.const (.int .i64 0)), (some (24, true))⟩,
     ⟨(some 27), .pick (.tmp 24) (.tmp 26) (.const (.bool false)), none⟩,
     ⟨(some 28), .mov (.tmp 27), none⟩,
     ⟨(some 29), .load (some 16) (.tmp 1), (some (28, true))⟩,
     ⟨(some 30), .load (some 16) (.tmp 2), (some (28, true))⟩,
     ⟨(some 31), .call (.func 28) [(.tmp 29), (.tmp 30)] .pure, (some (28, true))⟩,
     ⟨(some 32), .load (some 12) (.tmp 5), (some (28, true))⟩,
     ⟨(some 33), .call (.func 36) [(.tmp 31), (.tmp 32)] .pure, (some (28, true))⟩,
     ⟨(some 34), .pick (.tmp 28) (.tmp 33) (.const (.bool false)), none⟩,
     ⟨(some 35), .mov (.tmp 34), none⟩,
     ⟨(some 36), .load (some 16) (.tmp 1), (some (35, true))⟩,
     ⟨(some 37), .build [(.val (.int .i64 0)), (.val (.int .i64 0)), (.val (.string ⟨#[]⟩)), (.val (.int .i64 0)), (.val (.int .i64 0)), (.val (.string ⟨#[]⟩)), (.val (.int .i64 0)), (.val (.int .i64 0)), (.val (.string ⟨#[]⟩)), (.val (.int .i64 0)), (.val (.int .i64 0)), (.val (.string ⟨#[]⟩))] [], (some (35, true))⟩,
     ⟨(some 38), .call (.func 36) [(.tmp 36), (.tmp 37)] .pure, (some (35, true))⟩,
     ⟨(some 39), .un .not (.tmp 38), (some (35, true))⟩,
     ⟨(some 40), .pick (.tmp 35) (.tmp 39) (.const (.bool false)), none⟩,
     ⟨(some 41), .mov (.tmp 40), none⟩,
     ⟨(some 42), .load (some 16) (.tmp 1), (some (41, true))⟩,
     ⟨(some 43), .load (some 16) (.tmp 2), (some (41, true))⟩,
     ⟨(some 44), .call (.func 28) [(.tmp 42), (.tmp 43)] .pure, (some (41, true))⟩,
     ⟨(some 45), .load (some 16) (.tmp 1), (some (41, true))⟩,
     ⟨(some 46), .call (.func 30) [(.tmp 44), (.tmp 45)] .pure, (some (41, true))⟩,
     ⟨(some 47), .pick (.tmp 41) (.tmp 46) (.const (.bool false)), none⟩,
     ⟨(some 48), .mov (.tmp 47), none⟩,
     ⟨(some 49), .load (some 16) (.tmp 1), (some (48, true))⟩,
     ⟨(some 50), .load (some 16) (.tmp 2), (some (48, true))⟩,
     ⟨(some 51), .call (.func 30) [(.tmp 49), (.tmp 50)] .pure, (some (48, true))⟩,
     ⟨(some 52), .un .not (.tmp 51), (some (48, true))⟩,
     ⟨(some 53), .pick (.tmp 48) (.tmp 52) (.const (.bool false)), none⟩,
     ⟨(some 54), .mov (.tmp 53), none⟩,
     ⟨(some 55), .call (.func 34) [] .pure, (some (54, true))⟩,
     ⟨(some 56), .load (some 12) (.tmp 5), (some (54, true))⟩,
     ⟨(some 57), .call (.func 36) [(.tmp 55), (.tmp 56)] .pure, (some (54, true))⟩,
     ⟨(some 58), .pick (.tmp 54) (.tmp 57) (.const (.bool false)), none⟩,
     ⟨(some 59), .mov (.tmp 58), none⟩,
     ⟨(some 60), .load (some 16) (.tmp 1), (some (59, true))⟩,
     ⟨(some 61), .call (.func 53) [(.tmp 60)] .pure, (some (59, true))⟩,
     ⟨(some 62), .un .not (.tmp 61), (some (59, true))⟩,
     ⟨(some 63), .pick (.tmp 59) (.tmp 62) (.const (.bool false)), none⟩,
     ⟨(some 64), .mov (.tmp 63), none⟩,
     ⟨(some 65), .build [(.val (.bool false)), (.sl none []), (.val (.bool false)), (.sl none []), (.val (.bool false)), (.sl none []), (.val (.bool false)), (.sl none []), (.val (.bool false)), (.sl none []), (.val (.bool false)), (.sl none []), (.val (.bool false)), (.sl none []), (.val (.bool false)), (.sl none [])] [], (some (64, true))⟩,
     ⟨(some 66), .call (.func 53) [(.tmp 65)] .pure, (some (64, true))⟩,
     ⟨(some 67), .pick (.tmp 64) (.tmp 66) (.const (.bool false)), none⟩,
     ⟨(some 0), .mov (.tmp 67), none⟩]) (
  .ret)))))))))))
theorem r25 : Runs Try.prog 25 m25.strip [.mov (.tmp 0)] 68 := ⟨by kernel_rfl, by kernel_rfl, Try.f25, Try.f25.body.getD .skip, Try.func25, by kernel_rfl, by kernel_rfl, by kernel_rfl, by kernel_rfl, by kernel_rfl⟩

/-- arbour/arbourref04.Few -/
def m26 : MC :=
  .seq (
   .reg [⟨(some 2), .mov (.const (.bool false)), none⟩]) (
  .trim [0] [] [] (
  .seq (
   .seq (
    .reg [⟨(some 3), .mov (.const (.int .i64 0)), none⟩]) (
   .trim [0, 3] [] [] (
   .block 0 (
    .loop (
     .trim [0, 3] [] [] (
     .seq (
      .seq (
       .reg [⟨(some 4), .mov (.tmp 3), none⟩,
         ⟨(some 5), .mov (.tmp 0), none⟩,
         ⟨(some 6), .lenL (.tmp 5), none⟩,
         ⟨(some 7), .bin .lss (.tmp 4) (.tmp 6), none⟩]) (
      .trim [0, 3, 7] [] [] (
      .cond (.tmp 7) (
        .skip) (
        .exit 0)))) (
     .trim [0, 3] [] [] (
     .seq (
      .block 1 (
       .seq (
        .dreg 23 [⟨(some 10), .mov (.tmp 0), none⟩,
          ⟨(some 11), .mov (.tmp 3), none⟩,
          ⟨(some 12), .iaddrS 16 (.tmp 10) (.tmp 11), none⟩,
          ⟨(some 13), .iaddrA 4 4 (.tmp 12) (.const (.int .i64 0)), none⟩,
          ⟨(some 14), .load (some 4) (.tmp 13), none⟩,
          ⟨(some 15), .mov (.tmp 0), none⟩,
          ⟨(some 16), .mov (.tmp 3), none⟩,
          ⟨(some 17), .iaddrS 16 (.tmp 15) (.tmp 16), none⟩,
          ⟨(some 18), .iaddrA 4 4 (.tmp 17) (.const (.int .i64 1)), none⟩,
          ⟨(some 19), .load (some 4) (.tmp 18), none⟩,
          ⟨(some 20), .mov (.tmp 0), none⟩,
          ⟨(some 21), .mov (.tmp 3), none⟩,
          ⟨(some 22), .iaddrS 16 (.tmp 20) (.tmp 21), none⟩,
          ⟨(some 23), .iaddrA 4 4 (.tmp 22) (.const (.int .i64 2)), none⟩,
          ⟨(some 24), .load (some 4) (.tmp 23), none⟩,
          ⟨(some 25), .mov (.tmp 0), none⟩,
          ⟨(some 26), .mov (.tmp 3), none⟩,
          ⟨(some 27), .iaddrS 16 (.tmp 25) (.tmp 26), none⟩,
          ⟨(some 28), .iaddrA 4 4 (.tmp 27) (.const (.int .i64 3)), none⟩,
          ⟨(some 29), .load (some 4) (.tmp 28), none⟩,
          ⟨(some 30), .bslice 25 4 [(.val (.bool false)), (.sl none []), (.val (.bool false)), (.sl none [])] 4 [(0, 4, (.tmp 14)), (4, 4, (.tmp 19)), (8, 4, (.tmp 24)), (12, 4, (.tmp 29))], none⟩,
          ⟨(some 31), .call (.func 12) [(.tmp 30)] .pure, none⟩,
          ⟨(some 32), .un .not (.tmp 31), none⟩]) (
       .trim [0, 3, 32] [] [] (
       .cond (.tmp 32) (
         .seq (
          .reg [⟨(some 2), .mov (.const (.bool false)), none⟩]) (
         .ret)) (
         .skip))))) (
     .trim [0, 3] [] [] (
     .reg [⟨(some 8), .mov (.tmp 3), none⟩,
       ⟨(some 9), .bin .add (.tmp 8) (.const (.int .i64 1)), none⟩,
       ⟨(some 3), .mov (.tmp 9), none⟩])))))))))) (
  .trim [] [] [] (
  .seq (
   .reg [⟨(some 2), .mov (.const (.bool true)), none⟩]) (
  .ret)))))
theorem r26 : Runs Try.prog 26 m26.strip [.mov (.tmp 2)] 33 := ⟨by kernel_rfl, by kernel_rfl, Try.f26, Try.f26.body.getD .skip, Try.func26, by kernel_rfl, by kernel_rfl, by kernel_rfl, by kernel_rfl, by kernel_rfl⟩

/-- arbour/arbourref04.Right -/
def m27 : MC :=
  .seq (
   .reg [⟨(some 1), .box 42 16 (.tmp 0), none⟩,
     ⟨(some 2), .mov (.const (.bool false)), none⟩]) (
  .trim [1] [1] [] (
  .seq (
   .seq (
    .reg [⟨(some 3), .mov (.const (.int .i64 0)), none⟩]) (
   .trim [1, 3] [1] [] (
   .block 0 (
    .loop (
     .trim [1, 3] [1] [] (
     .seq (
      .seq (
       .reg [⟨(some 4), .mov (.tmp 3), none⟩,
         ⟨(some 5), .bin .lss (.tmp 4) (.const (.int .i64 4)), none⟩]) (
      .trim [1, 3, 5] [1] [] (
      .cond (.tmp 5) (
        .skip) (
        .exit 0)))) (
     .trim [1, 3] [1] [] (
     .seq (
      .block 1 (
       .seq (
        .reg [⟨(some 8), .mov (.tmp 3), none⟩,
          ⟨(some 9), .iaddrA 4 4 (.tmp 1) (.tmp 8), none⟩,
          ⟨(some 10), .load (some 4) (.tmp 9), none⟩,
          ⟨(some 11), .call (.func 13) [(.tmp 10)] .pure, none⟩,
          ⟨(some 12), .un .not (.tmp 11), none⟩]) (
       .trim [1, 3, 12] [1] [] (
       .cond (.tmp 12) (
         .seq (
          .reg [⟨(some 2), .mov (.const (.bool false)), none⟩]) (
         .ret)) (
         .skip))))) (
     .trim [1, 3] [1] [] (
     .reg [⟨(some 6), .mov (.tmp 3), none⟩,
       ⟨(some 7), .bin .add (.tmp 6) (.const (.int .i64 1)), none⟩,
       ⟨(some 3), .mov (.tmp 7), none⟩])))))))))) (
  .trim [] [] [] (
  .seq (
   .reg [⟨(some 2), .mov (.const (.bool true)), none⟩]) (
  .ret)))))
theorem r27 : Runs Try.prog 27 m27.strip [.mov (.tmp 2)] 13 := ⟨by kernel_rfl, by kernel_rfl, Try.f27, Try.f27.body.getD .skip, Try.func27, by kernel_rfl, by kernel_rfl, by kernel_rfl, by kernel_rfl, by kernel_rfl⟩

/-- arbour/box.And -/
def m28 : MC :=
  .seq (
   .reg [⟨(some 2), .box 42 16 (.tmp 0), none⟩,
     ⟨(some 3), .box 42 16 (.tmp 1), none⟩,
     ⟨(some 4), .alloc 42 [(.val (.bool false)), (.sl none []), (.val (.bool false)), (.sl none []), (.val (.bool false)), (.sl none []), (.val (.bool false)), (.sl none []), (.val (.bool false)), (.sl none []), (.val (.bool false)), (.sl none []), (.val (.bool false)), (.sl none []), (.val (.bool false)), (.sl none [])], none⟩]) (
  .trim [2, 3, 4] [2, 3, 4] [] (
  .seq (
   .seq (
    .reg [⟨(some 6), .mov (.const (.int .i64 0)), none⟩]) (
   .trim [2, 3, 4, 6] [2, 3, 4] [] (
   .block 0 (
    .loop (
     .trim [2, 3, 4, 6] [2, 3, 4] [] (
     .seq (
      .reg [⟨(some 7), .bin .lss (.tmp 6) (.const (.int .i64 4)), none⟩]) (
     .trim [2, 3, 4, 6, 7] [2, 3, 4] [] (
     .seq (
      .cond (.tmp 7) (
        .skip) (
        .exit 0)) (
     .trim [2, 3, 4, 6] [2, 3, 4] [] (
     .seq (
      .block 1 (
       .seq (
        .reg [⟨(some 8), .mov (.tmp 6), none⟩,
          ⟨(some 5), .mov (.tmp 8), none⟩]) (
       .trim [2, 3, 4, 5, 6] [2, 3, 4] [] (
       .dreg 9 [⟨(some 9), .mov (.tmp 5), none⟩,
         ⟨(some 10), .mov (.tmp 5), none⟩,
         ⟨(some 11), .iaddrA 4 4 (.tmp 2) (.tmp 10), none⟩,
         ⟨(some 12), .load (some 4) (.tmp 11), none⟩,
         ⟨(some 13), .mov (.tmp 5), none⟩,
         ⟨(some 14), .iaddrA 4 4 (.tmp 3) (.tmp 13), none⟩,
         ⟨(some 15), .load (some 4) (.tmp 14), none⟩,
         ⟨(some 16), .call (.func 16) [(.tmp 12), (.tmp 15)] .pure, none⟩,
         ⟨(some 17), .iaddrA 4 4 (.tmp 4) (.tmp 9), none⟩,
         ⟨none, .store 4 (.tmp 17) (.tmp 16), none⟩])))) (
     .trim [2, 3, 4, 6] [2, 3, 4] [] (
     .reg [⟨(some 18), .bin .add (.tmp 6) (.const (.int .i64 1)), none⟩,
       ⟨(some 6), .mov (.tmp 18), none⟩])))))))))))) (
  .trim [4] [4] [] (
  .seq (
   .reg [⟨(some 19), .load (some 16) (.tmp 4), none⟩,
     ⟨none, .store 16 (.tmp 4) (.tmp 19), none⟩]) (
  .ret)))))
theorem r28 : Runs Try.prog 28 m28.strip [.load (some 16) (.tmp 4)] 20 := ⟨by kernel_rfl, by kernel_rfl, Try.f28, Try.f28.body.getD .skip, Try.func28, by kernel_rfl, by kernel_rfl, by kernel_rfl, by kernel_rfl, by kernel_rfl⟩

/-- arbour/arbourref04.Has -/
def m29 : MC :=
  .seq (
   .reg [⟨(some 2), .box 42 16 (.tmp 0), none⟩,
     ⟨(some 3), .box 44 12 (.tmp 1), none⟩,
     ⟨(some 4), .mov (.const (.bool false)), none⟩]) (
  .trim [2, 3] [2, 3] [] (
  .seq (
   .seq (
    .reg [⟨(some 6), .load (some 12) (.tmp 3), none⟩,
      ⟨(some 7), .call (.func 54) [(.tmp 6)] .pure, none⟩,
      ⟨(some 8), .un .not (.tmp 7), none⟩]) (
   .trim [2, 3, 8] [2, 3] [] (
   .cond (.tmp 8) (
     .seq (
      .reg [⟨(some 4), .mov (.const (.bool false)), none⟩]) (
     .ret)) (
     .skip)))) (
  .trim [2, 3] [2, 3] [] (
  .seq (
   .seq (
    .reg [⟨(some 5), .mov (.const (.int .i64 0)), none⟩]) (
   .trim [2, 3, 5] [2, 3] [] (
   .block 0 (
    .loop (
     .trim [2, 3, 5] [2, 3] [] (
     .seq (
      .seq (
       .reg [⟨(some 9), .mov (.tmp 5), none⟩,
         ⟨(some 10), .bin .lss (.tmp 9) (.const (.int .i64 4)), none⟩]) (
      .trim [2, 3, 5, 10] [2, 3] [] (
      .cond (.tmp 10) (
        .skip) (
        .exit 0)))) (
     .trim [2, 3, 5] [2, 3] [] (
     .seq (
      .block 1 (
       .seq (
        .dreg 8 [⟨(some 13), .mov (.tmp 5), none⟩,
          ⟨(some 14), .iaddrA 4 4 (.tmp 2) (.tmp 13), none⟩,
          ⟨(some 15), .load (some 4) (.tmp 14), none⟩,
          ⟨(some 16), .mov (.tmp 5), none⟩,
          ⟨(some 17), .iaddrA 4 3 (.tmp 3) (.tmp 16), none⟩,
          ⟨(some 18), .load (some 3) (.tmp 17), none⟩,
          ⟨(some 19), .call (.func 19) [(.tmp 15), (.tmp 18)] .pure, none⟩,
          ⟨(some 20), .un .not (.tmp 19), none⟩]) (
       .trim [2, 3, 5, 20] [2, 3] [] (
       .cond (.tmp 20) (
         .seq (
          .reg [⟨(some 4), .mov (.const (.bool false)), none⟩]) (
         .ret)) (
         .skip))))) (
     .trim [2, 3, 5] [2, 3] [] (
     .reg [⟨(some 11), .mov (.tmp 5), none⟩,
       ⟨(some 12), .bin .add (.tmp 11) (.const (.int .i64 1)), none⟩,
       ⟨(some 5), .mov (.tmp 12), none⟩])))))))))) (
  .trim [] [] [] (
  .seq (
   .reg [⟨(some 4), .mov (.const (.bool true)), none⟩]) (
  .ret)))))))
theorem r29 : Runs Try.prog 29 m29.strip [.mov (.tmp 4)] 21 := ⟨by kernel_rfl, by kernel_rfl, Try.f29, Try.f29.body.getD .skip, Try.func29, by kernel_rfl, by kernel_rfl, by kernel_rfl, by kernel_rfl, by kernel_rfl⟩

/-- arbour/box.In -/
def m30 : MC :=
  .seq (
   .reg [⟨(some 2), .box 42 16 (.tmp 0), none⟩,
     ⟨(some 3), .box 42 16 (.tmp 1), none⟩,
     ⟨(some 4), .mov (.const (.bool false)), none⟩]) (
  .trim [2, 3] [2, 3] [] (
  .seq (
   .seq (
    .reg [⟨(some 6), .load (some 16) (.tmp 2), none⟩,
      ⟨(some 7), .call (.func 53) [(.tmp 6)] .pure, none⟩]) (
   .trim [2, 3, 7] [2, 3] [] (
   .cond (.tmp 7) (
     .seq (
      .reg [⟨(some 4), .mov (.const (.bool true)), none⟩]) (
     .ret)) (
     .skip)))) (
  .trim [2, 3] [2, 3] [] (
  .seq (
   .seq (
    .reg [⟨(some 8), .mov (.const (.int .i64 0)), none⟩]) (
   .trim [2, 3, 8] [2, 3] [] (
   .block 0 (
    .loop (
     .trim [2, 3, 8] [2, 3] [] (
     .seq (
      .reg [⟨(some 9), .bin .lss (.tmp 8) (.const (.int .i64 4)), none⟩]) (
     .trim [2, 3, 8, 9] [2, 3] [] (
     .seq (
      .cond (.tmp 9) (
        .skip) (
        .exit 0)) (
     .trim [2, 3, 8] [2, 3] [] (
     .seq (
      .block 1 (
       .seq (
        .reg [⟨(some 10), .mov (.tmp 8), none⟩,
          ⟨(some 5), .mov (.tmp 10), none⟩]) (
       .trim [2, 3, 5, 8] [2, 3] [] (
       .seq (
        .dreg 8 [⟨(some 11), .mov (.tmp 5), none⟩,
          ⟨(some 12), .iaddrA 4 4 (.tmp 2) (.tmp 11), none⟩,
          ⟨(some 13), .load (some 4) (.tmp 12), none⟩,
          ⟨(some 14), .mov (.tmp 5), none⟩,
          ⟨(some 15), .iaddrA 4 4 (.tmp 3) (.tmp 14), none⟩,
          ⟨(some 16), .load (some 4) (.tmp 15), none⟩,
          ⟨(some 17), .call (.func 23) [(.tmp 13), (.tmp 16)] .pure, none⟩,
          ⟨(some 18), .un .not (.tmp 17), none⟩]) (
       .trim [2, 3, 8, 18] [2, 3] [] (
       .cond (.tmp 18) (
         .seq (
          .reg [⟨(some 4), .mov (.const (.bool false)), none⟩]) (
         .ret)) (
         .skip))))))) (
     .trim [2, 3, 8] [2, 3] [] (
     .reg [⟨(some 19), .bin .add (.tmp 8) (.const (.int .i64 1)), none⟩,
       ⟨(some 8), .mov (.tmp 19), none⟩])))))))))))) (
  .trim [] [] [] (
  .seq (
   .reg [⟨(some 4), .mov (.const (.bool true)), none⟩]) (
  .ret)))))))
theorem r30 : Runs Try.prog 30 m30.strip [.mov (.tmp 4)] 20 := ⟨by kernel_rfl, by kernel_rfl, Try.f30, Try.f30.body.getD .skip, Try.func30, by kernel_rfl, by kernel_rfl, by kernel_rfl, by kernel_rfl, by kernel_rfl⟩

/-- arbour/box.With -/
def m31 : MC :=
  .seq (
   .reg [⟨(some 3), .box 42 16 (.tmp 0), none⟩,
     ⟨(some 5), .box 25 4 (.tmp 2), none⟩,
     ⟨(some 6), .alloc 42 [(.val (.bool false)), (.sl none []), (.val (.bool false)), (.sl none []), (.val (.bool false)), (.sl none []), (.val (.bool false)), (.sl none []), (.val (.bool false)), (.sl none []), (.val (.bool false)), (.sl none []), (.val (.bool false)), (.sl none []), (.val (.bool false)), (.sl none [])], none⟩]) (
  .trim [1, 3, 5, 6] [3, 5, 6] [] (
  .seq (
   .seq (
    .reg [⟨(some 7), .mov (.tmp 1), none⟩,
      ⟨(some 8), .bin .geq (.tmp 7) (.const (.int .i64 0)), none⟩,
      ⟨(some 9), .mov (.tmp 8), none⟩,
      ⟨(some 10), .mov (.tmp 1), (some (9, true))⟩,
      ⟨(some 11), .bin .lss (.tmp 10) (.const (.int .i64 4)), (some (9, true))⟩,
      ⟨(some 12), .pick (.tmp 9) (.tmp 11) (.const (.bool false)), none⟩]) (
   .trim [1, 3, 5, 6, 12] [3, 5, 6] [] (
   .cond (.tmp 12) (
     .reg [⟨(some 13), .mov (.tmp 1), none⟩,
       ⟨(some 14), .load (some 4) (.tmp 5), none⟩,
       ⟨(some 15), .iaddrA 4 4 (.tmp 3) (.tmp 13), none⟩,
       ⟨none, .store 4 (.tmp 15) (.tmp 14), none⟩]) (
     .skip)))) (
  .trim [3, 6] [3, 6] [] (
  .seq (
   .reg [⟨(some 16), .load (some 16) (.tmp 3), none⟩,
     ⟨none, .store 16 (.tmp 6) (.tmp 16), none⟩]) (
  .ret)))))
theorem r31 : Runs Try.prog 31 m31.strip [.load (some 16) (.tmp 6)] 17 := ⟨by kernel_rfl, by kernel_rfl, Try.f31, Try.f31.body.getD .skip, Try.func31, by kernel_rfl, by kernel_rfl, by kernel_rfl, by kernel_rfl, by kernel_rfl⟩

/-- arbour/box.Differ -/
def m32 : MC :=
  .seq (
   .reg [⟨(some 2), .box 42 16 (.tmp 0), none⟩,
     ⟨(some 3), .box 42 16 (.tmp 1), none⟩,
     ⟨(some 4), .mov (.const (.int .i64 0)), none⟩,
     ⟨(some 5), .mov (.const (.int .i64 0)), none⟩]) (
  .trim [2, 3, 4] [2, 3] [] (
  .seq (
   .reg [⟨(some 5), .mov (.const (.int .i64 (-1))), none⟩]) (
  .trim [2, 3, 4, 5] [2, 3] [] (
  .seq (
   .seq (
    .reg [⟨(some 7), .mov (.const (.int .i64 0)), none⟩]) (
   .trim [2, 3, 4, 5, 7] [2, 3] [] (
   .block 0 (
    .loop (
     .trim [2, 3, 4, 5, 7] [2, 3] [] (
     .seq (
      .reg [⟨(some 8), .bin .lss (.tmp 7) (.const (.int .i64 4)), none⟩]) (
     .trim [2, 3, 4, 5, 7, 8] [2, 3] [] (
     .seq (
      .cond (.tmp 8) (
        .skip) (
        .exit 0)) (
     .trim [2, 3, 4, 5, 7] [2, 3] [] (
     .seq (
      .block 1 (
       .seq (
        .reg [⟨(some 9), .mov (.tmp 7), none⟩,
          ⟨(some 6), .mov (.tmp 9), none⟩]) (
       .trim [2, 3, 4, 5, 6, 7] [2, 3] [] (
       .seq (
        .seq (
         .dreg 7 [⟨(some 10), .mov (.tmp 6), none⟩,
           ⟨(some 11), .iaddrA 4 4 (.tmp 2) (.tmp 10), none⟩,
           ⟨(some 12), .load (some 4) (.tmp 11), none⟩,
           ⟨(some 13), .mov (.tmp 6), none⟩,
           ⟨(some 14), .iaddrA 4 4 (.tmp 3) (.tmp 13), none⟩,
           ⟨(some 15), .load (some 4) (.tmp 14), none⟩,
           ⟨(some 16), .call (.func 17) [(.tmp 12), (.tmp 15)] .pure, none⟩]) (
        .trim [2, 3, 4, 5, 6, 7, 16] [2, 3] [] (
        .cond (.tmp 16) (
          .exit 1) (
          .skip)))) (
       .trim [2, 3, 4, 5, 6, 7] [2, 3] [] (
       .seq (
        .reg [⟨(some 17), .mov (.tmp 4), none⟩,
          ⟨(some 18), .bin .add (.tmp 17) (.const (.int .i64 1)), none⟩,
          ⟨(some 4), .mov (.tmp 18), none⟩]) (
       .trim [2, 3, 4, 5, 6, 7] [2, 3] [] (
       .seq (
        .reg [⟨(some 19), .mov (.tmp 4), none⟩,
          ⟨(some 20), .bin .eql (.tmp 19) (.const (.int .i64 1)), none⟩]) (
       .trim [2, 3, 4, 5, 6, 7, 20] [2, 3] [] (
       .cond (.tmp 20) (
         .reg [⟨(some 21), .mov (.tmp 6), none⟩,
           ⟨(some 5), .mov (.tmp 21), none⟩]) (
         .skip))))))))))) (
     .trim [2, 3, 4, 5, 7] [2, 3] [] (
     .reg [⟨(some 22), .bin .add (.tmp 7) (.const (.int .i64 1)), none⟩,
       ⟨(some 7), .mov (.tmp 22), none⟩])))))))))))) (
  .trim [4, 5] [] [] (
  .seq (
   .reg [⟨(some 23), .mov (.tmp 4), none⟩,
     ⟨(some 24), .mov (.tmp 5), none⟩,
     ⟨(some 4), .mov (.tmp 23), none⟩,
     ⟨(some 5), .mov (.tmp 24), none⟩]) (
  .ret)))))))
theorem r32 : Runs Try.prog 32 m32.strip [.mov (.tmp 4), .mov (.tmp 5)] 25 := ⟨by kernel_rfl, by kernel_rfl, Try.f32, Try.f32.body.getD .skip, Try.func32, by kernel_rfl, by kernel_rfl, by kernel_rfl, by kernel_rfl, by kernel_rfl⟩

/-- arbour/box.Atom -/
def m33 : MC :=
  .seq (
   .reg [⟨(some 3), .box 25 4 (.tmp 1), none⟩,
     ⟨(some 4), .alloc 42 [(.val (.bool false)), (.sl none []), (.val (.bool false)), (.sl none []), (.val (.bool false)), (.sl none []), (.val (.bool false)), (.sl none []), (.val (.bool false)), (.sl none []), (.val (.bool false)), (.sl none []), (.val (.bool false)), (.sl none []), (.val (.bool false)), (.sl none [])], none⟩]) (
  .trim [0, 3, 4] [3, 4] [] (
  .seq (
   .dreg 4 [⟨(some 5), .call (.func 34) [] .pure, none⟩,
     ⟨(some 6), .mov (.tmp 0), none⟩,
     ⟨(some 7), .load (some 4) (.tmp 3), none⟩,
     ⟨(some 8), .call (.func 31) [(.tmp 5), (.tmp 6), (.tmp 7)] .pure, none⟩,
     ⟨none, .store 16 (.tmp 4) (.tmp 8), none⟩]) (
  .ret)))
theorem r33 : Runs Try.prog 33 m33.strip [.load (some 16) (.tmp 4)] 9 := ⟨by kernel_rfl, by kernel_rfl, Try.f33, Try.f33.body.getD .skip, Try.func33, by kernel_rfl, by kernel_rfl, by kernel_rfl, by kernel_rfl, by kernel_rfl⟩

/-- arbour/box.All -/
def m34 : MC :=
  .seq (
   .reg [⟨(some 0), .alloc 42 [(.val (.bool false)), (.sl none []), (.val (.bool false)), (.sl none []), (.val (.bool false)), (.sl none []), (.val (.bool false)), (.sl none []), (.val (.bool false)), (.sl none []), (.val (.bool false)), (.sl none []), (.val (.bool false)), (.sl none []), (.val (.bool false)), (.sl none [])], none⟩]) (
  .trim [0] [0] [] (
  .seq (
   .seq (
    .reg [⟨(some 2), .mov (.const (.int .i64 0)), none⟩]) (
   .trim [0, 2] [0] [] (
   .block 0 (
    .loop (
     .trim [0, 2] [0] [] (
     .seq (
      .reg [⟨(some 3), .bin .lss (.tmp 2) (.const (.int .i64 4)), none⟩]) (
     .trim [0, 2, 3] [0] [] (
     .seq (
      .cond (.tmp 3) (
        .skip) (
        .exit 0)) (
     .trim [0, 2] [0] [] (
     .seq (
      .block 1 (
       .seq (
        .reg [⟨(some 4), .mov (.tmp 2), none⟩,
          ⟨(some 1), .mov (.tmp 4), none⟩]) (
       .trim [0, 1, 2] [0] [] (
       .reg [⟨(some 5), .mov (.tmp 1), none⟩,
         ⟨(some 6), .call (.func 21) [] .pure, none⟩,
         ⟨(some 7), .iaddrA 4 4 (.tmp 0) (.tmp 5), none⟩,
         ⟨none, .store 4 (.tmp 7) (.tmp 6), none⟩])))) (
     .trim [0, 2] [0] [] (
     .reg [⟨(some 8), .bin .add (.tmp 2) (.const (.int .i64 1)), none⟩,
       ⟨(some 2), .mov (.tmp 8), none⟩])))))))))))) (
  .trim [0] [0] [] (
  .seq (
   .reg [⟨(some 9), .load (some 16) (.tmp 0), none⟩,
     ⟨none, .store 16 (.tmp 0) (.tmp 9), none⟩]) (
  .ret)))))
theorem r34 : Runs Try.prog 34 m34.strip [.load (some 16) (.tmp 0)] 10 := ⟨by kernel_rfl, by kernel_rfl, Try.f34, Try.f34.body.getD .skip, Try.func34, by kernel_rfl, by kernel_rfl, by kernel_rfl, by kernel_rfl, by kernel_rfl⟩

/-- arbour/box.Same -/
def m35 : MC :=
  .seq (
   .reg [⟨(some 2), .box 42 16 (.tmp 0), none⟩,
     ⟨(some 3), .box 42 16 (.tmp 1), none⟩,
     ⟨(some 4), .mov (.const (.bool false)), none⟩]) (
  .trim [2, 3] [2, 3] [] (
  .seq (
   .reg [⟨(some 8), .load (some 16) (.tmp 2), none⟩,
     ⟨(some 9), .load (some 16) (.tmp 3), none⟩,
     ⟨(some 10), .call (.func 32) [(.tmp 8), (.tmp 9)] .pure, none⟩,
     ⟨(some 7), .mov (.tmp 10), none⟩,
     ⟨(some 11), .ext (.tmp 7) 0, none⟩,
     ⟨(some 12), .ext (.tmp 7) 1, none⟩,
     ⟨(some 5), .mov (.tmp 11), none⟩,
     ⟨(some 6), .mov (.tmp 12), none⟩]) (
  .trim [5] [] [] (
  .seq (
   .reg [⟨(some 13), .mov (.tmp 5), none⟩,
     ⟨(some 14), .bin .eql (.tmp 13) (.const (.int .i64 0)), none⟩,
     ⟨(some 4), .mov (.tmp 14), none⟩]) (
  .ret)))))
theorem r35 : Runs Try.prog 35 m35.strip [.mov (.tmp 4)] 15 := ⟨by kernel_rfl, by kernel_rfl, Try.f35, Try.f35.body.getD .skip, Try.func35, by kernel_rfl, by kernel_rfl, by kernel_rfl, by kernel_rfl, by kernel_rfl⟩

/-- arbour/box.Has -/
def m36 : MC :=
  .seq (
   .reg [⟨(some 2), .box 42 16 (.tmp 0), none⟩,
     ⟨(some 3), .box 44 12 (.tmp 1), none⟩,
     ⟨(some 4), .mov (.const (.bool false)), none⟩]) (
  .trim [2, 3] [2, 3] [] (
  .seq (
   .seq (
    .reg [⟨(some 7), .load (some 12) (.tmp 3), none⟩,
      ⟨(some 8), .call (.func 55) [(.tmp 7)] .pure, none⟩,
      ⟨(some 9), .un .not (.tmp 8), none⟩]) (
   .trim [2, 3, 9] [2, 3] [] (
   .cond (.tmp 9) (
     .seq (
      .reg [⟨(some 4), .mov (.const (.bool false)), none⟩]) (
     .ret)) (
     .skip)))) (
  .trim [2, 3] [2, 3] [] (
  .seq (
   .seq (
    .reg [⟨(some 10), .load (some 16) (.tmp 2), none⟩,
      ⟨(some 11), .mov (.const (.int .i64 0)), none⟩]) (
   .trim [3, 10, 11] [3] [] (
   .block 0 (
    .loop (
     .trim [3, 10, 11] [3] [] (
     .seq (
      .reg [⟨(some 12), .bin .lss (.tmp 11) (.const (.int .i64 4)), none⟩]) (
     .trim [3, 10, 11, 12] [3] [] (
     .seq (
      .cond (.tmp 12) (
        .skip) (
        .exit 0)) (
     .trim [3, 10, 11] [3] [] (
     .seq (
      .block 1 (
       .seq (
        .reg [⟨(some 13), .mov (.tmp 11), none⟩,
          ⟨(some 14), .idxA 4 4 true (.tmp 10) (.tmp 11), none⟩,
          ⟨(some 6), .alloc 25 [(.val (.bool false)), (.sl none []), (.val (.bool false)), (.sl none [])], none⟩,
          ⟨(some 5), .mov (.tmp 13), none⟩,
          ⟨none, .store 4 (.tmp 6) (.tmp 14), none⟩]) (
       .trim [3, 5, 6, 10, 11] [3, 6] [] (
       .seq (
        .dreg 6 [⟨(some 15), .load (some 4) (.tmp 6), none⟩,
          ⟨(some 16), .mov (.tmp 5), none⟩,
          ⟨(some 17), .iaddrA 4 3 (.tmp 3) (.tmp 16), none⟩,
          ⟨(some 18), .load (some 3) (.tmp 17), none⟩,
          ⟨(some 19), .call (.func 20) [(.tmp 15), (.tmp 18)] .pure, none⟩,
          ⟨(some 20), .un .not (.tmp 19), none⟩]) (
       .trim [3, 10, 11, 20] [3] [] (
       .cond (.tmp 20) (
         .seq (
          .reg [⟨(some 4), .mov (.const (.bool false)), none⟩]) (
         .ret)) (
         .skip))))))) (
     .trim [3, 10, 11] [3] [] (
     .reg [⟨(some 21), .bin .add (.tmp 11) (.const (.int .i64 1)), none⟩,
       ⟨(some 11), .mov (.tmp 21), none⟩])))))))))))) (
  .trim [] [] [] (
  .seq (
   .reg [⟨(some 4), .mov (.const (.bool true)), none⟩]) (
  .ret)))))))
theorem r36 : Runs Try.prog 36 m36.strip [.mov (.tmp 4)] 22 := ⟨by kernel_rfl, by kernel_rfl, Try.f36, Try.f36.body.getD .skip, Try.func36, by kernel_rfl, by kernel_rfl, by kernel_rfl, by kernel_rfl, by kernel_rfl⟩

/-- arbour/box.Empty -/
def m53 : MC :=
  .seq (
   .reg [⟨(some 1), .box 42 16 (.tmp 0), none⟩,
     ⟨(some 2), .mov (.const (.bool false)), none⟩]) (
  .trim [1] [1] [] (
  .seq (
   .seq (
    .reg [⟨(some 5), .load (some 16) (.tmp 1), none⟩,
      ⟨(some 6), .mov (.const (.int .i64 0)), none⟩]) (
   .trim [5, 6] [] [] (
   .block 0 (
    .loop (
     .trim [5, 6] [] [] (
     .seq (
      .reg [⟨(some 7), .bin .lss (.tmp 6) (.const (.int .i64 4)), none⟩]) (
     .trim [5, 6, 7] [] [] (
     .seq (
      .cond (.tmp 7) (
        .skip) (
        .exit 0)) (
     .trim [5, 6] [] [] (
     .seq (
      .block 1 (
       .seq (
        .reg [⟨(some 8), .idxA 4 4 true (.tmp 5) (.tmp 6), none⟩,
          ⟨(some 4), .alloc 25 [(.val (.bool false)), (.sl none []), (.val (.bool false)), (.sl none [])], none⟩,
          ⟨none, .store 4 (.tmp 4) (.tmp 8), none⟩]) (
       .trim [4, 5, 6] [4] [] (
       .seq (
        .reg [⟨(some 9), .load (some 4) (.tmp 4), none⟩,
          ⟨(some 10), .call (.func 22) [(.tmp 9)] .pure, none⟩]) (
       .trim [5, 6, 10] [] [] (
       .cond (.tmp 10) (
         .seq (
          .reg [⟨(some 2), .mov (.const (.bool true)), none⟩]) (
         .ret)) (
         .skip))))))) (
     .trim [5, 6] [] [] (
     .reg [⟨(some 11), .bin .add (.tmp 6) (.const (.int .i64 1)), none⟩,
       ⟨(some 6), .mov (.tmp 11), none⟩])))))))))))) (
  .trim [] [] [] (
  .seq (
   .reg [⟨(some 2), .mov (.const (.bool false)), none⟩]) (
  .ret)))))
theorem r53 : Runs Try.prog 53 m53.strip [.mov (.tmp 2)] 12 := ⟨by kernel_rfl, by kernel_rfl, Try.f53, Try.f53.body.getD .skip, Try.func53, by kernel_rfl, by kernel_rfl, by kernel_rfl, by kernel_rfl, by kernel_rfl⟩

/-- arbour/arbourref01.Event -/
def m54 : MC :=
  .seq (
   .reg [⟨(some 1), .box 44 12 (.tmp 0), none⟩,
     ⟨(some 2), .mov (.const (.bool false)), none⟩]) (
  .trim [1] [1] [] (
  .seq (
   .seq (
    .reg [⟨(some 3), .mov (.const (.int .i64 0)), none⟩]) (
   .trim [1, 3] [1] [] (
   .block 0 (
    .loop (
     .trim [1, 3] [1] [] (
     .seq (
      .seq (
       .reg [⟨(some 4), .mov (.tmp 3), none⟩,
         ⟨(some 5), .bin .lss (.tmp 4) (.const (.int .i64 4)), none⟩]) (
      .trim [1, 3, 5] [1] [] (
      .cond (.tmp 5) (
        .skip) (
        .exit 0)))) (
     .trim [1, 3] [1] [] (
     .seq (
      .block 1 (
       .seq (
        .reg [⟨(some 8), .mov (.tmp 3), none⟩,
          ⟨(some 9), .iaddrA 4 3 (.tmp 1) (.tmp 8), none⟩,
          ⟨(some 10), .load (some 3) (.tmp 9), none⟩,
          ⟨(some 11), .call (.func 46) [(.tmp 10)] .pure, none⟩,
          ⟨(some 12), .un .not (.tmp 11), none⟩]) (
       .trim [1, 3, 12] [1] [] (
       .cond (.tmp 12) (
         .seq (
          .reg [⟨(some 2), .mov (.const (.bool false)), none⟩]) (
         .ret)) (
         .skip))))) (
     .trim [1, 3] [1] [] (
     .reg [⟨(some 6), .mov (.tmp 3), none⟩,
       ⟨(some 7), .bin .add (.tmp 6) (.const (.int .i64 1)), none⟩,
       ⟨(some 3), .mov (.tmp 7), none⟩])))))))))) (
  .trim [] [] [] (
  .seq (
   .reg [⟨(some 2), .mov (.const (.bool true)), none⟩]) (
  .ret)))))
theorem r54 : Runs Try.prog 54 m54.strip [.mov (.tmp 2)] 13 := ⟨by kernel_rfl, by kernel_rfl, Try.f54, Try.f54.body.getD .skip, Try.func54, by kernel_rfl, by kernel_rfl, by kernel_rfl, by kernel_rfl, by kernel_rfl⟩

/-- arbour/value.Event -/
def m55 : MC :=
  .seq (
   .reg [⟨(some 1), .box 44 12 (.tmp 0), none⟩,
     ⟨(some 2), .mov (.const (.bool false)), none⟩]) (
  .trim [1] [1] [] (
  .seq (
   .seq (
    .reg [⟨(some 5), .load (some 12) (.tmp 1), none⟩,
      ⟨(some 6), .mov (.const (.int .i64 0)), none⟩]) (
   .trim [5, 6] [] [] (
   .block 0 (
    .loop (
     .trim [5, 6] [] [] (
     .seq (
      .reg [⟨(some 7), .bin .lss (.tmp 6) (.const (.int .i64 4)), none⟩]) (
     .trim [5, 6, 7] [] [] (
     .seq (
      .cond (.tmp 7) (
        .skip) (
        .exit 0)) (
     .trim [5, 6] [] [] (
     .seq (
      .block 1 (
       .seq (
        .reg [⟨(some 8), .idxA 4 3 true (.tmp 5) (.tmp 6), none⟩,
          ⟨(some 4), .alloc 27 [(.val (.int .i64 0)), (.val (.int .i64 0)), (.val (.string ⟨#[]⟩))], none⟩,
          ⟨none, .store 3 (.tmp 4) (.tmp 8), none⟩]) (
       .trim [4, 5, 6] [4] [] (
       .seq (
        .reg [⟨(some 9), .load (some 3) (.tmp 4), none⟩,
          ⟨(some 10), .call (.func 49) [(.tmp 9)] .pure, none⟩,
          ⟨(some 11), .un .not (.tmp 10), none⟩]) (
       .trim [5, 6, 11] [] [] (
       .cond (.tmp 11) (
         .seq (
          .reg [⟨(some 2), .mov (.const (.bool false)), none⟩]) (
         .ret)) (
         .skip))))))) (
     .trim [5, 6] [] [] (
     .reg [⟨(some 12), .bin .add (.tmp 6) (.const (.int .i64 1)), none⟩,
       ⟨(some 6), .mov (.tmp 12), none⟩])))))))))))) (
  .trim [] [] [] (
  .seq (
   .reg [⟨(some 2), .mov (.const (.bool true)), none⟩]) (
  .ret)))))
theorem r55 : Runs Try.prog 55 m55.strip [.mov (.tmp 2)] 13 := ⟨by kernel_rfl, by kernel_rfl, Try.f55, Try.f55.body.getD .skip, Try.func55, by kernel_rfl, by kernel_rfl, by kernel_rfl, by kernel_rfl, by kernel_rfl⟩

end Go.Proofs
