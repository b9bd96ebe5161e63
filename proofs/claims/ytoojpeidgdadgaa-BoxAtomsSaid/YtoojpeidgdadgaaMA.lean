/- The functions, as code of the value machine (printed by program). -/
import Derived.Test.YtoojpeidgdadgaaVG
import Derived.Test.YtoojpeidgdadgaaProg
namespace Go.Proofs
open Go.Vm
/-- arbour/arbourlaw03.SetTurns -/
def m3 : MC :=
  .seq (
   .reg [⟨(some 3), .box 25 4 (.tmp 0), none⟩,
     ⟨(some 4), .box 25 4 (.tmp 1), none⟩,
     ⟨(some 5), .box 27 3 (.tmp 2), none⟩,
     ⟨(some 6), .mov (.const (.bool false)), none⟩]) (
  .trim [3, 4, 5] [3, 4, 5] [] (
  .seq (
   .reg [⟨(some 15), .load (some 4) (.tmp 3), none⟩,
     ⟨(some 16), .load (some 4) (.tmp 4), none⟩,
     ⟨(some 17), .bslice 25 4 [(.val (.bool false)), (.sl none []), (.val (.bool false)), (.sl none [])] 2 [(0, 4, (.tmp 15)), (4, 4, (.tmp 16))], none⟩,
     ⟨(some 7), .mov (.tmp 17), none⟩]) (
  .trim [3, 4, 5, 7] [3, 4, 5] [(17, 25, 4)] (
  .seq (
   .seq (
    .reg [⟨(some 18), .call (.func 11) [] .pure, none⟩,
      ⟨(some 19), .un .not (.tmp 18), none⟩,
      ⟨(some 20), .mov (.tmp 19), none⟩,
      ⟨(some 21), .mov (.tmp 7), (some (20, false))⟩,
      ⟨(some 22), .call (.func 12) [(.tmp 21)] .pure, (some (20, false))⟩,
      ⟨(some 23), .un .not (.tmp 22), (some (20, false))⟩,
      ⟨(some 24), .pick (.tmp 20) (.const (.bool true)) (.tmp 23), none⟩,
      ⟨(some 25), .mov (.tmp 24), none⟩,
      ⟨(some 26), .load (some 4) (.tmp 3), (some (25, false))⟩,
      ⟨(some 27), .call (.func 13) [(.tmp 26)] .pure, (some (25, false))⟩,
      ⟨(some 28), .un .not (.tmp 27), (some (25, false))⟩,
      ⟨(some 29), .pick (.tmp 25) (.const (.bool true)) (.tmp 28), none⟩,
      ⟨(some 30), .mov (.tmp 29), none⟩,
      ⟨(some 31), .load (some 4) (.tmp 4), (some (30, false))⟩,
      ⟨(some 32), .call (.func 13) [(.tmp 31)] .pure, (some (30, false))⟩,
      ⟨(some 33), .un .not (.tmp 32), (some (30, false))⟩,
      ⟨(some 34), .pick (.tmp 30) (.const (.bool true)) (.tmp 33), none⟩,
      ⟨(some 35), .mov (.tmp 34), none⟩,
      ⟨(some 36), .faddr 2 (.tmp 5), (some (35, false))⟩,
      ⟨(some 37), .load none (.tmp 36), (some (35, false))⟩,
      ⟨(some 38), .lenS (.tmp 37), (some (35, false))⟩,
      ⟨(some 39), .bin .gtr (.tmp 38) (.const (.int .i64 100)), (some (35, false))⟩,
      ⟨(some 40), .pick (.tmp 35) (.const (.bool true)) (.tmp 39), none⟩]) (
   .trim [3, 4, 5, 7, 40] [3, 4, 5] [(17, 25, 4)] (
   .cond (.tmp 40) (
     .seq (
      .reg [⟨(some 41), .call (.func 11) [] .pure, none⟩,
        ⟨(some 6), .mov (.tmp 41), none⟩]) (
     .ret)) (
     .skip)))) (
  .trim [3, 4, 5, 7] [3, 4, 5] [(17, 25, 4)] (
  .seq (
   .dreg2 [(⟨(some 42), .load (some 4) (.tmp 3), none⟩, .q),
     (⟨(some 43), .call (.func 14) [(.tmp 42)] .pure, none⟩, .q),
     (⟨(some 44), .load (some 4) (.tmp 3), none⟩, .q),
     (⟨(some 45), .load (some 4) (.tmp 4), none⟩, .q),
     (⟨(some 46), .call (.func 15) [(.tmp 44), (.tmp 45)] .pure, none⟩, .q),
     (⟨(some 47), .load (some 4) (.tmp 3), none⟩, .q),
     (⟨(some 48), .load (some 4) (.tmp 4), none⟩, .q),
     (⟨(some 49), .call (.func 16) [(.tmp 47), (.tmp 48)] .pure, none⟩, .q),
     (⟨(some 8), .alloc 25 [(.val (.bool false)), (.sl none []), (.val (.bool false)), (.sl none [])], none⟩, .a),
     (⟨(some 9), .alloc 25 [(.val (.bool false)), (.sl none []), (.val (.bool false)), (.sl none [])], none⟩, .a),
     (⟨(some 10), .alloc 25 [(.val (.bool false)), (.sl none []), (.val (.bool false)), (.sl none [])], none⟩, .a),
     (⟨none, .store 4 (.tmp 8) (.tmp 43), none⟩, .h),
     (⟨none, .store 4 (.tmp 9) (.tmp 46), none⟩, .h),
     (⟨none, .store 4 (.tmp 10) (.tmp 49), none⟩, .h)]) (
  .trim [3, 4, 5, 7, 8, 9, 10] [3, 4, 5, 8, 9, 10] [(17, 25, 4)] (
  .seq (
   .seq (
    .dreg 20 [⟨(some 50), .load (some 4) (.tmp 8), none⟩,
      ⟨(some 51), .call (.func 13) [(.tmp 50)] .pure, none⟩,
      ⟨(some 52), .un .not (.tmp 51), none⟩,
      ⟨(some 53), .mov (.tmp 52), none⟩,
      ⟨(some 54), .load (some 4) (.tmp 9), (some (53, false))⟩,
      ⟨(some 55), .call (.func 13) [(.tmp 54)] .pure, (some (53, false))⟩,
      ⟨(some 56), .un .not (.tmp 55), (some (53, false))⟩,
      ⟨(some 57), .pick (.tmp 53) (.const (.bool true)) (.tmp 56), none⟩,
      ⟨(some 58), .mov (.tmp 57), none⟩,
      ⟨(some 59), .load (some 4) (.tmp 10), (some (58, false))⟩,
      ⟨(some 60), .call (.func 13) [(.tmp 59)] .pure, (some (58, false))⟩,
      ⟨(some 61), .un .not (.tmp 60), (some (58, false))⟩,
      ⟨(some 62), .pick (.tmp 58) (.const (.bool true)) (.tmp 61), none⟩,
      ⟨(some 63), .mov (.tmp 62), none⟩,
      ⟨(some 64), .load (some 4) (.tmp 8), (some (63, false))⟩,
      ⟨(some 65), .call (.func 14) [(.tmp 64)] .pure, (some (63, false))⟩,
      ⟨(some 66), .load (some 4) (.tmp 3), (some (63, false))⟩,
      ⟨(some 67), .call (.func 17) [(.tmp 65), (.tmp 66)] .pure, (some (63, false))⟩,
      ⟨(some 68), .un .not (.tmp 67), (some (63, false))⟩,
      ⟨(some 69), .pick (.tmp 63) (.const (.bool true)) (.tmp 68), none⟩]) (
   .trim [3, 4, 5, 7, 8, 9, 10, 69] [3, 4, 5, 8, 9, 10] [(17, 25, 4)] (
   .cond (.tmp 69) (
     .seq (
      .reg [⟨(some 6), .mov (.const (.bool false)), none⟩]) (
     .ret)) (
     .skip)))) (
  .trim [3, 4, 5, 7, 8, 9, 10] [3, 4, 5, 8, 9, 10] [(17, 25, 4)] (
  .seq (
   .seq (
    .dreg2 [(⟨(some 70), .mov (.tmp 7), none⟩, .q),
      (⟨(some 71), .call (.func 18) [(.tmp 70)] (.fresh 27 3), none⟩, .s),
      (⟨(some 72), .load (some 3) (.tmp 5), none⟩, .q),
      (⟨(some 73), .bslice 27 3 [(.val (.int .i64 0)), (.val (.int .i64 0)), (.val (.string ⟨#[]⟩))] 1 [(0, 3, (.tmp 72))], none⟩, .q),
      (⟨(some 74), .append 27 3 32 (.tmp 71) (.tmp 73), none⟩, .s),
      (⟨(some 75), .lenL (.tmp 74), none⟩, .s),
      (⟨(some 76), .mov (.const (.int .i64 0)), none⟩, .q)]) (
   .trim [3, 4, 8, 9, 10, 74, 75, 76] [3, 4, 8, 9, 10] [(71, 27, 3)] (
   .block 0 (
    .loop (
     .trim [3, 4, 8, 9, 10, 74, 75, 76] [3, 4, 8, 9, 10] [(71, 27, 3)] (
     .seq (
      .reg [⟨(some 77), .bin .lss (.tmp 76) (.tmp 75), none⟩]) (
     .trim [3, 4, 8, 9, 10, 74, 75, 76, 77] [3, 4, 8, 9, 10] [(71, 27, 3)] (
     .seq (
      .cond (.tmp 77) (
        .skip) (
        .exit 0)) (
     .trim [3, 4, 8, 9, 10, 74, 75, 76] [3, 4, 8, 9, 10] [(71, 27, 3)] (
     .seq (
      .block 1 (
       .seq (
        .reg [⟨(some 78), .iaddrS 3 (.tmp 74) (.tmp 76), none⟩,
          ⟨(some 79), .load (some 3) (.tmp 78), none⟩,
          ⟨(some 12), .alloc 27 [(.val (.int .i64 0)), (.val (.int .i64 0)), (.val (.string ⟨#[]⟩))], none⟩,
          ⟨none, .store 3 (.tmp 12) (.tmp 79), none⟩]) (
       .trim [3, 4, 8, 9, 10, 12, 74, 75, 76] [3, 4, 8, 9, 10, 12] [(71, 27, 3)] (
       .seq (
        .seq (
         .reg [⟨(some 80), .faddr 2 (.tmp 12), none⟩,
           ⟨(some 81), .load none (.tmp 80), none⟩,
           ⟨(some 82), .lenS (.tmp 81), none⟩,
           ⟨(some 83), .bin .gtr (.tmp 82) (.const (.int .i64 8)), none⟩,
           ⟨(some 84), .mov (.tmp 83), none⟩,
           ⟨(some 85), .faddr 0 (.tmp 12), (some (84, false))⟩,
           ⟨(some 86), .load none (.tmp 85), (some (84, false))⟩,
           ⟨(some 87), .bin .lss (.tmp 86) (.const (.int .i64 0)), (some (84, false))⟩,
           ⟨(some 88), .pick (.tmp 84) (.const (.bool true)) (.tmp 87), none⟩,
           ⟨(some 89), .mov (.tmp 88), none⟩,
           ⟨(some 90), .faddr 0 (.tmp 12), (some (89, false))⟩,
           ⟨(some 91), .load none (.tmp 90), (some (89, false))⟩,
           ⟨(some 92), .bin .gtr (.tmp 91) (.const (.int .i64 2)), (some (89, false))⟩,
           ⟨(some 93), .pick (.tmp 89) (.const (.bool true)) (.tmp 92), none⟩,
           ⟨(some 94), .mov (.tmp 93), none⟩,
           ⟨(some 95), .faddr 0 (.tmp 12), (some (94, false))⟩,
           ⟨(some 96), .load none (.tmp 95), (some (94, false))⟩,
           ⟨(some 97), .bin .neq (.tmp 96) (.const (.int .i64 1)), (some (94, false))⟩,
           ⟨(some 98), .mov (.tmp 97), (some (94, false))⟩,
           ⟨(some 99), .faddr 1 (.tmp 12), (some (98, true))⟩,
           ⟨(some 100), .load none (.tmp 99), (some (98, true))⟩,
           ⟨(some 101), .bin .neq (.tmp 100) (.const (.int .i64 0)), (some (98, true))⟩,
           ⟨(some 102), .pick (.tmp 98) (.tmp 101) (.const (.bool false)), (some (94, false))⟩,
           ⟨(some 103), .pick (.tmp 94) (.const (.bool true)) (.tmp 102), none⟩,
           ⟨(some 104), .mov (.tmp 103), none⟩,
           ⟨(some 105), .faddr 0 (.tmp 12), (some (104, false))⟩,
           ⟨(some 106), .load none (.tmp 105), (some (104, false))⟩,
           ⟨(some 107), .bin .neq (.tmp 106) (.const (.int .i64 2)), (some (104, false))⟩,
           ⟨(some 108), .mov (.tmp 107), (some (104, false))⟩,
           ⟨(some 109), .faddr 2 (.tmp 12), (some (108, true))⟩,
           ⟨(some 110), .load none (.tmp 109), (some (108, true))⟩,
           ⟨(some 111), .bin .neq (.tmp 110) (.const (.string ⟨#[]⟩)), (some (108, true))⟩,
           ⟨(some 112), .pick (.tmp 108) (.tmp 111) (.const (.bool false)), (some (104, false))⟩,
           ⟨(some 113), .pick (.tmp 104) (.const (.bool true)) (.tmp 112), none⟩]) (
        .trim [3, 4, 8, 9, 10, 12, 74, 75, 76, 113] [3, 4, 8, 9, 10, 12] [(71, 27, 3)] (
        .cond (.tmp 113) (
          .exit 1) (
          .skip)))) (
       .trim [3, 4, 8, 9, 10, 12, 74, 75, 76] [3, 4, 8, 9, 10, 12] [(71, 27, 3)] (
       .seq (
        .dreg 8 [⟨(some 114), .load (some 4) (.tmp 3), none⟩,
          ⟨(some 115), .load (some 3) (.tmp 12), none⟩,
          ⟨(some 116), .call (.func 19) [(.tmp 114), (.tmp 115)] .pure, none⟩,
          ⟨(some 117), .load (some 4) (.tmp 4), none⟩,
          ⟨(some 118), .load (some 3) (.tmp 12), none⟩,
          ⟨(some 119), .call (.func 19) [(.tmp 117), (.tmp 118)] .pure, none⟩,
          ⟨(some 13), .mov (.tmp 116), none⟩,
          ⟨(some 14), .mov (.tmp 119), none⟩]) (
       .trim [3, 4, 8, 9, 10, 12, 13, 14, 74, 75, 76] [3, 4, 8, 9, 10, 12] [(71, 27, 3)] (
       .seq (
        .reg [⟨(some 120), .load (some 4) (.tmp 8), none⟩,
          ⟨(some 121), .load (some 3) (.tmp 12), none⟩,
          ⟨(some 122), .call (.func 19) [(.tmp 120), (.tmp 121)] .pure, none⟩,
          ⟨(some 123), .mov (.tmp 13), none⟩,
          ⟨(some 124), .binB false (.tmp 122) (.tmp 123), none⟩,
          ⟨(some 125), .mov (.tmp 124), none⟩,
          ⟨(some 126), .load (some 4) (.tmp 9), (some (125, false))⟩,
          ⟨(some 127), .load (some 3) (.tmp 12), (some (125, false))⟩,
          ⟨(some 128), .call (.func 19) [(.tmp 126), (.tmp 127)] .pure, (some (125, false))⟩,
          ⟨(some 129), .mov (.tmp 13), (some (125, false))⟩,
          ⟨(some 130), .mov (.tmp 129), (some (125, false))⟩,
          ⟨(some 131), .mov (.tmp 14), (some (130, false))⟩,
          ⟨(some 132), .pick (.tmp 130) (.const (.bool true)) (.tmp 131), (some (125, false))⟩,
          ⟨(some 133), .binB true (.tmp 128) (.tmp 132), (some (125, false))⟩,
          ⟨(some 134), .pick (.tmp 125) (.const (.bool true)) (.tmp 133), none⟩,
          ⟨(some 135), .mov (.tmp 134), none⟩,
          ⟨(some 136), .load (some 4) (.tmp 10), (some (135, false))⟩,
          ⟨(some 137), .load (some 3) (.tmp 12), (some (135, false))⟩,
          ⟨(some 138), .call (.func 19) [(.tmp 136), (.tmp 137)] .pure, (some (135, false))⟩,
          ⟨(some 139), .mov (.tmp 13), (some (135, false))⟩,
          ⟨(some 140), .mov (.tmp 139), (some (135, false))⟩,
          ⟨(some 141), .mov (.tmp 14), (some (140, true))⟩,
          ⟨(some 142), .pick (.tmp 140) (.tmp 141) (.const (.bool false)), (some (135, false))⟩,
          ⟨(some 143), .binB true (.tmp 138) (.tmp 142), (some (135, false))⟩,
          ⟨(some 144), .pick (.tmp 135) (.const (.bool true)) (.tmp 143), none⟩]) (
       .trim [3, 4, 8, 9, 10, 74, 75, 76, 144] [3, 4, 8, 9, 10] [(71, 27, 3)] (
       .cond (.tmp 144) (
         .seq (
          .reg [⟨(some 6), .mov (.const (.bool false)), none⟩]) (
         .ret)) (
         .skip))))))))))) (
     .trim [3, 4, 8, 9, 10, 74, 75, 76] [3, 4, 8, 9, 10] [(71, 27, 3)] (
     .reg [⟨(some 145), .bin .add (.tmp 76) (.const (.int .i64 1)), none⟩,
       ⟨(some 76), .mov (.tmp 145), none⟩])))))))))))) (
  .trim [] [] [] (
  .seq (
   .reg [⟨(some 6), .mov (.const (.bool true)), none⟩]) (
  .ret)))))))))))))
theorem r3 : Runs Try.prog 3 m3.strip [.mov (.tmp 6)] 146 := ⟨by kernel_rfl, by kernel_rfl, Try.f3, Try.f3.body.getD .skip, Try.func3, by kernel_rfl, by kernel_rfl, by kernel_rfl, by kernel_rfl, by kernel_rfl⟩

/-- arbour/arbourlaw03.SetMorgan -/
def m4 : MC :=
  .seq (
   .reg [⟨(some 3), .box 25 4 (.tmp 0), none⟩,
     ⟨(some 4), .box 25 4 (.tmp 1), none⟩,
     ⟨(some 5), .box 25 4 (.tmp 2), none⟩,
     ⟨(some 6), .mov (.const (.bool false)), none⟩]) (
  .trim [3, 4, 5] [3, 4, 5] [] (
  .seq (
   .reg [⟨(some 8), .load (some 4) (.tmp 3), none⟩,
     ⟨(some 9), .load (some 4) (.tmp 4), none⟩,
     ⟨(some 10), .load (some 4) (.tmp 5), none⟩,
     ⟨(some 11), .bslice 25 4 [(.val (.bool false)), (.sl none []), (.val (.bool false)), (.sl none [])] 3 [(0, 4, (.tmp 8)), (4, 4, (.tmp 9)), (8, 4, (.tmp 10))], none⟩,
     ⟨(some 7), .mov (.tmp 11), none⟩]) (
  .trim [3, 4, 5, 7] [3, 4, 5] [(11, 25, 4)] (
  .seq (
   .seq (
    .reg [⟨(some 12), .call (.func 11) [] .pure, none⟩,
      ⟨(some 13), .un .not (.tmp 12), none⟩,
      ⟨(some 14), .mov (.tmp 13), none⟩,
      ⟨(some 15), .mov (.tmp 7), (some (14, false))⟩,
      ⟨(some 16), .call (.func 12) [(.tmp 15)] .pure, (some (14, false))⟩,
      ⟨(some 17), .un .not (.tmp 16), (some (14, false))⟩,
      ⟨(some 18), .pick (.tmp 14) (.const (.bool true)) (.tmp 17), none⟩,
      ⟨(some 19), .mov (.tmp 18), none⟩,
      ⟨(some 20), .load (some 4) (.tmp 3), (some (19, false))⟩,
      ⟨(some 21), .call (.func 13) [(.tmp 20)] .pure, (some (19, false))⟩,
      ⟨(some 22), .un .not (.tmp 21), (some (19, false))⟩,
      ⟨(some 23), .pick (.tmp 19) (.const (.bool true)) (.tmp 22), none⟩,
      ⟨(some 24), .mov (.tmp 23), none⟩,
      ⟨(some 25), .load (some 4) (.tmp 4), (some (24, false))⟩,
      ⟨(some 26), .call (.func 13) [(.tmp 25)] .pure, (some (24, false))⟩,
      ⟨(some 27), .un .not (.tmp 26), (some (24, false))⟩,
      ⟨(some 28), .pick (.tmp 24) (.const (.bool true)) (.tmp 27), none⟩,
      ⟨(some 29), .mov (.tmp 28), none⟩,
      ⟨(some 30), .load (some 4) (.tmp 5), (some (29, false))⟩,
      ⟨(some 31), .call (.func 13) [(.tmp 30)] .pure, (some (29, false))⟩,
      ⟨(some 32), .un .not (.tmp 31), (some (29, false))⟩,
      ⟨(some 33), .pick (.tmp 29) (.const (.bool true)) (.tmp 32), none⟩]) (
   .trim [3, 4, 5, 33] [3, 4, 5] [] (
   .cond (.tmp 33) (
     .seq (
      .reg [⟨(some 34), .call (.func 11) [] .pure, none⟩,
        ⟨(some 6), .mov (.tmp 34), none⟩]) (
     .ret)) (
     .skip)))) (
  .trim [3, 4, 5] [3, 4, 5] [] (
  .seq (
   .dreg 69 [⟨(some 35), .load (some 4) (.tmp 3), none⟩,
     ⟨(some 36), .load (some 4) (.tmp 4), none⟩,
     ⟨(some 37), .call (.func 15) [(.tmp 35), (.tmp 36)] .pure, none⟩,
     ⟨(some 38), .call (.func 14) [(.tmp 37)] .pure, none⟩,
     ⟨(some 39), .load (some 4) (.tmp 3), none⟩,
     ⟨(some 40), .call (.func 14) [(.tmp 39)] .pure, none⟩,
     ⟨(some 41), .load (some 4) (.tmp 4), none⟩,
     ⟨(some 42), .call (.func 14) [(.tmp 41)] .pure, none⟩,
     ⟨(some 43), .call (.func 16) [(.tmp 40), (.tmp 42)] .pure, none⟩,
     ⟨(some 44), .call (.func 17) [(.tmp 38), (.tmp 43)] .pure, none⟩,
     ⟨(some 45), .mov (.tmp 44), none⟩,
     ⟨(some 46), .load (some 4) (.tmp 3), (some (45, true))⟩,
     ⟨(some 47), .load (some 4) (.tmp 4), (some (45, true))⟩,
     ⟨(some 48), .call (.func 16) [(.tmp 46), (.tmp 47)] .pure, (some (45, true))⟩,
     ⟨(some 49), .call (.func 14) [(.tmp 48)] .pure, (some (45, true))⟩,
     ⟨(some 50), .load (some 4) (.tmp 3), (some (45, true))⟩,
     ⟨(some 51), .call (.func 14) [(.tmp 50)] .pure, (some (45, true))⟩,
     ⟨(some 52), .load (some 4) (.tmp 4), (some (45, true))⟩,
     ⟨(some 53), .call (.func 14) [(.tmp 52)] .pure, (some (45, true))⟩,
     ⟨(some 54), .call (.func 15) [(.tmp 51), (.tmp 53)] .pure, (some (45, true))⟩,
     ⟨(some 55), .call (.func 17) [(.tmp 49), (.tmp 54)] .pure, (some (45, true))⟩,
     ⟨(some 56), .pick (.tmp 45) (.tmp 55) (.const (.bool false)), none⟩,
     ⟨(some 57), .mov (.tmp 56), none⟩,
     ⟨(some 58), .load (some 4) (.tmp 3), (some (57, true))⟩,
     ⟨(some 59), .load (some 4) (.tmp 4), (some (57, true))⟩,
     ⟨(some 60), .call (.func 15) [(.tmp 58), (.tmp 59)] .pure, (some (57, true))⟩,
     ⟨(some 61), .load (some 4) (.tmp 4), (some (57, true))⟩,
     ⟨(some 62), .load (some 4) (.tmp 3), (some (57, true))⟩,
     ⟨(some 63), .call (.func 15) [(.tmp 61), (.tmp 62)] .pure, (some (57, true))⟩,
     ⟨(some 64), .call (.func 17) [(.tmp 60), (.tmp 63)] .pure, (some (57, true))⟩,
     ⟨(some 65), .pick (.tmp 57) (.tmp 64) (.const (.bool false)), none⟩,
     ⟨(some 66), .mov (.tmp 65), none⟩,
     ⟨(some 67), .load (some 4) (.tmp 3), (some (66, true))⟩,
     ⟨(some 68), .load (some 4) (.tmp 4), (some (66, true))⟩,
     ⟨(some 69), .call (.func 16) [(.tmp 67), (.tmp 68)] .pure, (some (66, true))⟩,
     ⟨(some 70), .load (some 4) (.tmp 4), (some (66, true))⟩,
     ⟨(some 71), .load (some 4) (.tmp 3), (some (66, true))⟩,
     ⟨(some 72), .call (.func 16) [(.tmp 70), (.tmp 71)] .pure, (some (66, true))⟩,
     ⟨(some 73), .call (.func 17) [(.tmp 69), (.tmp 72)] .pure, (some (66, true))⟩,
     ⟨(some 74), .pick (.tmp 66) (.tmp 73) (.const (.bool false)), none⟩,
     ⟨(some 75), .mov (.tmp 74), none⟩,
     ⟨(some 76), .load (some 4) (.tmp 3), (some (75, true))⟩,
     ⟨(some 77), .load (some 4) (.tmp 4), (some (75, true))⟩,
     ⟨(some 78), .load (some 4) (.tmp 5), (some (75, true))⟩,
     ⟨(some 79), .call (.func 15) [(.tmp 77), (.tmp 78)] .pure, (some (75, true))⟩,
     ⟨(some 80), .call (.func 15) [(.tmp 76), (.tmp 79)] .pure, (some (75, true))⟩,
     ⟨(some 81), .load (some 4) (.tmp 3), (some (75, true))⟩,
     ⟨(some 82), .load (some 4) (.tmp 4), (some (75, true))⟩,
     ⟨(some 83), .call (.func 15) [(.tmp 81), (.tmp 82)] .pure, (some (75, true))⟩,
     ⟨(some 84), .load (some 4) (.tmp 5), (some (75, true))⟩,
     ⟨(some 85), .call (.func 15) [(.tmp 83), (.tmp 84)] .pure, (some (75, true))⟩,
     ⟨(some 86), .call (.func 17) [(.tmp 80), (.tmp 85)] .pure, (some (75, true))⟩,
     ⟨(some 87), .pick (.tmp 75) (.tmp 86) (.const (.bool false)), none⟩,
     ⟨(some 88), .mov (.tmp 87), none⟩,
     ⟨(some 89), .load (some 4) (.tmp 3), (some (88, true))⟩,
     ⟨(some 90), .load (some 4) (.tmp 4), (some (88, true))⟩,
     ⟨(some 91), .load (some 4) (.tmp 5), (some (88, true))⟩,
     ⟨(some 92), .call (.func 15) [(.tmp 90), (.tmp 91)] .pure, (some (88, true))⟩,
     ⟨(some 93), .call (.func 16) [(.tmp 89), (.tmp 92)] .pure, (some (88, true))⟩,
     ⟨(some 94), .load (some 4) (.tmp 3), (some (88, true))⟩,
     ⟨(some 95), .load (some 4) (.tmp 4), (some (88, true))⟩,
     ⟨(some 96), .call (.func 16) [(.tmp 94), (.tmp 95)] .pure, (some (88, true))⟩,
     ⟨(some 97), .load (some 4) (.tmp 3), (some (88, true))⟩,
     ⟨(some 98), .load (some 4) (.tmp 5), (some (88, true))⟩,
     ⟨(some 99), .call (.func 16) [(.tmp 97), (.tmp 98)] .pure, (some (88, true))⟩,
     ⟨(some 100), .call (.func 15) [(.tmp 96), (.tmp 99)] .pure, (some (88, true))⟩,
     ⟨(some 101), .call (.func 17) [(.tmp 93), (.tmp 100)] .pure, (some (88, true))⟩,
     ⟨(some 102), .pick (.tmp 88) (.tmp 101) (.const (.bool false)), none⟩,
     ⟨(some 6), .mov (.tmp 102), none⟩]) (
  .ret)))))))
theorem r4 : Runs Try.prog 4 m4.strip [.mov (.tmp 6)] 103 := ⟨by kernel_rfl, by kernel_rfl, Try.f4, Try.f4.body.getD .skip, Try.func4, by kernel_rfl, by kernel_rfl, by kernel_rfl, by kernel_rfl, by kernel_rfl⟩

/-- arbour/arbourlaw03.SetEnds -/
def m5 : MC :=
  .seq (
   .reg [⟨(some 2), .box 25 4 (.tmp 0), none⟩,
     ⟨(some 3), .box 27 3 (.tmp 1), none⟩,
     ⟨(some 4), .mov (.const (.bool false)), none⟩]) (
  .trim [2, 3] [2, 3] [] (
  .seq (
   .seq (
    .reg [⟨(some 7), .call (.func 11) [] .pure, none⟩,
      ⟨(some 8), .un .not (.tmp 7), none⟩,
      ⟨(some 9), .mov (.tmp 8), none⟩,
      ⟨(some 10), .load (some 4) (.tmp 2), (some (9, false))⟩,
      ⟨(some 11), .bslice 25 4 [(.val (.bool false)), (.sl none []), (.val (.bool false)), (.sl none [])] 1 [(0, 4, (.tmp 10))], (some (9, false))⟩,
      ⟨(some 12), .call (.func 12) [(.tmp 11)] .pure, (some (9, false))⟩,
      ⟨(some 13), .un .not (.tmp 12), (some (9, false))⟩,
      ⟨(some 14), .pick (.tmp 9) (.const (.bool true)) (.tmp 13), none⟩,
      ⟨(some 15), .mov (.tmp 14), none⟩,
      ⟨(some 16), .load (some 4) (.tmp 2), (some (15, false))⟩,
      ⟨(some 17), .call (.func 13) [(.tmp 16)] .pure, (some (15, false))⟩,
      ⟨(some 18), .un .not (.tmp 17), (some (15, false))⟩,
      ⟨(some 19), .pick (.tmp 15) (.const (.bool true)) (.tmp 18), none⟩,
      ⟨(some 20), .mov (.tmp 19), none⟩,
      ⟨(some 21), .faddr 2 (.tmp 3), (some (20, false))⟩,
      ⟨(some 22), .load none (.tmp 21), (some (20, false))⟩,
      ⟨(some 23), .lenS (.tmp 22), (some (20, false))⟩,
      ⟨(some 24), .bin .gtr (.tmp 23) (.const (.int .i64 100)), (some (20, false))⟩,
      ⟨(some 25), .pick (.tmp 20) (.const (.bool true)) (.tmp 24), none⟩]) (
   .trim [2, 3, 25] [2, 3] [] (
   .cond (.tmp 25) (
     .seq (
      .reg [⟨(some 26), .call (.func 11) [] .pure, none⟩,
        ⟨(some 4), .mov (.tmp 26), none⟩]) (
     .ret)) (
     .skip)))) (
  .trim [2, 3] [2, 3] [] (
  .seq (
   .reg [⟨(some 27), .load (some 4) (.tmp 2), none⟩,
     ⟨(some 28), .call (.func 14) [(.tmp 27)] .pure, none⟩,
     ⟨(some 5), .alloc 25 [(.val (.bool false)), (.sl none []), (.val (.bool false)), (.sl none [])], none⟩,
     ⟨none, .store 4 (.tmp 5) (.tmp 28), none⟩]) (
  .trim [2, 3, 5] [2, 3, 5] [] (
  .seq (
   .dreg 4 [⟨(some 29), .call (.func 21) [] .pure, none⟩,
     ⟨(some 30), .load (some 3) (.tmp 3), none⟩,
     ⟨(some 31), .call (.func 20) [(.tmp 29), (.tmp 30)] .pure, none⟩,
     ⟨(some 6), .mov (.tmp 31), none⟩]) (
  .trim [2, 3, 5, 6] [2, 3, 5] [] (
  .seq (
   .reg [⟨(some 32), .load (some 4) (.tmp 2), none⟩,
     ⟨(some 33), .load (some 3) (.tmp 3), none⟩,
     ⟨(some 34), .call (.func 20) [(.tmp 32), (.tmp 33)] .pure, none⟩,
     ⟨(some 35), .mov (.tmp 34), none⟩,
     ⟨(some 36), .load (some 4) (.tmp 5), (some (35, false))⟩,
     ⟨(some 37), .load (some 3) (.tmp 3), (some (35, false))⟩,
     ⟨(some 38), .call (.func 20) [(.tmp 36), (.tmp 37)] .pure, (some (35, false))⟩,
     ⟨(some 39), .pick (.tmp 35) (.const (.bool true)) (.tmp 38), none⟩,
     ⟨(some 40), .mov (.tmp 6), none⟩,
     ⟨(some 41), .binB false (.tmp 39) (.tmp 40), none⟩,
     ⟨(some 42), .mov (.tmp 41), none⟩,
     ⟨(some 43), .load (some 4) (.tmp 2), (some (42, true))⟩,
     ⟨(some 44), .load (some 3) (.tmp 3), (some (42, true))⟩,
     ⟨(some 45), .call (.func 20) [(.tmp 43), (.tmp 44)] .pure, (some (42, true))⟩,
     ⟨(some 46), .mov (.tmp 45), (some (42, true))⟩,
     ⟨(some 47), .load (some 4) (.tmp 5), (some (46, true))⟩,
     ⟨(some 48), .load (some 3) (.tmp 3), (some (46, true))⟩,
     ⟨(some 49), .call (.func 20) [(.tmp 47), (.tmp 48)] .pure, (some (46, true))⟩,
     ⟨(some 50), .pick (.tmp 46) (.tmp 49) (.const (.bool false)), (some (42, true))⟩,
     ⟨(some 51), .un .not (.tmp 50), (some (42, true))⟩,
     ⟨(some 52), .pick (.tmp 42) (.tmp 51) (.const (.bool false)), none⟩,
     ⟨(some 53), .mov (.tmp 52), none⟩,
     ⟨(some 54), .load (some 4) (.tmp 2), (some (53, true))⟩,
     ⟨(some 55), .load (some 4) (.tmp 5), (some (53, true))⟩,
     ⟨(some 56), .call (.func 15) [(.tmp 54), (.tmp 55)] .pure, (some (53, true))⟩,
     ⟨(some 57), .call (.func 21) [] .pure, (some (53, true))⟩,
     ⟨(some 58), .call (.func 17) [(.tmp 56), (.tmp 57)] .pure, (some (53, true))⟩,
     ⟨(some 59), .pick (.tmp 53) (.tmp 58) (.const (.bool false)), none⟩,
     ⟨(some 60), .mov (.tmp 59), none⟩,
     ⟨(some 61), .load (some 4) (.tmp 2), (some (60, true))⟩,
     ⟨(some 62), .load (some 4) (.tmp 5), (some (60, true))⟩,
     ⟨(some 63), .call (.func 16) [(.tmp 61), (.tmp 62)] .pure, (some (60, true))⟩,
     ⟨(some 64), .call (.func 22) [(.tmp 63)] .pure, (some (60, true))⟩,
     ⟨(some 65), .pick (.tmp 60) (.tmp 64) (.const (.bool false)), none⟩,
     ⟨(some 66), .mov (.tmp 65), none⟩,
     ⟨(some 67), .call (.func 21) [] .pure, (some (66, true))⟩,
     ⟨(some 68), .call (.func 14) [(.tmp 67)] .pure, (some (66, true))⟩,
     ⟨(some 69), .call (.func 22) [(.tmp 68)] .pure, (some (66, true))⟩,
     ⟨(some 70), .pick (.tmp 66) (.tmp 69) (.const (.bool false)), none⟩,
     ⟨(some 4), .mov (.tmp 70), none⟩]) (
  .ret)))))))))
theorem r5 : Runs Try.prog 5 m5.strip [.mov (.tmp 4)] 71 := ⟨by kernel_rfl, by kernel_rfl, Try.f5, Try.f5.body.getD .skip, Try.func5, by kernel_rfl, by kernel_rfl, by kernel_rfl, by kernel_rfl, by kernel_rfl⟩

/-- arbour/arbourlaw03.SetIn -/
def m6 : MC :=
  .seq (
   .reg [⟨(some 2), .box 25 4 (.tmp 0), none⟩,
     ⟨(some 3), .box 25 4 (.tmp 1), none⟩,
     ⟨(some 4), .mov (.const (.bool false)), none⟩]) (
  .trim [2, 3] [2, 3] [] (
  .seq (
   .seq (
    .reg [⟨(some 7), .call (.func 11) [] .pure, none⟩,
      ⟨(some 8), .un .not (.tmp 7), none⟩,
      ⟨(some 9), .mov (.tmp 8), none⟩,
      ⟨(some 10), .load (some 4) (.tmp 2), (some (9, false))⟩,
      ⟨(some 11), .load (some 4) (.tmp 3), (some (9, false))⟩,
      ⟨(some 12), .bslice 25 4 [(.val (.bool false)), (.sl none []), (.val (.bool false)), (.sl none [])] 2 [(0, 4, (.tmp 10)), (4, 4, (.tmp 11))], (some (9, false))⟩,
      ⟨(some 13), .call (.func 12) [(.tmp 12)] .pure, (some (9, false))⟩,
      ⟨(some 14), .un .not (.tmp 13), (some (9, false))⟩,
      ⟨(some 15), .pick (.tmp 9) (.const (.bool true)) (.tmp 14), none⟩,
      ⟨(some 16), .mov (.tmp 15), none⟩,
      ⟨(some 17), .load (some 4) (.tmp 2), (some (16, false))⟩,
      ⟨(some 18), .call (.func 13) [(.tmp 17)] .pure, (some (16, false))⟩,
      ⟨(some 19), .un .not (.tmp 18), (some (16, false))⟩,
      ⟨(some 20), .pick (.tmp 16) (.const (.bool true)) (.tmp 19), none⟩,
      ⟨(some 21), .mov (.tmp 20), none⟩,
      ⟨(some 22), .load (some 4) (.tmp 3), (some (21, false))⟩,
      ⟨(some 23), .call (.func 13) [(.tmp 22)] .pure, (some (21, false))⟩,
      ⟨(some 24), .un .not (.tmp 23), (some (21, false))⟩,
      ⟨(some 25), .pick (.tmp 21) (.const (.bool true)) (.tmp 24), none⟩]) (
   .trim [2, 3, 25] [2, 3] [] (
   .cond (.tmp 25) (
     .seq (
      .reg [⟨(some 26), .call (.func 11) [] .pure, none⟩,
        ⟨(some 4), .mov (.tmp 26), none⟩]) (
     .ret)) (
     .skip)))) (
  .trim [2, 3] [2, 3] [] (
  .seq (
   .dreg 8 [⟨(some 27), .load (some 4) (.tmp 2), none⟩,
     ⟨(some 28), .load (some 4) (.tmp 3), none⟩,
     ⟨(some 29), .call (.func 23) [(.tmp 27), (.tmp 28)] .pure, none⟩,
     ⟨(some 30), .load (some 4) (.tmp 3), none⟩,
     ⟨(some 31), .load (some 4) (.tmp 2), none⟩,
     ⟨(some 32), .call (.func 23) [(.tmp 30), (.tmp 31)] .pure, none⟩,
     ⟨(some 5), .mov (.tmp 29), none⟩,
     ⟨(some 6), .mov (.tmp 32), none⟩]) (
  .trim [2, 3, 5, 6] [2, 3] [] (
  .seq (
   .dreg 42 [⟨(some 33), .mov (.tmp 5), none⟩,
     ⟨(some 34), .load (some 4) (.tmp 2), none⟩,
     ⟨(some 35), .load (some 4) (.tmp 3), none⟩,
     ⟨(some 36), .call (.func 24) [(.tmp 34), (.tmp 35)] .pure, none⟩,
     ⟨(some 37), .binB false (.tmp 33) (.tmp 36), none⟩,
     ⟨(some 38), .mov (.tmp 37), none⟩,
     ⟨(some 39), .mov (.tmp 5), (some (38, true))⟩,
     ⟨(some 40), .mov (.tmp 39), (some (38, true))⟩,
     ⟨(some 41), .mov (.tmp 6), (some (40, true))⟩,
     ⟨(some 42), .pick (.tmp 40) (.tmp 41) (.const (.bool false)), (some (38, true))⟩,
     ⟨(some 43), .load (some 4) (.tmp 2), (some (38, true))⟩,
     ⟨(some 44), .load (some 4) (.tmp 3), (some (38, true))⟩,
     ⟨(some 45), .call (.func 17) [(.tmp 43), (.tmp 44)] .pure, (some (38, true))⟩,
     ⟨(some 46), .binB false (.tmp 42) (.tmp 45), (some (38, true))⟩,
     ⟨(some 47), .pick (.tmp 38) (.tmp 46) (.const (.bool false)), none⟩,
     ⟨(some 48), .mov (.tmp 47), none⟩,
     ⟨(some 49), .load (some 4) (.tmp 2), (some (48, true))⟩,
     ⟨(some 50), .load (some 4) (.tmp 3), (some (48, true))⟩,
     ⟨(some 51), .call (.func 16) [(.tmp 49), (.tmp 50)] .pure, (some (48, true))⟩,
     ⟨(some 52), .load (some 4) (.tmp 2), (some (48, true))⟩,
     ⟨(some 53), .call (.func 23) [(.tmp 51), (.tmp 52)] .pure, (some (48, true))⟩,
     ⟨(some 54), .pick (.tmp 48) (.tmp 53) (.const (.bool false)), none⟩,
     ⟨(some 55), .mov (.tmp 54), none⟩,
     ⟨(some 56), .load (some 4) (.tmp 2), (some (55, true))⟩,
     ⟨(some 57), .load (some 4) (.tmp 2), (some (55, true))⟩,
     ⟨(some 58), .load (some 4) (.tmp 3), (some (55, true))⟩,
     ⟨(some 59), .call (.func 15) [(.tmp 57), (.tmp 58)] .pure, (some (55, true))⟩,
     ⟨(some 60), .call (.func 23) [(.tmp 56), (.tmp 59)] .pure, (some (55, true))⟩,
     ⟨(some 61), .pick (.tmp 55) (.tmp 60) (.const (.bool false)), none⟩,
     ⟨(some 62), .mov (.tmp 61), none⟩,
     ⟨(some 63), .load (some 4) (.tmp 2), (some (62, true))⟩,
     ⟨(some 64), .call (.func 21) [] .pure, (some (62, true))⟩,
     ⟨(some 65), .call (.func 23) [(.tmp 63), (.tmp 64)] .pure, (some (62, true))⟩,
     ⟨(some 66), .pick (.tmp 62) (.tmp 65) (.const (.bool false)), none⟩,
     ⟨(some 67), .mov (.tmp 66), none⟩,
     ⟨(some 68), .load (some 4) (.tmp 2), (some (67, true))⟩,
     ⟨(some 69), .load (some 4) (.tmp 2), (some (67, true))⟩,
     ⟨(some 70), .call (.func 14) [(.tmp 69)] .pure, (some (67, true))⟩,
     ⟨(some 71), .call (.func 16) [(.tmp 68), (.tmp 70)] .pure, (some (67, true))⟩,
     ⟨(some 72), .call (.func 22) [(.tmp 71)] .pure, (some (67, true))⟩,
     ⟨(some 73), .pick (.tmp 67) (.tmp 72) (.const (.bool false)), none⟩,
     ⟨(some 4), .mov (.tmp 73), none⟩]) (
  .ret)))))))
theorem r6 : Runs Try.prog 6 m6.strip [.mov (.tmp 4)] 74 := ⟨by kernel_rfl, by kernel_rfl, Try.f6, Try.f6.body.getD .skip, Try.func6, by kernel_rfl, by kernel_rfl, by kernel_rfl, by kernel_rfl, by kernel_rfl⟩

/-- arbour/arbourlaw03.awake -/
def m11 : MC :=
  .seq (
   .reg [⟨(some 0), .mov (.const (.bool false)), none⟩]) (
  .trim [] [] [] (
  .seq (
   .reg [⟨(some 3), .build [(.val (.int .i64 0)), (.val (.int .i64 0))] [(0, 1, (.const (.int .i64 1))), (1, 1, (.const (.int .i64 3)))], none⟩,
     ⟨(some 4), .build [(.val (.int .i64 0)), (.val (.int .i64 0))] [(0, 1, (.const (.int .i64 4))), (1, 1, (.const (.int .i64 5)))], none⟩,
     ⟨(some 5), .build [(.val (.int .i64 0)), (.val (.int .i64 0))] [(0, 1, (.const (.int .i64 9))), (1, 1, (.const (.int .i64 8)))], none⟩,
     ⟨(some 6), .bslice 63 2 [(.val (.int .i64 0)), (.val (.int .i64 0))] 3 [(0, 2, (.tmp 3)), (2, 2, (.tmp 4)), (4, 2, (.tmp 5))], none⟩,
     ⟨(some 7), .call (.func 37) [(.tmp 6)] .pure, none⟩,
     ⟨(some 1), .mov (.tmp 7), none⟩]) (
  .trim [1] [] [] (
  .seq (
   .reg [⟨(some 8), .build [(.val (.int .i64 0)), (.val (.int .i64 0))] [(0, 1, (.const (.int .i64 7))), (1, 1, (.const (.int .i64 7)))], none⟩,
     ⟨(some 9), .bslice 63 2 [(.val (.int .i64 0)), (.val (.int .i64 0))] 1 [(0, 2, (.tmp 8))], none⟩,
     ⟨(some 10), .build [(.val (.bool false)), (.sl none []), (.val (.bool false)), (.sl none [])] [(1, 1, (.tmp 9))], none⟩,
     ⟨(some 11), .call (.func 14) [(.tmp 10)] .pure, none⟩,
     ⟨(some 2), .alloc 25 [(.val (.bool false)), (.sl none []), (.val (.bool false)), (.sl none [])], none⟩,
     ⟨none, .store 4 (.tmp 2) (.tmp 11), none⟩]) (
  .trim [1, 2] [2] [] (
  .seq (
   .reg [⟨(some 12), .mov (.tmp 1), none⟩,
     ⟨(some 13), .lenL (.tmp 12), none⟩,
     ⟨(some 14), .bin .eql (.tmp 13) (.const (.int .i64 1)), none⟩,
     ⟨(some 15), .mov (.tmp 14), none⟩,
     ⟨(some 16), .mov (.tmp 1), (some (15, true))⟩,
     ⟨(some 17), .iaddrS 2 (.tmp 16) (.const (.int .i64 0)), (some (15, true))⟩,
     ⟨(some 18), .load (some 2) (.tmp 17), (some (15, true))⟩,
     ⟨(some 19), .build [(.val (.int .i64 0)), (.val (.int .i64 0))] [(0, 1, (.const (.int .i64 1))), (1, 1, (.const (.int .i64 5)))], (some (15, true))⟩,
     ⟨(some 20), .eqs false [.i, .i] (.tmp 18) (.tmp 19), (some (15, true))⟩,
     ⟨(some 21), .pick (.tmp 15) (.tmp 20) (.const (.bool false)), none⟩,
     ⟨(some 22), .mov (.tmp 21), none⟩,
     ⟨(some 23), .faddr 0 (.tmp 2), (some (22, true))⟩,
     ⟨(some 24), .load none (.tmp 23), (some (22, true))⟩,
     ⟨(some 25), .pick (.tmp 22) (.tmp 24) (.const (.bool false)), none⟩,
     ⟨(some 26), .mov (.tmp 25), none⟩,
     ⟨(some 27), .faddr 2 (.tmp 2), (some (26, true))⟩,
     ⟨(some 28), .load none (.tmp 27), (some (26, true))⟩,
     ⟨(some 29), .pick (.tmp 26) (.tmp 28) (.const (.bool false)), none⟩,
     ⟨(some 30), .mov (.tmp 29), none⟩,
     ⟨(some 31), .faddr 1 (.tmp 2), (some (30, true))⟩,
     ⟨(some 32), .load none (.tmp 31), (some (30, true))⟩,
     ⟨(some 33), .lenL (.tmp 32), (some (30, true))⟩,
     ⟨(some 34), .bin .eql (.tmp 33) (.const (.int .i64 2)), (some (30, true))⟩,
     ⟨(some 35), .pick (.tmp 30) (.tmp 34) (.const (.bool false)), none⟩,
     ⟨(some 36), .mov (.tmp 35), none⟩,
     ⟨(some 37), .faddr 1 (.tmp 2), (some (36, true))⟩,
     ⟨(some 38), .load none (.tmp 37), (some (36, true))⟩,
     ⟨(some 39), .iaddrS 2 (.tmp 38) (.const (.int .i64 0)), (some (36, true))⟩,
     ⟨(some 40), .faddr 1 (.tmp 39), (some (36, true))⟩,
     ⟨(some 41), .load none (.tmp 40), (some (36, true))⟩,
     ⟨(some 42), .bin .eql (.tmp 41) (.const (.int .i64 6)), (some (36, true))⟩,
     ⟨(some 43), .pick (.tmp 36) (.tmp 42) (.const (.bool false)), none⟩,
     ⟨(some 44), .mov (.tmp 43), none⟩,
     ⟨(some 45), .faddr 1 (.tmp 2), (some (44, true))⟩,
     ⟨(some 46), .load none (.tmp 45), (some (44, true))⟩,
     ⟨(some 47), .iaddrS 2 (.tmp 46) (.const (.int .i64 1)), (some (44, true))⟩,
     ⟨(some 48), .faddr 0 (.tmp 47), (some (44, true))⟩,
     ⟨(some 49), .load none (.tmp 48), (some (44, true))⟩,
     ⟨(some 50), .bin .eql (.tmp 49) (.const (.int .i64 8)), (some (44, true))⟩,
     ⟨(some 51), .pick (.tmp 44) (.tmp 50) (.const (.bool false)), none⟩,
     ⟨(some 52), .mov (.tmp 51), none⟩,
     ⟨(some 53), .load (some 4) (.tmp 2), (some (52, true))⟩,
     ⟨(some 54), .build [(.val (.int .i64 0)), (.val (.int .i64 0)), (.val (.string ⟨#[]⟩))] [(0, 1, (.const (.int .i64 2))), (2, 1, (.const (.string ⟨#[120]⟩)))], (some (52, true))⟩,
     ⟨(some 55), .call (.func 20) [(.tmp 53), (.tmp 54)] .pure, (some (52, true))⟩,
     ⟨(some 56), .pick (.tmp 52) (.tmp 55) (.const (.bool false)), none⟩,
     ⟨(some 57), .mov (.tmp 56), none⟩,
     ⟨(some 58), .load (some 4) (.tmp 2), (some (57, true))⟩,
     ⟨(some 59), .build [(.val (.int .i64 0)), (.val (.int .i64 0)), (.val (.string ⟨#[]⟩))] [(0, 1, (.const (.int .i64 1))), (1, 1, (.const (.int .i64 7)))], (some (57, true))⟩,
     ⟨(some 60), .call (.func 20) [(.tmp 58), (.tmp 59)] .pure, (some (57, true))⟩,
     ⟨(some 61), .un .not (.tmp 60), (some (57, true))⟩,
     ⟨(some 62), .pick (.tmp 57) (.tmp 61) (.const (.bool false)), none⟩,
     ⟨(some 63), .mov (.tmp 62), none⟩,
     ⟨(some 64), .build [(.val (.bool false)), (.sl none []), (.val (.bool false)), (.sl none [])] [], (some (63, true))⟩,
     ⟨(some 65), .call (.func 22) [(.tmp 64)] .pure, (some (63, true))⟩,
     ⟨(some 66), .pick (.tmp 63) (.tmp 65) (.const (.bool false)), none⟩,
     ⟨(some 67), .mov (.tmp 66), none⟩,
     ⟨(some 68), .call (.func 21) [] .pure, (some (67, true))⟩,
     ⟨(some 69), .build [(.val (.bool false)), (.sl none []), (.val (.bool false)), (.sl none [])] [], (some (67, true))⟩,
     ⟨(some 70), .call (.func 14) [(.tmp 69)] .pure, (some (67, true))⟩,
     ⟨(some 71), .call (.func 17) [(.tmp 68), (.tmp 70)] .pure, (some (67, true))⟩,
     ⟨(some 72), .pick (.tmp 67) (.tmp 71) (.const (.bool false)), none⟩,
     ⟨(some 0), .mov (.tmp 72), none⟩]) (
  .ret)))))))
theorem r11 : Runs Try.prog 11 m11.strip [.mov (.tmp 0)] 73 := ⟨by kernel_rfl, by kernel_rfl, Try.f11, Try.f11.body.getD .skip, Try.func11, by kernel_rfl, by kernel_rfl, by kernel_rfl, by kernel_rfl, by kernel_rfl⟩

/-- arbour/arbourref03.Few -/
def m12 : MC :=
  .seq (
   .reg [⟨(some 2), .mov (.const (.bool false)), none⟩]) (
  .trim [0] [] [] (
  .seq (
   .seq (
    .reg [⟨(some 3), .mov (.const (.int .i64 0)), none⟩]) (
   .trim [0, 3] [] [] (
   .block 0 (
    .loop (
     .trim [0, 3] [] [] (
     .seq (
      .seq (
       .reg [⟨(some 5), .mov (.tmp 3), none⟩,
         ⟨(some 6), .mov (.tmp 0), none⟩,
         ⟨(some 7), .lenL (.tmp 6), none⟩,
         ⟨(some 8), .bin .lss (.tmp 5) (.tmp 7), none⟩]) (
      .trim [0, 3, 8] [] [] (
      .cond (.tmp 8) (
        .skip) (
        .exit 0)))) (
     .trim [0, 3] [] [] (
     .seq (
      .block 1 (
       .seq (
        .seq (
         .reg [⟨(some 11), .mov (.tmp 0), none⟩,
           ⟨(some 12), .mov (.tmp 3), none⟩,
           ⟨(some 13), .iaddrS 4 (.tmp 11) (.tmp 12), none⟩,
           ⟨(some 14), .faddr 1 (.tmp 13), none⟩,
           ⟨(some 15), .load none (.tmp 14), none⟩,
           ⟨(some 16), .lenL (.tmp 15), none⟩,
           ⟨(some 17), .bin .gtr (.tmp 16) (.const (.int .i64 40)), none⟩,
           ⟨(some 18), .mov (.tmp 17), none⟩,
           ⟨(some 19), .mov (.tmp 0), (some (18, false))⟩,
           ⟨(some 20), .mov (.tmp 3), (some (18, false))⟩,
           ⟨(some 21), .iaddrS 4 (.tmp 19) (.tmp 20), (some (18, false))⟩,
           ⟨(some 22), .faddr 3 (.tmp 21), (some (18, false))⟩,
           ⟨(some 23), .load none (.tmp 22), (some (18, false))⟩,
           ⟨(some 24), .lenL (.tmp 23), (some (18, false))⟩,
           ⟨(some 25), .bin .gtr (.tmp 24) (.const (.int .i64 40)), (some (18, false))⟩,
           ⟨(some 26), .pick (.tmp 18) (.const (.bool true)) (.tmp 25), none⟩]) (
        .trim [0, 3, 26] [] [] (
        .cond (.tmp 26) (
          .seq (
           .reg [⟨(some 2), .mov (.const (.bool false)), none⟩]) (
          .ret)) (
          .skip)))) (
       .trim [0, 3] [] [] (
       .seq (
        .reg [⟨(some 4), .mov (.const (.int .i64 0)), none⟩]) (
       .trim [0, 3, 4] [] [] (
       .block 2 (
        .loop (
         .trim [0, 3, 4] [] [] (
         .seq (
          .seq (
           .reg [⟨(some 27), .mov (.tmp 4), none⟩,
             ⟨(some 28), .mov (.tmp 0), none⟩,
             ⟨(some 29), .mov (.tmp 3), none⟩,
             ⟨(some 30), .iaddrS 4 (.tmp 28) (.tmp 29), none⟩,
             ⟨(some 31), .faddr 3 (.tmp 30), none⟩,
             ⟨(some 32), .load none (.tmp 31), none⟩,
             ⟨(some 33), .lenL (.tmp 32), none⟩,
             ⟨(some 34), .bin .lss (.tmp 27) (.tmp 33), none⟩]) (
          .trim [0, 3, 4, 34] [] [] (
          .cond (.tmp 34) (
            .skip) (
            .exit 2)))) (
         .trim [0, 3, 4] [] [] (
         .seq (
          .block 3 (
           .seq (
            .reg [⟨(some 37), .mov (.tmp 0), none⟩,
              ⟨(some 38), .mov (.tmp 3), none⟩,
              ⟨(some 39), .iaddrS 4 (.tmp 37) (.tmp 38), none⟩,
              ⟨(some 40), .faddr 3 (.tmp 39), none⟩,
              ⟨(some 41), .load none (.tmp 40), none⟩,
              ⟨(some 42), .mov (.tmp 4), none⟩,
              ⟨(some 43), .iaddrS 1 (.tmp 41) (.tmp 42), none⟩,
              ⟨(some 44), .load none (.tmp 43), none⟩,
              ⟨(some 45), .lenS (.tmp 44), none⟩,
              ⟨(some 46), .bin .gtr (.tmp 45) (.const (.int .i64 100)), none⟩]) (
           .trim [0, 3, 4, 46] [] [] (
           .cond (.tmp 46) (
             .seq (
              .reg [⟨(some 2), .mov (.const (.bool false)), none⟩]) (
             .ret)) (
             .skip))))) (
         .trim [0, 3, 4] [] [] (
         .reg [⟨(some 35), .mov (.tmp 4), none⟩,
           ⟨(some 36), .bin .add (.tmp 35) (.const (.int .i64 1)), none⟩,
           ⟨(some 4), .mov (.tmp 36), none⟩]))))))))))))) (
     .trim [0, 3] [] [] (
     .reg [⟨(some 9), .mov (.tmp 3), none⟩,
       ⟨(some 10), .bin .add (.tmp 9) (.const (.int .i64 1)), none⟩,
       ⟨(some 3), .mov (.tmp 10), none⟩])))))))))) (
  .trim [] [] [] (
  .seq (
   .reg [⟨(some 2), .mov (.const (.bool true)), none⟩]) (
  .ret)))))
theorem r12 : Runs Try.prog 12 m12.strip [.mov (.tmp 2)] 47 := ⟨by kernel_rfl, by kernel_rfl, Try.f12, Try.f12.body.getD .skip, Try.func12, by kernel_rfl, by kernel_rfl, by kernel_rfl, by kernel_rfl, by kernel_rfl⟩

/-- arbour/arbourref03.Right -/
def m13 : MC :=
  .seq (
   .reg [⟨(some 1), .box 25 4 (.tmp 0), none⟩,
     ⟨(some 2), .mov (.const (.bool false)), none⟩]) (
  .trim [1] [1] [] (
  .seq (
   .seq (
    .reg [⟨(some 3), .mov (.const (.int .i64 0)), none⟩]) (
   .trim [1, 3] [1] [] (
   .block 0 (
    .loop (
     .trim [1, 3] [1] [] (
     .seq (
      .seq (
       .reg [⟨(some 6), .mov (.tmp 3), none⟩,
         ⟨(some 7), .faddr 1 (.tmp 1), none⟩,
         ⟨(some 8), .load none (.tmp 7), none⟩,
         ⟨(some 9), .lenL (.tmp 8), none⟩,
         ⟨(some 10), .bin .lss (.tmp 6) (.tmp 9), none⟩]) (
      .trim [1, 3, 10] [1] [] (
      .cond (.tmp 10) (
        .skip) (
        .exit 0)))) (
     .trim [1, 3] [1] [] (
     .seq (
      .block 1 (
       .seq (
        .reg [⟨(some 13), .faddr 1 (.tmp 1), none⟩,
          ⟨(some 14), .load none (.tmp 13), none⟩,
          ⟨(some 15), .mov (.tmp 3), none⟩,
          ⟨(some 16), .iaddrS 2 (.tmp 14) (.tmp 15), none⟩,
          ⟨(some 17), .load (some 2) (.tmp 16), none⟩,
          ⟨(some 4), .alloc 63 [(.val (.int .i64 0)), (.val (.int .i64 0))], none⟩,
          ⟨none, .store 2 (.tmp 4) (.tmp 17), none⟩]) (
       .trim [1, 3, 4] [1, 4] [] (
       .seq (
        .seq (
         .reg [⟨(some 18), .faddr 0 (.tmp 4), none⟩,
           ⟨(some 19), .load none (.tmp 18), none⟩,
           ⟨(some 20), .faddr 1 (.tmp 4), none⟩,
           ⟨(some 21), .load none (.tmp 20), none⟩,
           ⟨(some 22), .bin .gtr (.tmp 19) (.tmp 21), none⟩]) (
        .trim [1, 3, 4, 22] [1, 4] [] (
        .cond (.tmp 22) (
          .seq (
           .reg [⟨(some 2), .mov (.const (.bool false)), none⟩]) (
          .ret)) (
          .skip)))) (
       .trim [1, 3, 4] [1, 4] [] (
       .seq (
        .dreg 27 [⟨(some 23), .mov (.tmp 3), none⟩,
          ⟨(some 24), .bin .gtr (.tmp 23) (.const (.int .i64 0)), none⟩,
          ⟨(some 25), .mov (.tmp 24), none⟩,
          ⟨(some 26), .faddr 1 (.tmp 1), (some (25, true))⟩,
          ⟨(some 27), .load none (.tmp 26), (some (25, true))⟩,
          ⟨(some 28), .mov (.tmp 3), (some (25, true))⟩,
          ⟨(some 29), .bin .sub (.tmp 28) (.const (.int .i64 1)), (some (25, true))⟩,
          ⟨(some 30), .iaddrS 2 (.tmp 27) (.tmp 29), (some (25, true))⟩,
          ⟨(some 31), .faddr 1 (.tmp 30), (some (25, true))⟩,
          ⟨(some 32), .load none (.tmp 31), (some (25, true))⟩,
          ⟨(some 33), .faddr 0 (.tmp 4), (some (25, true))⟩,
          ⟨(some 34), .load none (.tmp 33), (some (25, true))⟩,
          ⟨(some 35), .bin .geq (.tmp 32) (.tmp 34), (some (25, true))⟩,
          ⟨(some 36), .mov (.tmp 35), (some (25, true))⟩,
          ⟨(some 37), .faddr 1 (.tmp 1), (some (36, false))⟩,
          ⟨(some 38), .load none (.tmp 37), (some (36, false))⟩,
          ⟨(some 39), .mov (.tmp 3), (some (36, false))⟩,
          ⟨(some 40), .bin .sub (.tmp 39) (.const (.int .i64 1)), (some (36, false))⟩,
          ⟨(some 41), .iaddrS 2 (.tmp 38) (.tmp 40), (some (36, false))⟩,
          ⟨(some 42), .faddr 1 (.tmp 41), (some (36, false))⟩,
          ⟨(some 43), .load none (.tmp 42), (some (36, false))⟩,
          ⟨(some 44), .bin .add (.tmp 43) (.const (.int .i64 1)), (some (36, false))⟩,
          ⟨(some 45), .faddr 0 (.tmp 4), (some (36, false))⟩,
          ⟨(some 46), .load none (.tmp 45), (some (36, false))⟩,
          ⟨(some 47), .bin .geq (.tmp 44) (.tmp 46), (some (36, false))⟩,
          ⟨(some 48), .pick (.tmp 36) (.const (.bool true)) (.tmp 47), (some (25, true))⟩,
          ⟨(some 49), .pick (.tmp 25) (.tmp 48) (.const (.bool false)), none⟩]) (
       .trim [1, 3, 49] [1] [] (
       .cond (.tmp 49) (
         .seq (
          .reg [⟨(some 2), .mov (.const (.bool false)), none⟩]) (
         .ret)) (
         .skip))))))))) (
     .trim [1, 3] [1] [] (
     .reg [⟨(some 11), .mov (.tmp 3), none⟩,
       ⟨(some 12), .bin .add (.tmp 11) (.const (.int .i64 1)), none⟩,
       ⟨(some 3), .mov (.tmp 12), none⟩])))))))))) (
  .trim [1] [1] [] (
  .seq (
   .seq (
    .reg [⟨(some 5), .mov (.const (.int .i64 0)), none⟩]) (
   .trim [1, 5] [1] [] (
   .block 2 (
    .loop (
     .trim [1, 5] [1] [] (
     .seq (
      .seq (
       .reg [⟨(some 50), .mov (.tmp 5), none⟩,
         ⟨(some 51), .faddr 3 (.tmp 1), none⟩,
         ⟨(some 52), .load none (.tmp 51), none⟩,
         ⟨(some 53), .lenL (.tmp 52), none⟩,
         ⟨(some 54), .bin .lss (.tmp 50) (.tmp 53), none⟩]) (
      .trim [1, 5, 54] [1] [] (
      .cond (.tmp 54) (
        .skip) (
        .exit 2)))) (
     .trim [1, 5] [1] [] (
     .seq (
      .block 3 (
       .seq (
        .dreg 25 [⟨(some 57), .faddr 3 (.tmp 1), none⟩,
          ⟨(some 58), .load none (.tmp 57), none⟩,
          ⟨(some 59), .mov (.tmp 5), none⟩,
          ⟨(some 60), .iaddrS 1 (.tmp 58) (.tmp 59), none⟩,
          ⟨(some 61), .load none (.tmp 60), none⟩,
          ⟨(some 62), .lenS (.tmp 61), none⟩,
          ⟨(some 63), .bin .gtr (.tmp 62) (.const (.int .i64 8)), none⟩,
          ⟨(some 64), .mov (.tmp 63), none⟩,
          ⟨(some 65), .mov (.tmp 5), (some (64, false))⟩,
          ⟨(some 66), .bin .gtr (.tmp 65) (.const (.int .i64 0)), (some (64, false))⟩,
          ⟨(some 67), .mov (.tmp 66), (some (64, false))⟩,
          ⟨(some 68), .faddr 3 (.tmp 1), (some (67, true))⟩,
          ⟨(some 69), .load none (.tmp 68), (some (67, true))⟩,
          ⟨(some 70), .mov (.tmp 5), (some (67, true))⟩,
          ⟨(some 71), .bin .sub (.tmp 70) (.const (.int .i64 1)), (some (67, true))⟩,
          ⟨(some 72), .iaddrS 1 (.tmp 69) (.tmp 71), (some (67, true))⟩,
          ⟨(some 73), .load none (.tmp 72), (some (67, true))⟩,
          ⟨(some 74), .faddr 3 (.tmp 1), (some (67, true))⟩,
          ⟨(some 75), .load none (.tmp 74), (some (67, true))⟩,
          ⟨(some 76), .mov (.tmp 5), (some (67, true))⟩,
          ⟨(some 77), .iaddrS 1 (.tmp 75) (.tmp 76), (some (67, true))⟩,
          ⟨(some 78), .load none (.tmp 77), (some (67, true))⟩,
          ⟨(some 79), .bin .geq (.tmp 73) (.tmp 78), (some (67, true))⟩,
          ⟨(some 80), .pick (.tmp 67) (.tmp 79) (.const (.bool false)), (some (64, false))⟩,
          ⟨(some 81), .pick (.tmp 64) (.const (.bool true)) (.tmp 80), none⟩]) (
       .trim [1, 5, 81] [1] [] (
       .cond (.tmp 81) (
         .seq (
          .reg [⟨(some 2), .mov (.const (.bool false)), none⟩]) (
         .ret)) (
         .skip))))) (
     .trim [1, 5] [1] [] (
     .reg [⟨(some 55), .mov (.tmp 5), none⟩,
       ⟨(some 56), .bin .add (.tmp 55) (.const (.int .i64 1)), none⟩,
       ⟨(some 5), .mov (.tmp 56), none⟩])))))))))) (
  .trim [] [] [] (
  .seq (
   .reg [⟨(some 2), .mov (.const (.bool true)), none⟩]) (
  .ret)))))))
theorem r13 : Runs Try.prog 13 m13.strip [.mov (.tmp 2)] 82 := ⟨by kernel_rfl, by kernel_rfl, Try.f13, Try.f13.body.getD .skip, Try.func13, by kernel_rfl, by kernel_rfl, by kernel_rfl, by kernel_rfl, by kernel_rfl⟩

/-- arbour/set.Not -/
def m14 : MC :=
  .seq (
   .reg [⟨(some 1), .box 25 4 (.tmp 0), none⟩,
     ⟨(some 2), .alloc 25 [(.val (.bool false)), (.sl none []), (.val (.bool false)), (.sl none [])], none⟩]) (
  .trim [1, 2] [1, 2] [] (
  .seq (
   .dreg 14 [⟨(some 3), .faddr 0 (.tmp 1), none⟩,
     ⟨(some 4), .load none (.tmp 3), none⟩,
     ⟨(some 5), .un .not (.tmp 4), none⟩,
     ⟨(some 6), .faddr 1 (.tmp 1), none⟩,
     ⟨(some 7), .load none (.tmp 6), none⟩,
     ⟨(some 8), .call (.func 37) [(.tmp 7)] .pure, none⟩,
     ⟨(some 9), .call (.func 38) [(.tmp 8)] .pure, none⟩,
     ⟨(some 10), .faddr 2 (.tmp 1), none⟩,
     ⟨(some 11), .load none (.tmp 10), none⟩,
     ⟨(some 12), .un .not (.tmp 11), none⟩,
     ⟨(some 13), .faddr 3 (.tmp 1), none⟩,
     ⟨(some 14), .load none (.tmp 13), none⟩,
     ⟨(some 15), .call (.func 39) [(.tmp 14)] .pure, none⟩,
     ⟨(some 16), .build [(.val (.bool false)), (.sl none []), (.val (.bool false)), (.sl none [])] [(0, 1, (.tmp 5)), (1, 1, (.tmp 9)), (2, 1, (.tmp 12)), (3, 1, (.tmp 15))], none⟩,
     ⟨none, .store 4 (.tmp 2) (.tmp 16), none⟩]) (
  .ret)))
theorem r14 : Runs Try.prog 14 m14.strip [.load (some 4) (.tmp 2)] 17 := ⟨by kernel_rfl, by kernel_rfl, Try.f14, Try.f14.body.getD .skip, Try.func14, by kernel_rfl, by kernel_rfl, by kernel_rfl, by kernel_rfl, by kernel_rfl⟩

/-- arbour/set.Or -/
def m15 : MC :=
  .seq (
   .reg [⟨(some 2), .box 25 4 (.tmp 0), none⟩,
     ⟨(some 3), .box 25 4 (.tmp 1), none⟩,
     ⟨(some 4), .alloc 25 [(.val (.bool false)), (.sl none []), (.val (.bool false)), (.sl none [])], none⟩]) (
  .trim [2, 3, 4] [2, 3, 4] [] (
  .seq (
   .dreg2 [(⟨(some 6), .faddr 0 (.tmp 2), none⟩, .q),
     (⟨(some 7), .load none (.tmp 6), none⟩, .q),
     (⟨(some 8), .mov (.tmp 7), none⟩, .q),
     (⟨(some 9), .faddr 0 (.tmp 3), (some (8, false))⟩, .q),
     (⟨(some 10), .load none (.tmp 9), (some (8, false))⟩, .q),
     (⟨(some 11), .pick (.tmp 8) (.const (.bool true)) (.tmp 10), none⟩, .q),
     (⟨(some 12), .faddr 1 (.tmp 2), none⟩, .q),
     (⟨(some 13), .load none (.tmp 12), none⟩, .q),
     (⟨(some 14), .call (.func 40) [(.tmp 13)] (.fresh 63 2), none⟩, .s),
     (⟨(some 15), .faddr 1 (.tmp 3), none⟩, .q),
     (⟨(some 16), .load none (.tmp 15), none⟩, .q),
     (⟨(some 17), .append 63 2 16 (.tmp 14) (.tmp 16), none⟩, .s),
     (⟨(some 18), .call (.func 37) [(.tmp 17)] .pure, none⟩, .s),
     (⟨(some 19), .faddr 2 (.tmp 2), none⟩, .q),
     (⟨(some 20), .load none (.tmp 19), none⟩, .q),
     (⟨(some 21), .mov (.tmp 20), none⟩, .q),
     (⟨(some 22), .faddr 2 (.tmp 3), (some (21, false))⟩, .q),
     (⟨(some 23), .load none (.tmp 22), (some (21, false))⟩, .q),
     (⟨(some 24), .pick (.tmp 21) (.const (.bool true)) (.tmp 23), none⟩, .q),
     (⟨(some 25), .build [(.val (.bool false)), (.sl none []), (.val (.bool false)), (.sl none [])] [(0, 1, (.tmp 11)), (1, 1, (.tmp 18)), (2, 1, (.tmp 24))], none⟩, .s),
     (⟨(some 5), .alloc 25 [(.val (.bool false)), (.sl none []), (.val (.bool false)), (.sl none [])], none⟩, .a),
     (⟨none, .store 4 (.tmp 5) (.tmp 25), none⟩, .h)]) (
  .trim [2, 3, 4, 5] [2, 3, 4, 5] [] (
  .seq (
   .block 0 (
    .seq (
     .reg [⟨(some 33), .faddr 2 (.tmp 2), none⟩,
       ⟨(some 34), .load none (.tmp 33), none⟩,
       ⟨(some 35), .mov (.tmp 34), none⟩,
       ⟨(some 36), .faddr 2 (.tmp 3), (some (35, true))⟩,
       ⟨(some 37), .load none (.tmp 36), (some (35, true))⟩,
       ⟨(some 38), .pick (.tmp 35) (.tmp 37) (.const (.bool false)), none⟩,
       ⟨(some 32), .mov (.tmp 38), none⟩]) (
    .trim [2, 3, 4, 5, 32] [2, 3, 4, 5] [] (
    .cond (.tmp 32) (
      .reg [⟨(some 39), .faddr 3 (.tmp 2), none⟩,
        ⟨(some 40), .load none (.tmp 39), none⟩,
        ⟨(some 41), .faddr 3 (.tmp 3), none⟩,
        ⟨(some 42), .load none (.tmp 41), none⟩,
        ⟨(some 43), .call (.func 41) [(.tmp 40), (.tmp 42), (.const (.bool true))] .pure, none⟩,
        ⟨(some 44), .faddr 3 (.tmp 5), none⟩,
        ⟨none, .store 1 (.tmp 44) (.tmp 43), none⟩]) (
      .seq (
       .reg [⟨(some 46), .faddr 2 (.tmp 2), none⟩,
         ⟨(some 47), .load none (.tmp 46), none⟩,
         ⟨(some 45), .mov (.tmp 47), none⟩]) (
      .trim [2, 3, 4, 5, 45] [2, 3, 4, 5] [] (
      .cond (.tmp 45) (
        .reg [⟨(some 48), .faddr 3 (.tmp 2), none⟩,
          ⟨(some 49), .load none (.tmp 48), none⟩,
          ⟨(some 50), .faddr 3 (.tmp 3), none⟩,
          ⟨(some 51), .load none (.tmp 50), none⟩,
          ⟨(some 52), .call (.func 41) [(.tmp 49), (.tmp 51), (.const (.bool false))] .pure, none⟩,
          ⟨(some 53), .faddr 3 (.tmp 5), none⟩,
          ⟨none, .store 1 (.tmp 53) (.tmp 52), none⟩]) (
        .seq (
         .reg [⟨(some 55), .faddr 2 (.tmp 3), none⟩,
           ⟨(some 56), .load none (.tmp 55), none⟩,
           ⟨(some 54), .mov (.tmp 56), none⟩]) (
        .trim [2, 3, 4, 5, 54] [2, 3, 4, 5] [] (
        .cond (.tmp 54) (
          .reg [⟨(some 57), .faddr 3 (.tmp 3), none⟩,
            ⟨(some 58), .load none (.tmp 57), none⟩,
            ⟨(some 59), .faddr 3 (.tmp 2), none⟩,
            ⟨(some 60), .load none (.tmp 59), none⟩,
            ⟨(some 61), .call (.func 41) [(.tmp 58), (.tmp 60), (.const (.bool false))] .pure, none⟩,
            ⟨(some 62), .faddr 3 (.tmp 5), none⟩,
            ⟨none, .store 1 (.tmp 62) (.tmp 61), none⟩]) (
          .reg [⟨(some 26), .faddr 3 (.tmp 2), none⟩,
            ⟨(some 27), .load none (.tmp 26), none⟩,
            ⟨(some 28), .faddr 3 (.tmp 3), none⟩,
            ⟨(some 29), .load none (.tmp 28), none⟩,
            ⟨(some 30), .call (.func 42) [(.tmp 27), (.tmp 29)] .pure, none⟩,
            ⟨(some 31), .faddr 3 (.tmp 5), none⟩,
            ⟨none, .store 1 (.tmp 31) (.tmp 30), none⟩]))))))))))) (
  .trim [4, 5] [4, 5] [] (
  .seq (
   .reg [⟨(some 63), .load (some 4) (.tmp 5), none⟩,
     ⟨none, .store 4 (.tmp 4) (.tmp 63), none⟩]) (
  .ret)))))))
theorem r15 : Runs Try.prog 15 m15.strip [.load (some 4) (.tmp 4)] 64 := ⟨by kernel_rfl, by kernel_rfl, Try.f15, Try.f15.body.getD .skip, Try.func15, by kernel_rfl, by kernel_rfl, by kernel_rfl, by kernel_rfl, by kernel_rfl⟩

/-- arbour/set.And -/
def m16 : MC :=
  .seq (
   .reg [⟨(some 2), .box 25 4 (.tmp 0), none⟩,
     ⟨(some 3), .box 25 4 (.tmp 1), none⟩,
     ⟨(some 4), .alloc 25 [(.val (.bool false)), (.sl none []), (.val (.bool false)), (.sl none [])], none⟩]) (
  .trim [2, 3, 4] [2, 3, 4] [] (
  .seq (
   .dreg 6 [⟨(some 5), .load (some 4) (.tmp 2), none⟩,
     ⟨(some 6), .call (.func 14) [(.tmp 5)] .pure, none⟩,
     ⟨(some 7), .load (some 4) (.tmp 3), none⟩,
     ⟨(some 8), .call (.func 14) [(.tmp 7)] .pure, none⟩,
     ⟨(some 9), .call (.func 15) [(.tmp 6), (.tmp 8)] .pure, none⟩,
     ⟨(some 10), .call (.func 14) [(.tmp 9)] .pure, none⟩,
     ⟨none, .store 4 (.tmp 4) (.tmp 10), none⟩]) (
  .ret)))
theorem r16 : Runs Try.prog 16 m16.strip [.load (some 4) (.tmp 4)] 11 := ⟨by kernel_rfl, by kernel_rfl, Try.f16, Try.f16.body.getD .skip, Try.func16, by kernel_rfl, by kernel_rfl, by kernel_rfl, by kernel_rfl, by kernel_rfl⟩

/-- arbour/set.Same -/
def m17 : MC :=
  .seq (
   .reg [⟨(some 2), .box 25 4 (.tmp 0), none⟩,
     ⟨(some 3), .box 25 4 (.tmp 1), none⟩,
     ⟨(some 4), .mov (.const (.bool false)), none⟩]) (
  .trim [2, 3] [2, 3] [] (
  .seq (
   .reg [⟨(some 5), .faddr 0 (.tmp 2), none⟩,
     ⟨(some 6), .load none (.tmp 5), none⟩,
     ⟨(some 7), .faddr 0 (.tmp 3), none⟩,
     ⟨(some 8), .load none (.tmp 7), none⟩,
     ⟨(some 9), .binB false (.tmp 6) (.tmp 8), none⟩,
     ⟨(some 10), .mov (.tmp 9), none⟩,
     ⟨(some 11), .faddr 2 (.tmp 2), (some (10, true))⟩,
     ⟨(some 12), .load none (.tmp 11), (some (10, true))⟩,
     ⟨(some 13), .faddr 2 (.tmp 3), (some (10, true))⟩,
     ⟨(some 14), .load none (.tmp 13), (some (10, true))⟩,
     ⟨(some 15), .binB false (.tmp 12) (.tmp 14), (some (10, true))⟩,
     ⟨(some 16), .pick (.tmp 10) (.tmp 15) (.const (.bool false)), none⟩,
     ⟨(some 17), .mov (.tmp 16), none⟩,
     ⟨(some 18), .faddr 1 (.tmp 2), (some (17, true))⟩,
     ⟨(some 19), .load none (.tmp 18), (some (17, true))⟩,
     ⟨(some 20), .faddr 1 (.tmp 3), (some (17, true))⟩,
     ⟨(some 21), .load none (.tmp 20), (some (17, true))⟩,
     ⟨(some 22), .call (.func 43) [(.tmp 19), (.tmp 21)] .pure, (some (17, true))⟩,
     ⟨(some 23), .pick (.tmp 17) (.tmp 22) (.const (.bool false)), none⟩,
     ⟨(some 24), .mov (.tmp 23), none⟩,
     ⟨(some 25), .faddr 3 (.tmp 2), (some (24, true))⟩,
     ⟨(some 26), .load none (.tmp 25), (some (24, true))⟩,
     ⟨(some 27), .faddr 3 (.tmp 3), (some (24, true))⟩,
     ⟨(some 28), .load none (.tmp 27), (some (24, true))⟩,
     ⟨(some 29), .call (.func 44) [(.tmp 26), (.tmp 28)] .pure, (some (24, true))⟩,
     ⟨(some 30), .pick (.tmp 24) (.tmp 29) (.const (.bool false)), none⟩,
     ⟨(some 4), .mov (.tmp 30), none⟩]) (
  .ret)))
theorem r17 : Runs Try.prog 17 m17.strip [.mov (.tmp 4)] 31 := ⟨by kernel_rfl, by kernel_rfl, Try.f17, Try.f17.body.getD .skip, Try.func17, by kernel_rfl, by kernel_rfl, by kernel_rfl, by kernel_rfl, by kernel_rfl⟩

/-- arbour/arbourref03.Points -/
def m18 : MC :=
  .seq (
   .reg [⟨(some 2), .nilsl 27 3, none⟩]) (
  .trim [0] [] [] (
  .seq (
   .reg [⟨(some 9), .build [(.val (.int .i64 0)), (.val (.int .i64 0)), (.val (.string ⟨#[]⟩))] [], none⟩,
     ⟨(some 10), .build [(.val (.int .i64 0)), (.val (.int .i64 0)), (.val (.string ⟨#[]⟩))] [(0, 1, (.const (.int .i64 1))), (1, 1, (.const (.int .i64 (-9223372036854775808))))], none⟩,
     ⟨(some 11), .build [(.val (.int .i64 0)), (.val (.int .i64 0)), (.val (.string ⟨#[]⟩))] [(0, 1, (.const (.int .i64 1))), (1, 1, (.const (.int .i64 9223372036854775807)))], none⟩,
     ⟨(some 12), .build [(.val (.int .i64 0)), (.val (.int .i64 0)), (.val (.string ⟨#[]⟩))] [(0, 1, (.const (.int .i64 1)))], none⟩,
     ⟨(some 13), .bslice 27 3 [(.val (.int .i64 0)), (.val (.int .i64 0)), (.val (.string ⟨#[]⟩))] 4 [(0, 3, (.tmp 9)), (3, 3, (.tmp 10)), (6, 3, (.tmp 11)), (9, 3, (.tmp 12))], none⟩,
     ⟨(some 3), .mov (.tmp 13), none⟩]) (
  .trim [0, 3] [] [(13, 27, 3)] (
  .seq (
   .reg [⟨(some 4), .mov (.const (.string ⟨#[126]⟩)), none⟩]) (
  .trim [0, 3, 4] [] [(13, 27, 3)] (
  .seq (
   .seq (
    .reg [⟨(some 5), .mov (.const (.int .i64 0)), none⟩]) (
   .trim [0, 3, 4, 5] [] [(13, 27, 3)] (
   .block 0 (
    .loop (
     .trim [0, 3, 4, 5] [] [(13, 27, 3)] (
     .seq (
      .seq (
       .reg [⟨(some 14), .mov (.tmp 5), none⟩,
         ⟨(some 15), .mov (.tmp 0), none⟩,
         ⟨(some 16), .lenL (.tmp 15), none⟩,
         ⟨(some 17), .bin .lss (.tmp 14) (.tmp 16), none⟩]) (
      .trim [0, 3, 4, 5, 17] [] [(13, 27, 3)] (
      .cond (.tmp 17) (
        .skip) (
        .exit 0)))) (
     .trim [0, 3, 4, 5] [] [(13, 27, 3)] (
     .seq (
      .block 1 (
       .seq (
        .seq (
         .reg [⟨(some 6), .mov (.const (.int .i64 0)), none⟩]) (
        .trim [0, 3, 4, 5, 6] [] [(13, 27, 3)] (
        .block 2 (
         .loop (
          .trim [0, 3, 4, 5, 6] [] [(13, 27, 3)] (
          .seq (
           .seq (
            .reg [⟨(some 20), .mov (.tmp 6), none⟩,
              ⟨(some 21), .mov (.tmp 0), none⟩,
              ⟨(some 22), .mov (.tmp 5), none⟩,
              ⟨(some 23), .iaddrS 4 (.tmp 21) (.tmp 22), none⟩,
              ⟨(some 24), .faddr 1 (.tmp 23), none⟩,
              ⟨(some 25), .load none (.tmp 24), none⟩,
              ⟨(some 26), .lenL (.tmp 25), none⟩,
              ⟨(some 27), .bin .lss (.tmp 20) (.tmp 26), none⟩]) (
           .trim [0, 3, 4, 5, 6, 27] [] [(13, 27, 3)] (
           .cond (.tmp 27) (
             .skip) (
             .exit 2)))) (
          .trim [0, 3, 4, 5, 6] [] [(13, 27, 3)] (
          .seq (
           .block 3 (
            .seq (
             .reg [⟨(some 30), .mov (.tmp 0), none⟩,
               ⟨(some 31), .mov (.tmp 5), none⟩,
               ⟨(some 32), .iaddrS 4 (.tmp 30) (.tmp 31), none⟩,
               ⟨(some 33), .faddr 1 (.tmp 32), none⟩,
               ⟨(some 34), .load none (.tmp 33), none⟩,
               ⟨(some 35), .mov (.tmp 6), none⟩,
               ⟨(some 36), .iaddrS 2 (.tmp 34) (.tmp 35), none⟩,
               ⟨(some 37), .load (some 2) (.tmp 36), none⟩,
               ⟨(some 7), .alloc 63 [(.val (.int .i64 0)), (.val (.int .i64 0))], none⟩,
               ⟨none, .store 2 (.tmp 7) (.tmp 37), none⟩]) (
            .trim [0, 3, 4, 5, 6, 7] [7] [(13, 27, 3)] (
            .seq (
             .reg [⟨(some 38), .mov (.tmp 3), none⟩,
               ⟨(some 39), .faddr 0 (.tmp 7), none⟩,
               ⟨(some 40), .load none (.tmp 39), none⟩,
               ⟨(some 41), .build [(.val (.int .i64 0)), (.val (.int .i64 0)), (.val (.string ⟨#[]⟩))] [(0, 1, (.const (.int .i64 1))), (1, 1, (.tmp 40))], none⟩,
               ⟨(some 42), .faddr 1 (.tmp 7), none⟩,
               ⟨(some 43), .load none (.tmp 42), none⟩,
               ⟨(some 44), .build [(.val (.int .i64 0)), (.val (.int .i64 0)), (.val (.string ⟨#[]⟩))] [(0, 1, (.const (.int .i64 1))), (1, 1, (.tmp 43))], none⟩,
               ⟨(some 45), .bslice 27 3 [(.val (.int .i64 0)), (.val (.int .i64 0)), (.val (.string ⟨#[]⟩))] 2 [(0, 3, (.tmp 41)), (3, 3, (.tmp 44))], none⟩,
               ⟨(some 46), .append 27 3 32 (.tmp 38) (.tmp 45), none⟩,
               ⟨(some 3), .mov (.tmp 46), none⟩]) (
            .trim [0, 3, 4, 5, 6, 7] [7] [(13, 27, 3)] (
            .seq (
             .seq (
              .reg [⟨(some 47), .faddr 0 (.tmp 7), none⟩,
                ⟨(some 48), .load none (.tmp 47), none⟩,
                ⟨(some 49), .bin .gtr (.tmp 48) (.const (.int .i64 (-9223372036854775808))), none⟩]) (
             .trim [0, 3, 4, 5, 6, 7, 49] [7] [(13, 27, 3)] (
             .cond (.tmp 49) (
               .reg [⟨(some 50), .mov (.tmp 3), none⟩,
                 ⟨(some 51), .faddr 0 (.tmp 7), none⟩,
                 ⟨(some 52), .load none (.tmp 51), none⟩,
                 ⟨(some 53), .bin .sub (.tmp 52) (.const (.int .i64 1)), none⟩,
                 ⟨(some 54), .build [(.val (.int .i64 0)), (.val (.int .i64 0)), (.val (.string ⟨#[]⟩))] [(0, 1, (.const (.int .i64 1))), (1, 1, (.tmp 53))], none⟩,
                 ⟨(some 55), .bslice 27 3 [(.val (.int .i64 0)), (.val (.int .i64 0)), (.val (.string ⟨#[]⟩))] 1 [(0, 3, (.tmp 54))], none⟩,
                 ⟨(some 56), .append 27 3 32 (.tmp 50) (.tmp 55), none⟩,
                 ⟨(some 3), .mov (.tmp 56), none⟩]) (
               .skip)))) (
            .trim [0, 3, 4, 5, 6, 7] [7] [(13, 27, 3)] (
            .seq (
             .reg [⟨(some 57), .faddr 1 (.tmp 7), none⟩,
               ⟨(some 58), .load none (.tmp 57), none⟩,
               ⟨(some 59), .bin .lss (.tmp 58) (.const (.int .i64 9223372036854775807)), none⟩]) (
            .trim [0, 3, 4, 5, 6, 7, 59] [7] [(13, 27, 3)] (
            .cond (.tmp 59) (
              .reg [⟨(some 60), .mov (.tmp 3), none⟩,
                ⟨(some 61), .faddr 1 (.tmp 7), none⟩,
                ⟨(some 62), .load none (.tmp 61), none⟩,
                ⟨(some 63), .bin .add (.tmp 62) (.const (.int .i64 1)), none⟩,
                ⟨(some 64), .build [(.val (.int .i64 0)), (.val (.int .i64 0)), (.val (.string ⟨#[]⟩))] [(0, 1, (.const (.int .i64 1))), (1, 1, (.tmp 63))], none⟩,
                ⟨(some 65), .bslice 27 3 [(.val (.int .i64 0)), (.val (.int .i64 0)), (.val (.string ⟨#[]⟩))] 1 [(0, 3, (.tmp 64))], none⟩,
                ⟨(some 66), .append 27 3 32 (.tmp 60) (.tmp 65), none⟩,
                ⟨(some 3), .mov (.tmp 66), none⟩]) (
              .skip))))))))))) (
          .trim [0, 3, 4, 5, 6] [] [(13, 27, 3)] (
          .reg [⟨(some 28), .mov (.tmp 6), none⟩,
            ⟨(some 29), .bin .add (.tmp 28) (.const (.int .i64 1)), none⟩,
            ⟨(some 6), .mov (.tmp 29), none⟩])))))))))) (
       .trim [0, 3, 4, 5] [] [(13, 27, 3)] (
       .seq (
        .reg [⟨(some 8), .mov (.const (.int .i64 0)), none⟩]) (
       .trim [0, 3, 4, 5, 8] [] [(13, 27, 3)] (
       .block 4 (
        .loop (
         .trim [0, 3, 4, 5, 8] [] [(13, 27, 3)] (
         .seq (
          .seq (
           .reg [⟨(some 67), .mov (.tmp 8), none⟩,
             ⟨(some 68), .mov (.tmp 0), none⟩,
             ⟨(some 69), .mov (.tmp 5), none⟩,
             ⟨(some 70), .iaddrS 4 (.tmp 68) (.tmp 69), none⟩,
             ⟨(some 71), .faddr 3 (.tmp 70), none⟩,
             ⟨(some 72), .load none (.tmp 71), none⟩,
             ⟨(some 73), .lenL (.tmp 72), none⟩,
             ⟨(some 74), .bin .lss (.tmp 67) (.tmp 73), none⟩]) (
          .trim [0, 3, 4, 5, 8, 74] [] [(13, 27, 3)] (
          .cond (.tmp 74) (
            .skip) (
            .exit 4)))) (
         .trim [0, 3, 4, 5, 8] [] [(13, 27, 3)] (
         .seq (
          .block 5 (
           .reg [⟨(some 77), .mov (.tmp 3), none⟩,
             ⟨(some 78), .mov (.tmp 0), none⟩,
             ⟨(some 79), .mov (.tmp 5), none⟩,
             ⟨(some 80), .iaddrS 4 (.tmp 78) (.tmp 79), none⟩,
             ⟨(some 81), .faddr 3 (.tmp 80), none⟩,
             ⟨(some 82), .load none (.tmp 81), none⟩,
             ⟨(some 83), .mov (.tmp 8), none⟩,
             ⟨(some 84), .iaddrS 1 (.tmp 82) (.tmp 83), none⟩,
             ⟨(some 85), .load none (.tmp 84), none⟩,
             ⟨(some 86), .build [(.val (.int .i64 0)), (.val (.int .i64 0)), (.val (.string ⟨#[]⟩))] [(0, 1, (.const (.int .i64 2))), (2, 1, (.tmp 85))], none⟩,
             ⟨(some 87), .bslice 27 3 [(.val (.int .i64 0)), (.val (.int .i64 0)), (.val (.string ⟨#[]⟩))] 1 [(0, 3, (.tmp 86))], none⟩,
             ⟨(some 88), .append 27 3 32 (.tmp 77) (.tmp 87), none⟩,
             ⟨(some 3), .mov (.tmp 88), none⟩])) (
         .trim [0, 3, 4, 5, 8] [] [(13, 27, 3)] (
         .reg [⟨(some 75), .mov (.tmp 8), none⟩,
           ⟨(some 76), .bin .add (.tmp 75) (.const (.int .i64 1)), none⟩,
           ⟨(some 8), .mov (.tmp 76), none⟩]))))))))))))) (
     .trim [0, 3, 4, 5] [] [(13, 27, 3)] (
     .reg [⟨(some 18), .mov (.tmp 5), none⟩,
       ⟨(some 19), .bin .add (.tmp 18) (.const (.int .i64 1)), none⟩,
       ⟨(some 5), .mov (.tmp 19), none⟩])))))))))) (
  .trim [0, 3, 4] [] [(13, 27, 3)] (
  .seq (
   .reg [⟨(some 89), .mov (.tmp 3), none⟩,
     ⟨(some 90), .mov (.tmp 0), none⟩,
     ⟨(some 91), .mov (.tmp 4), none⟩,
     ⟨(some 92), .call (.func 45) [(.tmp 90), (.tmp 91)] .pure, none⟩,
     ⟨(some 93), .build [(.val (.int .i64 0)), (.val (.int .i64 0)), (.val (.string ⟨#[]⟩))] [(0, 1, (.const (.int .i64 2))), (2, 1, (.tmp 92))], none⟩,
     ⟨(some 94), .bslice 27 3 [(.val (.int .i64 0)), (.val (.int .i64 0)), (.val (.string ⟨#[]⟩))] 1 [(0, 3, (.tmp 93))], none⟩,
     ⟨(some 95), .append 27 3 32 (.tmp 89) (.tmp 94), none⟩,
     ⟨(some 2), .mov (.tmp 95), none⟩]) (
  .ret)))))))))
theorem r18 : Runs Try.prog 18 m18.strip [.mov (.tmp 2)] 96 := ⟨by kernel_rfl, by kernel_rfl, Try.f18, Try.f18.body.getD .skip, Try.func18, by kernel_rfl, by kernel_rfl, by kernel_rfl, by kernel_rfl, by kernel_rfl⟩

/-- arbour/arbourref03.Has -/
def m19 : MC :=
  .seq (
   .reg [⟨(some 2), .box 25 4 (.tmp 0), none⟩,
     ⟨(some 3), .box 27 3 (.tmp 1), none⟩,
     ⟨(some 4), .mov (.const (.bool false)), none⟩]) (
  .trim [2, 3] [2, 3] [] (
  .seq (
   .seq (
    .reg [⟨(some 5), .load (some 3) (.tmp 3), none⟩,
      ⟨(some 6), .call (.func 46) [(.tmp 5)] .pure, none⟩,
      ⟨(some 7), .un .not (.tmp 6), none⟩]) (
   .trim [2, 3, 7] [2, 3] [] (
   .cond (.tmp 7) (
     .seq (
      .reg [⟨(some 4), .mov (.const (.bool false)), none⟩]) (
     .ret)) (
     .skip)))) (
  .trim [2, 3] [2, 3] [] (
  .seq (
   .seq (
    .reg [⟨(some 8), .faddr 0 (.tmp 3), none⟩,
      ⟨(some 9), .load none (.tmp 8), none⟩]) (
   .trim [2, 3, 9] [2, 3] [] (
   .block 0 (
    .seq (
     .reg [⟨(some 11), .bin .eql (.tmp 9) (.const (.int .i64 0)), none⟩,
       ⟨(some 10), .mov (.tmp 11), none⟩]) (
    .trim [2, 3, 9, 10] [2, 3] [] (
    .cond (.tmp 10) (
      .seq (
       .reg [⟨(some 12), .faddr 0 (.tmp 2), none⟩,
         ⟨(some 13), .load none (.tmp 12), none⟩,
         ⟨(some 4), .mov (.tmp 13), none⟩]) (
      .ret)) (
      .seq (
       .reg [⟨(some 15), .bin .eql (.tmp 9) (.const (.int .i64 1)), none⟩,
         ⟨(some 14), .mov (.tmp 15), none⟩]) (
      .trim [2, 3, 14] [2, 3] [] (
      .cond (.tmp 14) (
        .seq (
         .reg [⟨(some 16), .faddr 1 (.tmp 2), none⟩,
           ⟨(some 17), .load none (.tmp 16), none⟩,
           ⟨(some 18), .faddr 1 (.tmp 3), none⟩,
           ⟨(some 19), .load none (.tmp 18), none⟩,
           ⟨(some 20), .call (.func 47) [(.tmp 17), (.tmp 19)] .pure, none⟩,
           ⟨(some 4), .mov (.tmp 20), none⟩]) (
        .ret)) (
        .skip)))))))))) (
  .trim [2, 3] [2, 3] [] (
  .seq (
   .dreg 9 [⟨(some 21), .faddr 3 (.tmp 2), none⟩,
     ⟨(some 22), .load none (.tmp 21), none⟩,
     ⟨(some 23), .faddr 2 (.tmp 3), none⟩,
     ⟨(some 24), .load none (.tmp 23), none⟩,
     ⟨(some 25), .call (.func 48) [(.tmp 22), (.tmp 24)] .pure, none⟩,
     ⟨(some 26), .faddr 2 (.tmp 2), none⟩,
     ⟨(some 27), .load none (.tmp 26), none⟩,
     ⟨(some 28), .binB true (.tmp 25) (.tmp 27), none⟩,
     ⟨(some 4), .mov (.tmp 28), none⟩]) (
  .ret)))))))
theorem r19 : Runs Try.prog 19 m19.strip [.mov (.tmp 4)] 29 := ⟨by kernel_rfl, by kernel_rfl, Try.f19, Try.f19.body.getD .skip, Try.func19, by kernel_rfl, by kernel_rfl, by kernel_rfl, by kernel_rfl, by kernel_rfl⟩

/-- arbour/set.Has -/
def m20 : MC :=
  .seq (
   .reg [⟨(some 2), .box 25 4 (.tmp 0), none⟩,
     ⟨(some 3), .box 27 3 (.tmp 1), none⟩,
     ⟨(some 4), .mov (.const (.bool false)), none⟩]) (
  .trim [2, 3] [2, 3] [] (
  .fzb 3 (
  .seq (
   .block 0 (
    .seq (
     .reg [⟨(some 6), .load (some 3) (.tmp 3), none⟩,
       ⟨(some 7), .call (.func 49) [(.tmp 6)] .pure, none⟩,
       ⟨(some 8), .un .not (.tmp 7), none⟩,
       ⟨(some 5), .mov (.tmp 8), none⟩]) (
    .trim [2, 3, 5] [2, 3] [] (
    .cond (.tmp 5) (
      .seq (
       .reg [⟨(some 4), .mov (.const (.bool false)), none⟩]) (
      .ret)) (
      .seq (
       .reg [⟨(some 10), .faddr 0 (.tmp 3), none⟩,
         ⟨(some 11), .load none (.tmp 10), none⟩,
         ⟨(some 12), .bin .eql (.tmp 11) (.const (.int .i64 1)), none⟩,
         ⟨(some 9), .mov (.tmp 12), none⟩]) (
      .trim [2, 3, 9] [2, 3] [] (
      .cond (.tmp 9) (
        .seq (
         .reg [⟨(some 13), .faddr 1 (.tmp 2), none⟩,
           ⟨(some 14), .load none (.tmp 13), none⟩,
           ⟨(some 15), .mkfn 51 [] [(.tmp 3)], none⟩,
           ⟨(some 16), .call (.func 50) [(.tmp 14), (.tmp 15)] .pure, none⟩,
           ⟨(some 4), .mov (.tmp 16), none⟩]) (
        .ret)) (
        .seq (
         .reg [⟨(some 18), .faddr 0 (.tmp 3), none⟩,
           ⟨(some 19), .load none (.tmp 18), none⟩,
           ⟨(some 20), .bin .eql (.tmp 19) (.const (.int .i64 2)), none⟩,
           ⟨(some 17), .mov (.tmp 20), none⟩]) (
        .trim [2, 3, 17] [2, 3] [] (
        .cond (.tmp 17) (
          .seq (
           .dreg 9 [⟨(some 21), .faddr 3 (.tmp 2), none⟩,
             ⟨(some 22), .load none (.tmp 21), none⟩,
             ⟨(some 23), .faddr 2 (.tmp 3), none⟩,
             ⟨(some 24), .load none (.tmp 23), none⟩,
             ⟨(some 25), .call (.func 52) [(.tmp 22), (.tmp 24)] .pure, none⟩,
             ⟨(some 26), .faddr 2 (.tmp 2), none⟩,
             ⟨(some 27), .load none (.tmp 26), none⟩,
             ⟨(some 28), .binB true (.tmp 25) (.tmp 27), none⟩,
             ⟨(some 4), .mov (.tmp 28), none⟩]) (
          .ret)) (
          .skip))))))))))) (
  .trim [2] [2] [] (
  .seq (
   .reg [⟨(some 29), .faddr 0 (.tmp 2), none⟩,
     ⟨(some 30), .load none (.tmp 29), none⟩,
     ⟨(some 4), .mov (.tmp 30), none⟩]) (
  .ret))))))
theorem r20 : Runs Try.prog 20 m20.strip [.mov (.tmp 4)] 31 := ⟨by kernel_rfl, by kernel_rfl, Try.f20, Try.f20.body.getD .skip, Try.func20, by kernel_rfl, by kernel_rfl, by kernel_rfl, by kernel_rfl, by kernel_rfl⟩

/-- arbour/set.All -/
def m21 : MC :=
  .seq (
   .reg [⟨(some 0), .alloc 25 [(.val (.bool false)), (.sl none []), (.val (.bool false)), (.sl none [])], none⟩]) (
  .trim [0] [0] [(2, 63, 2)] (
  .seq (
   .reg [⟨(some 1), .build [(.val (.int .i64 0)), (.val (.int .i64 0))] [(0, 1, (.const (.int .i64 (-9223372036854775808)))), (1, 1, (.const (.int .i64 9223372036854775807)))], none⟩,
     ⟨(some 2), .bslice 63 2 [(.val (.int .i64 0)), (.val (.int .i64 0))] 1 [(0, 2, (.tmp 1))], none⟩,
     ⟨(some 3), .build [(.val (.bool false)), (.sl none []), (.val (.bool false)), (.sl none [])] [(0, 1, (.const (.bool true))), (1, 1, (.tmp 2)), (2, 1, (.const (.bool true)))], none⟩,
     ⟨none, .store 4 (.tmp 0) (.tmp 3), none⟩]) (
  .ret)))
theorem r21 : Runs Try.prog 21 m21.strip [.load (some 4) (.tmp 0)] 4 := ⟨by kernel_rfl, by kernel_rfl, Try.f21, Try.f21.body.getD .skip, Try.func21, by kernel_rfl, by kernel_rfl, by kernel_rfl, by kernel_rfl, by kernel_rfl⟩

/-- arbour/set.Empty -/
def m22 : MC :=
  .seq (
   .reg [⟨(some 1), .box 25 4 (.tmp 0), none⟩,
     ⟨(some 2), .mov (.const (.bool false)), none⟩]) (
  .trim [1] [1] [] (
  .seq (
   .reg [⟨(some 3), .faddr 0 (.tmp 1), none⟩,
     ⟨(some 4), .load none (.tmp 3), none⟩,
     ⟨(some 5), .un .not (.tmp 4), none⟩,
     ⟨(some 6), .mov (.tmp 5), none⟩,
     ⟨(some 7), .faddr 1 (.tmp 1), (some (6, true))⟩,
     ⟨(some 8), .load none (.tmp 7), (some (6, true))⟩,
     ⟨(some 9), .lenL (.tmp 8), (some (6, true))⟩,
     ⟨(some 10), .bin .eql (.tmp 9) (.const (.int .i64 0)), (some (6, true))⟩,
     ⟨(some 11), .pick (.tmp 6) (.tmp 10) (.const (.bool false)), none⟩,
     ⟨(some 12), .mov (.tmp 11), none⟩,
     ⟨(some 13), .faddr 2 (.tmp 1), (some (12, true))⟩,
     ⟨(some 14), .load none (.tmp 13), (some (12, true))⟩,
     ⟨(some 15), .un .not (.tmp 14), (some (12, true))⟩,
     ⟨(some 16), .pick (.tmp 12) (.tmp 15) (.const (.bool false)), none⟩,
     ⟨(some 17), .mov (.tmp 16), none⟩,
     ⟨(some 18), .faddr 3 (.tmp 1), (some (17, true))⟩,
     ⟨(some 19), .load none (.tmp 18), (some (17, true))⟩,
     ⟨(some 20), .lenL (.tmp 19), (some (17, true))⟩,
     ⟨(some 21), .bin .eql (.tmp 20) (.const (.int .i64 0)), (some (17, true))⟩,
     ⟨(some 22), .pick (.tmp 17) (.tmp 21) (.const (.bool false)), none⟩,
     ⟨(some 2), .mov (.tmp 22), none⟩]) (
  .ret)))
theorem r22 : Runs Try.prog 22 m22.strip [.mov (.tmp 2)] 23 := ⟨by kernel_rfl, by kernel_rfl, Try.f22, Try.f22.body.getD .skip, Try.func22, by kernel_rfl, by kernel_rfl, by kernel_rfl, by kernel_rfl, by kernel_rfl⟩

/-- arbour/set.In -/
def m23 : MC :=
  .seq (
   .reg [⟨(some 2), .box 25 4 (.tmp 0), none⟩,
     ⟨(some 3), .box 25 4 (.tmp 1), none⟩,
     ⟨(some 4), .mov (.const (.bool false)), none⟩]) (
  .trim [2, 3] [2, 3] [] (
  .seq (
   .dreg 6 [⟨(some 5), .load (some 4) (.tmp 2), none⟩,
     ⟨(some 6), .load (some 4) (.tmp 3), none⟩,
     ⟨(some 7), .call (.func 15) [(.tmp 5), (.tmp 6)] .pure, none⟩,
     ⟨(some 8), .load (some 4) (.tmp 3), none⟩,
     ⟨(some 9), .call (.func 17) [(.tmp 7), (.tmp 8)] .pure, none⟩,
     ⟨(some 4), .mov (.tmp 9), none⟩]) (
  .ret)))
theorem r23 : Runs Try.prog 23 m23.strip [.mov (.tmp 4)] 10 := ⟨by kernel_rfl, by kernel_rfl, Try.f23, Try.f23.body.getD .skip, Try.func23, by kernel_rfl, by kernel_rfl, by kernel_rfl, by kernel_rfl, by kernel_rfl⟩

/-- arbour/arbourref03.In -/
def m24 : MC :=
  .seq (
   .reg [⟨(some 2), .box 25 4 (.tmp 0), none⟩,
     ⟨(some 3), .box 25 4 (.tmp 1), none⟩,
     ⟨(some 4), .mov (.const (.bool false)), none⟩]) (
  .trim [2, 3] [2, 3] [] (
  .seq (
   .reg [⟨(some 7), .load (some 4) (.tmp 2), none⟩,
     ⟨(some 8), .load (some 4) (.tmp 3), none⟩,
     ⟨(some 9), .bslice 25 4 [(.val (.bool false)), (.sl none []), (.val (.bool false)), (.sl none [])] 2 [(0, 4, (.tmp 7)), (4, 4, (.tmp 8))], none⟩,
     ⟨(some 10), .call (.func 18) [(.tmp 9)] (.fresh 27 3), none⟩,
     ⟨(some 5), .mov (.tmp 10), none⟩]) (
  .trim [2, 3, 5] [2, 3] [(10, 27, 3)] (
  .seq (
   .seq (
    .reg [⟨(some 6), .mov (.const (.int .i64 0)), none⟩]) (
   .trim [2, 3, 5, 6] [2, 3] [(10, 27, 3)] (
   .block 0 (
    .loop (
     .trim [2, 3, 5, 6] [2, 3] [(10, 27, 3)] (
     .seq (
      .seq (
       .reg [⟨(some 11), .mov (.tmp 6), none⟩,
         ⟨(some 12), .mov (.tmp 5), none⟩,
         ⟨(some 13), .lenL (.tmp 12), none⟩,
         ⟨(some 14), .bin .lss (.tmp 11) (.tmp 13), none⟩]) (
      .trim [2, 3, 5, 6, 14] [2, 3] [(10, 27, 3)] (
      .cond (.tmp 14) (
        .skip) (
        .exit 0)))) (
     .trim [2, 3, 5, 6] [2, 3] [(10, 27, 3)] (
     .seq (
      .block 1 (
       .seq (
        .dreg 15 [⟨(some 17), .load (some 4) (.tmp 2), none⟩,
          ⟨(some 18), .mov (.tmp 5), none⟩,
          ⟨(some 19), .mov (.tmp 6), none⟩,
          ⟨(some 20), .iaddrS 3 (.tmp 18) (.tmp 19), none⟩,
          ⟨(some 21), .load (some 3) (.tmp 20), none⟩,
          ⟨(some 22), .call (.func 19) [(.tmp 17), (.tmp 21)] .pure, none⟩,
          ⟨(some 23), .mov (.tmp 22), none⟩,
          ⟨(some 24), .load (some 4) (.tmp 3), (some (23, true))⟩,
          ⟨(some 25), .mov (.tmp 5), (some (23, true))⟩,
          ⟨(some 26), .mov (.tmp 6), (some (23, true))⟩,
          ⟨(some 27), .iaddrS 3 (.tmp 25) (.tmp 26), (some (23, true))⟩,
          ⟨(some 28), .load (some 3) (.tmp 27), (some (23, true))⟩,
          ⟨(some 29), .call (.func 19) [(.tmp 24), (.tmp 28)] .pure, (some (23, true))⟩,
          ⟨(some 30), .un .not (.tmp 29), (some (23, true))⟩,
          ⟨(some 31), .pick (.tmp 23) (.tmp 30) (.const (.bool false)), none⟩]) (
       .trim [2, 3, 5, 6, 31] [2, 3] [(10, 27, 3)] (
       .cond (.tmp 31) (
         .seq (
          .reg [⟨(some 4), .mov (.const (.bool false)), none⟩]) (
         .ret)) (
         .skip))))) (
     .trim [2, 3, 5, 6] [2, 3] [(10, 27, 3)] (
     .reg [⟨(some 15), .mov (.tmp 6), none⟩,
       ⟨(some 16), .bin .add (.tmp 15) (.const (.int .i64 1)), none⟩,
       ⟨(some 6), .mov (.tmp 16), none⟩])))))))))) (
  .trim [] [] [] (
  .seq (
   .reg [⟨(some 4), .mov (.const (.bool true)), none⟩]) (
  .ret)))))))
theorem r24 : Runs Try.prog 24 m24.strip [.mov (.tmp 4)] 32 := ⟨by kernel_rfl, by kernel_rfl, Try.f24, Try.f24.body.getD .skip, Try.func24, by kernel_rfl, by kernel_rfl, by kernel_rfl, by kernel_rfl, by kernel_rfl⟩

/-- arbour/set.Ranges -/
def m37 : MC :=
  .seq (
   .reg [⟨(some 2), .nilsl 63 2, none⟩]) (
  .trim [0, 2] [] [(2, 63, 2), (7, 63, 2)] (
  .seq (
   .reg [⟨(some 6), .mov (.tmp 0), none⟩,
     ⟨(some 7), .call (.func 40) [(.tmp 6)] (.fresh 63 2), none⟩,
     ⟨(some 0), .mov (.tmp 7), none⟩]) (
  .trim [0, 2] [] [(2, 63, 2), (7, 63, 2)] (
  .seq (
   .reg [⟨(some 8), .mov (.tmp 0), none⟩,
     ⟨(some 9), .call (.func 56) [(.tmp 8), (.func 57)] .turn, none⟩]) (
  .trim [0, 2] [] [(2, 63, 2), (7, 63, 2)] (
  .seq (
   .seq (
    .reg [⟨(some 10), .mov (.tmp 0), none⟩,
      ⟨(some 11), .lenL (.tmp 10), none⟩,
      ⟨(some 12), .mov (.const (.int .i64 0)), none⟩]) (
   .trim [2, 10, 11, 12] [] [(2, 63, 2), (7, 63, 2)] (
   .block 0 (
    .loop (
     .trim [2, 10, 11, 12] [] [(2, 63, 2), (7, 63, 2)] (
     .seq (
      .reg [⟨(some 13), .bin .lss (.tmp 12) (.tmp 11), none⟩]) (
     .trim [2, 10, 11, 12, 13] [] [(2, 63, 2), (7, 63, 2)] (
     .seq (
      .cond (.tmp 13) (
        .skip) (
        .exit 0)) (
     .trim [2, 10, 11, 12] [] [(2, 63, 2), (7, 63, 2)] (
     .seq (
      .block 1 (
       .seq (
        .reg [⟨(some 14), .iaddrS 2 (.tmp 10) (.tmp 12), none⟩,
          ⟨(some 15), .load (some 2) (.tmp 14), none⟩,
          ⟨(some 4), .alloc 63 [(.val (.int .i64 0)), (.val (.int .i64 0))], none⟩,
          ⟨none, .store 2 (.tmp 4) (.tmp 15), none⟩]) (
       .trim [2, 4, 10, 11, 12] [4] [(2, 63, 2), (7, 63, 2)] (
       .seq (
        .seq (
         .reg [⟨(some 16), .faddr 0 (.tmp 4), none⟩,
           ⟨(some 17), .load none (.tmp 16), none⟩,
           ⟨(some 18), .faddr 1 (.tmp 4), none⟩,
           ⟨(some 19), .load none (.tmp 18), none⟩,
           ⟨(some 20), .bin .gtr (.tmp 17) (.tmp 19), none⟩]) (
        .trim [2, 4, 10, 11, 12, 20] [4] [(2, 63, 2), (7, 63, 2)] (
        .cond (.tmp 20) (
          .exit 1) (
          .skip)))) (
       .trim [2, 4, 10, 11, 12] [4] [(2, 63, 2), (7, 63, 2)] (
       .seq (
        .reg [⟨(some 21), .mov (.tmp 2), none⟩,
          ⟨(some 22), .lenL (.tmp 21), none⟩,
          ⟨(some 5), .mov (.tmp 22), none⟩]) (
       .trim [2, 4, 5, 10, 11, 12] [4] [(2, 63, 2), (7, 63, 2)] (
       .seq (
        .seq (
         .dreg 23 [⟨(some 23), .mov (.tmp 5), none⟩,
           ⟨(some 24), .bin .gtr (.tmp 23) (.const (.int .i64 0)), none⟩,
           ⟨(some 25), .mov (.tmp 24), none⟩,
           ⟨(some 26), .mov (.tmp 2), (some (25, true))⟩,
           ⟨(some 27), .mov (.tmp 5), (some (25, true))⟩,
           ⟨(some 28), .bin .sub (.tmp 27) (.const (.int .i64 1)), (some (25, true))⟩,
           ⟨(some 29), .iaddrS 2 (.tmp 26) (.tmp 28), (some (25, true))⟩,
           ⟨(some 30), .faddr 1 (.tmp 29), (some (25, true))⟩,
           ⟨(some 31), .load none (.tmp 30), (some (25, true))⟩,
           ⟨(some 32), .bin .eql (.tmp 31) (.const (.int .i64 9223372036854775807)), (some (25, true))⟩,
           ⟨(some 33), .mov (.tmp 32), (some (25, true))⟩,
           ⟨(some 34), .faddr 0 (.tmp 4), (some (33, false))⟩,
           ⟨(some 35), .load none (.tmp 34), (some (33, false))⟩,
           ⟨(some 36), .mov (.tmp 2), (some (33, false))⟩,
           ⟨(some 37), .mov (.tmp 5), (some (33, false))⟩,
           ⟨(some 38), .bin .sub (.tmp 37) (.const (.int .i64 1)), (some (33, false))⟩,
           ⟨(some 39), .iaddrS 2 (.tmp 36) (.tmp 38), (some (33, false))⟩,
           ⟨(some 40), .faddr 1 (.tmp 39), (some (33, false))⟩,
           ⟨(some 41), .load none (.tmp 40), (some (33, false))⟩,
           ⟨(some 42), .bin .add (.tmp 41) (.const (.int .i64 1)), (some (33, false))⟩,
           ⟨(some 43), .bin .leq (.tmp 35) (.tmp 42), (some (33, false))⟩,
           ⟨(some 44), .pick (.tmp 33) (.const (.bool true)) (.tmp 43), (some (25, true))⟩,
           ⟨(some 45), .pick (.tmp 25) (.tmp 44) (.const (.bool false)), none⟩]) (
        .trim [2, 4, 5, 10, 11, 12, 45] [4] [(2, 63, 2), (7, 63, 2)] (
        .cond (.tmp 45) (
          .seq (
           .dreg 14 [⟨(some 46), .mov (.tmp 2), none⟩,
             ⟨(some 47), .mov (.tmp 5), none⟩,
             ⟨(some 48), .bin .sub (.tmp 47) (.const (.int .i64 1)), none⟩,
             ⟨(some 49), .mov (.tmp 2), none⟩,
             ⟨(some 50), .mov (.tmp 5), none⟩,
             ⟨(some 51), .bin .sub (.tmp 50) (.const (.int .i64 1)), none⟩,
             ⟨(some 52), .iaddrS 2 (.tmp 49) (.tmp 51), none⟩,
             ⟨(some 53), .faddr 1 (.tmp 52), none⟩,
             ⟨(some 54), .load none (.tmp 53), none⟩,
             ⟨(some 55), .faddr 1 (.tmp 4), none⟩,
             ⟨(some 56), .load none (.tmp 55), none⟩,
             ⟨(some 57), .minmax true [(.tmp 54), (.tmp 56)], none⟩,
             ⟨(some 58), .iaddrS 2 (.tmp 46) (.tmp 48), none⟩,
             ⟨(some 59), .faddr 1 (.tmp 58), none⟩,
             ⟨none, .store 1 (.tmp 59) (.tmp 57), none⟩]) (
          .exit 1)) (
          .skip)))) (
       .trim [2, 4, 10, 11, 12] [4] [(7, 63, 2), (2, 63, 2)] (
       .reg [⟨(some 60), .mov (.tmp 2), none⟩,
         ⟨(some 61), .load (some 2) (.tmp 4), none⟩,
         ⟨(some 62), .bslice 63 2 [(.val (.int .i64 0)), (.val (.int .i64 0))] 1 [(0, 2, (.tmp 61))], none⟩,
         ⟨(some 63), .append 63 2 16 (.tmp 60) (.tmp 62), none⟩,
         ⟨(some 2), .mov (.tmp 63), none⟩])))))))))) (
     .trim [2, 10, 11, 12] [] [(2, 63, 2), (7, 63, 2)] (
     .reg [⟨(some 64), .bin .add (.tmp 12) (.const (.int .i64 1)), none⟩,
       ⟨(some 12), .mov (.tmp 64), none⟩])))))))))))) (
  .trim [2] [] [(2, 63, 2)] (
  .seq (
   .reg [⟨(some 65), .mov (.tmp 2), none⟩,
     ⟨(some 2), .mov (.tmp 65), none⟩]) (
  .ret)))))))))
theorem r37 : Runs Try.prog 37 m37.strip [.mov (.tmp 2)] 66 := ⟨by kernel_rfl, by kernel_rfl, Try.f37, Try.f37.body.getD .skip, Try.func37, by kernel_rfl, by kernel_rfl, by kernel_rfl, by kernel_rfl, by kernel_rfl⟩

/-- arbour/set.gaps -/
def m38 : MC :=
  .seq (
   .reg [⟨(some 2), .nilsl 63 2, none⟩]) (
  .trim [0, 2] [] [(2, 63, 2)] (
  .seq (
   .reg [⟨(some 3), .mov (.const (.int .i64 (-9223372036854775808))), none⟩]) (
  .trim [0, 2, 3] [] [(2, 63, 2)] (
  .seq (
   .seq (
    .reg [⟨(some 6), .mov (.tmp 0), none⟩,
      ⟨(some 7), .lenL (.tmp 6), none⟩,
      ⟨(some 8), .mov (.const (.int .i64 0)), none⟩]) (
   .trim [2, 3, 6, 7, 8] [] [(2, 63, 2)] (
   .block 0 (
    .loop (
     .trim [2, 3, 6, 7, 8] [] [(2, 63, 2)] (
     .seq (
      .reg [⟨(some 9), .bin .lss (.tmp 8) (.tmp 7), none⟩]) (
     .trim [2, 3, 6, 7, 8, 9] [] [(2, 63, 2)] (
     .seq (
      .cond (.tmp 9) (
        .skip) (
        .exit 0)) (
     .trim [2, 3, 6, 7, 8] [] [(2, 63, 2)] (
     .seq (
      .block 1 (
       .seq (
        .reg [⟨(some 10), .iaddrS 2 (.tmp 6) (.tmp 8), none⟩,
          ⟨(some 11), .load (some 2) (.tmp 10), none⟩,
          ⟨(some 5), .alloc 63 [(.val (.int .i64 0)), (.val (.int .i64 0))], none⟩,
          ⟨none, .store 2 (.tmp 5) (.tmp 11), none⟩]) (
       .trim [2, 3, 5, 6, 7, 8] [5] [(2, 63, 2)] (
       .seq (
        .seq (
         .reg [⟨(some 12), .faddr 0 (.tmp 5), none⟩,
           ⟨(some 13), .load none (.tmp 12), none⟩,
           ⟨(some 14), .mov (.tmp 3), none⟩,
           ⟨(some 15), .bin .gtr (.tmp 13) (.tmp 14), none⟩]) (
        .trim [2, 3, 5, 6, 7, 8, 15] [5] [(2, 63, 2)] (
        .cond (.tmp 15) (
          .reg [⟨(some 16), .mov (.tmp 2), none⟩,
            ⟨(some 17), .mov (.tmp 3), none⟩,
            ⟨(some 18), .faddr 0 (.tmp 5), none⟩,
            ⟨(some 19), .load none (.tmp 18), none⟩,
            ⟨(some 20), .bin .sub (.tmp 19) (.const (.int .i64 1)), none⟩,
            ⟨(some 21), .build [(.val (.int .i64 0)), (.val (.int .i64 0))] [(0, 1, (.tmp 17)), (1, 1, (.tmp 20))], none⟩,
            ⟨(some 22), .bslice 63 2 [(.val (.int .i64 0)), (.val (.int .i64 0))] 1 [(0, 2, (.tmp 21))], none⟩,
            ⟨(some 23), .append 63 2 16 (.tmp 16) (.tmp 22), none⟩,
            ⟨(some 2), .mov (.tmp 23), none⟩]) (
          .skip)))) (
       .trim [2, 5, 6, 7, 8] [5] [(2, 63, 2)] (
       .seq (
        .seq (
         .reg [⟨(some 24), .faddr 1 (.tmp 5), none⟩,
           ⟨(some 25), .load none (.tmp 24), none⟩,
           ⟨(some 26), .bin .eql (.tmp 25) (.const (.int .i64 9223372036854775807)), none⟩]) (
        .trim [2, 5, 6, 7, 8, 26] [5] [(2, 63, 2)] (
        .cond (.tmp 26) (
          .seq (
           .reg [⟨(some 27), .mov (.tmp 2), none⟩,
             ⟨(some 2), .mov (.tmp 27), none⟩]) (
          .ret)) (
          .skip)))) (
       .trim [2, 5, 6, 7, 8] [5] [(2, 63, 2)] (
       .reg [⟨(some 28), .faddr 1 (.tmp 5), none⟩,
         ⟨(some 29), .load none (.tmp 28), none⟩,
         ⟨(some 30), .bin .add (.tmp 29) (.const (.int .i64 1)), none⟩,
         ⟨(some 3), .mov (.tmp 30), none⟩])))))))) (
     .trim [2, 3, 6, 7, 8] [] [(2, 63, 2)] (
     .reg [⟨(some 31), .bin .add (.tmp 8) (.const (.int .i64 1)), none⟩,
       ⟨(some 8), .mov (.tmp 31), none⟩])))))))))))) (
  .trim [2, 3] [] [(2, 63, 2)] (
  .seq (
   .reg [⟨(some 32), .mov (.tmp 2), none⟩,
     ⟨(some 33), .mov (.tmp 3), none⟩,
     ⟨(some 34), .build [(.val (.int .i64 0)), (.val (.int .i64 0))] [(0, 1, (.tmp 33)), (1, 1, (.const (.int .i64 9223372036854775807)))], none⟩,
     ⟨(some 35), .bslice 63 2 [(.val (.int .i64 0)), (.val (.int .i64 0))] 1 [(0, 2, (.tmp 34))], none⟩,
     ⟨(some 36), .append 63 2 16 (.tmp 32) (.tmp 35), none⟩,
     ⟨(some 2), .mov (.tmp 36), none⟩]) (
  .ret)))))))
theorem r38 : Runs Try.prog 38 m38.strip [.mov (.tmp 2)] 37 := ⟨by kernel_rfl, by kernel_rfl, Try.f38, Try.f38.body.getD .skip, Try.func38, by kernel_rfl, by kernel_rfl, by kernel_rfl, by kernel_rfl, by kernel_rfl⟩

/-- slices.Clone[[]string,string] -/
def m39 : MC :=
  .seq (
   .reg [⟨(some 2), .nilsl 9 1, none⟩]) (
  .trim [0] [] [] (
  .seq (
   .seq (
    .reg [⟨(some 3), .mov (.tmp 0), none⟩,
      ⟨(some 4), .isnil false (.tmp 3), none⟩]) (
   .trim [0, 4] [] [] (
   .cond (.tmp 4) (
     .seq (
      .reg [⟨(some 2), .nilsl 9 1, none⟩]) (
     .ret)) (
     .skip)))) (
  .trim [0] [] [] (
  .seq (
   .reg [⟨(some 5), .bslice 9 1 [(.val (.string ⟨#[]⟩))] 0 [], none⟩,
     ⟨(some 6), .mov (.tmp 0), none⟩,
     ⟨(some 7), .append 9 1 16 (.tmp 5) (.tmp 6), none⟩,
     ⟨(some 2), .mov (.tmp 7), none⟩]) (
  .ret)))))
theorem r39 : Runs Try.prog 39 m39.strip [.mov (.tmp 2)] 8 := ⟨by kernel_rfl, by kernel_rfl, Try.f39, Try.f39.body.getD .skip, Try.func39, by kernel_rfl, by kernel_rfl, by kernel_rfl, by kernel_rfl, by kernel_rfl⟩

/-- slices.Clone[[]arbour/api.Range,arbour/api.Range] -/
def m40 : MC :=
  .seq (
   .reg [⟨(some 2), .nilsl 63 2, none⟩]) (
  .trim [0] [] [] (
  .seq (
   .seq (
    .reg [⟨(some 3), .mov (.tmp 0), none⟩,
      ⟨(some 4), .isnil false (.tmp 3), none⟩]) (
   .trim [0, 4] [] [] (
   .cond (.tmp 4) (
     .seq (
      .reg [⟨(some 2), .nilsl 63 2, none⟩]) (
     .ret)) (
     .skip)))) (
  .trim [0] [] [] (
  .seq (
   .reg [⟨(some 5), .bslice 63 2 [(.val (.int .i64 0)), (.val (.int .i64 0))] 0 [], none⟩,
     ⟨(some 6), .mov (.tmp 0), none⟩,
     ⟨(some 7), .append 63 2 16 (.tmp 5) (.tmp 6), none⟩,
     ⟨(some 2), .mov (.tmp 7), none⟩]) (
  .ret)))))
theorem r40 : Runs Try.prog 40 m40.strip [.mov (.tmp 2)] 8 := ⟨by kernel_rfl, by kernel_rfl, Try.f40, Try.f40.body.getD .skip, Try.func40, by kernel_rfl, by kernel_rfl, by kernel_rfl, by kernel_rfl, by kernel_rfl⟩

/-- arbour/set.pick -/
def m41 : MC :=
  .seq (
   .reg [⟨(some 6), .nilsl 9 1, none⟩]) (
  .trim [0, 1, 2, 6] [] [(6, 9, 1)] (
  .seq (
   .seq (
    .reg [⟨(some 9), .mov (.tmp 0), none⟩,
      ⟨(some 10), .lenL (.tmp 9), none⟩,
      ⟨(some 11), .mov (.const (.int .i64 0)), none⟩]) (
   .trim [1, 2, 6, 9, 10, 11] [] [(6, 9, 1)] (
   .block 0 (
    .loop (
     .trim [1, 2, 6, 9, 10, 11] [] [(6, 9, 1)] (
     .seq (
      .reg [⟨(some 12), .bin .lss (.tmp 11) (.tmp 10), none⟩]) (
     .trim [1, 2, 6, 9, 10, 11, 12] [] [(6, 9, 1)] (
     .seq (
      .cond (.tmp 12) (
        .skip) (
        .exit 0)) (
     .trim [1, 2, 6, 9, 10, 11] [] [(6, 9, 1)] (
     .seq (
      .block 1 (
       .seq (
        .reg [⟨(some 13), .iaddrS 1 (.tmp 9) (.tmp 11), none⟩,
          ⟨(some 14), .load none (.tmp 13), none⟩,
          ⟨(some 8), .mov (.tmp 14), none⟩]) (
       .trim [1, 2, 6, 8, 9, 10, 11] [] [(6, 9, 1)] (
       .seq (
        .reg [⟨(some 15), .mov (.tmp 1), none⟩,
          ⟨(some 16), .mov (.tmp 8), none⟩,
          ⟨(some 17), .call (.func 52) [(.tmp 15), (.tmp 16)] .pure, none⟩,
          ⟨(some 18), .mov (.tmp 2), none⟩,
          ⟨(some 19), .binB false (.tmp 17) (.tmp 18), none⟩]) (
       .trim [1, 2, 6, 8, 9, 10, 11, 19] [] [(6, 9, 1)] (
       .cond (.tmp 19) (
         .reg [⟨(some 20), .mov (.tmp 6), none⟩,
           ⟨(some 21), .mov (.tmp 8), none⟩,
           ⟨(some 22), .bslice 9 1 [(.val (.string ⟨#[]⟩))] 1 [(0, 1, (.tmp 21))], none⟩,
           ⟨(some 23), .append 9 1 16 (.tmp 20) (.tmp 22), none⟩,
           ⟨(some 6), .mov (.tmp 23), none⟩]) (
         .skip))))))) (
     .trim [1, 2, 6, 9, 10, 11] [] [(6, 9, 1)] (
     .reg [⟨(some 24), .bin .add (.tmp 11) (.const (.int .i64 1)), none⟩,
       ⟨(some 11), .mov (.tmp 24), none⟩])))))))))))) (
  .trim [6] [] [(6, 9, 1)] (
  .seq (
   .reg [⟨(some 25), .mov (.tmp 6), none⟩,
     ⟨(some 6), .mov (.tmp 25), none⟩]) (
  .ret)))))
theorem r41 : Runs Try.prog 41 m41.strip [.mov (.tmp 6)] 26 := ⟨by kernel_rfl, by kernel_rfl, Try.f41, Try.f41.body.getD .skip, Try.func41, by kernel_rfl, by kernel_rfl, by kernel_rfl, by kernel_rfl, by kernel_rfl⟩

/-- arbour/set.join -/
def m42 : MC :=
  .seq (
   .reg [⟨(some 4), .nilsl 9 1, none⟩]) (
  .trim [0, 1] [] [] (
  .seq (
   .reg [⟨(some 6), .mov (.tmp 0), none⟩,
     ⟨(some 7), .call (.func 39) [(.tmp 6)] (.fresh 9 1), none⟩,
     ⟨(some 8), .mov (.tmp 1), none⟩,
     ⟨(some 9), .append 9 1 16 (.tmp 7) (.tmp 8), none⟩,
     ⟨(some 5), .mov (.tmp 9), none⟩]) (
  .trim [5] [] [(7, 9, 1)] (
  .seq (
   .reg [⟨(some 10), .mov (.tmp 5), none⟩,
     ⟨(some 11), .call (.func 59) [(.tmp 10)] .turn, none⟩]) (
  .trim [5] [] [(7, 9, 1)] (
  .seq (
   .reg [⟨(some 12), .mov (.tmp 5), none⟩,
     ⟨(some 13), .call (.func 60) [(.tmp 12)] .take, none⟩,
     ⟨(some 4), .mov (.tmp 13), none⟩]) (
  .ret)))))))
theorem r42 : Runs Try.prog 42 m42.strip [.mov (.tmp 4)] 14 := ⟨by kernel_rfl, by kernel_rfl, Try.f42, Try.f42.body.getD .skip, Try.func42, by kernel_rfl, by kernel_rfl, by kernel_rfl, by kernel_rfl, by kernel_rfl⟩

/-- slices.Equal[[]arbour/api.Range,arbour/api.Range] -/
def m43 : MC :=
  .seq (
   .reg [⟨(some 4), .mov (.const (.bool false)), none⟩]) (
  .trim [0, 1] [] [] (
  .seq (
   .seq (
    .reg [⟨(some 6), .mov (.tmp 0), none⟩,
      ⟨(some 7), .lenL (.tmp 6), none⟩,
      ⟨(some 8), .mov (.tmp 1), none⟩,
      ⟨(some 9), .lenL (.tmp 8), none⟩,
      ⟨(some 10), .bin .neq (.tmp 7) (.tmp 9), none⟩]) (
   .trim [0, 1, 10] [] [] (
   .cond (.tmp 10) (
     .seq (
      .reg [⟨(some 4), .mov (.const (.bool false)), none⟩]) (
     .ret)) (
     .skip)))) (
  .trim [0, 1] [] [] (
  .seq (
   .seq (
    .reg [⟨(some 11), .mov (.tmp 0), none⟩,
      ⟨(some 12), .lenL (.tmp 11), none⟩,
      ⟨(some 13), .mov (.const (.int .i64 0)), none⟩]) (
   .trim [0, 1, 12, 13] [] [] (
   .block 0 (
    .loop (
     .trim [0, 1, 12, 13] [] [] (
     .seq (
      .reg [⟨(some 14), .bin .lss (.tmp 13) (.tmp 12), none⟩]) (
     .trim [0, 1, 12, 13, 14] [] [] (
     .seq (
      .cond (.tmp 14) (
        .skip) (
        .exit 0)) (
     .trim [0, 1, 12, 13] [] [] (
     .seq (
      .block 1 (
       .seq (
        .reg [⟨(some 15), .mov (.tmp 13), none⟩,
          ⟨(some 5), .mov (.tmp 15), none⟩]) (
       .trim [0, 1, 5, 12, 13] [] [] (
       .seq (
        .dreg 9 [⟨(some 16), .mov (.tmp 0), none⟩,
          ⟨(some 17), .mov (.tmp 5), none⟩,
          ⟨(some 18), .iaddrS 2 (.tmp 16) (.tmp 17), none⟩,
          ⟨(some 19), .load (some 2) (.tmp 18), none⟩,
          ⟨(some 20), .mov (.tmp 1), none⟩,
          ⟨(some 21), .mov (.tmp 5), none⟩,
          ⟨(some 22), .iaddrS 2 (.tmp 20) (.tmp 21), none⟩,
          ⟨(some 23), .load (some 2) (.tmp 22), none⟩,
          ⟨(some 24), .eqs true [.i, .i] (.tmp 19) (.tmp 23), none⟩]) (
       .trim [0, 1, 12, 13, 24] [] [] (
       .cond (.tmp 24) (
         .seq (
          .reg [⟨(some 4), .mov (.const (.bool false)), none⟩]) (
         .ret)) (
         .skip))))))) (
     .trim [0, 1, 12, 13] [] [] (
     .reg [⟨(some 25), .bin .add (.tmp 13) (.const (.int .i64 1)), none⟩,
       ⟨(some 13), .mov (.tmp 25), none⟩])))))))))))) (
  .trim [] [] [] (
  .seq (
   .reg [⟨(some 4), .mov (.const (.bool true)), none⟩]) (
  .ret)))))))
theorem r43 : Runs Try.prog 43 m43.strip [.mov (.tmp 4)] 26 := ⟨by kernel_rfl, by kernel_rfl, Try.f43, Try.f43.body.getD .skip, Try.func43, by kernel_rfl, by kernel_rfl, by kernel_rfl, by kernel_rfl, by kernel_rfl⟩

/-- slices.Equal[[]string,string] -/
def m44 : MC :=
  .seq (
   .reg [⟨(some 4), .mov (.const (.bool false)), none⟩]) (
  .trim [0, 1] [] [] (
  .seq (
   .seq (
    .reg [⟨(some 6), .mov (.tmp 0), none⟩,
      ⟨(some 7), .lenL (.tmp 6), none⟩,
      ⟨(some 8), .mov (.tmp 1), none⟩,
      ⟨(some 9), .lenL (.tmp 8), none⟩,
      ⟨(some 10), .bin .neq (.tmp 7) (.tmp 9), none⟩]) (
   .trim [0, 1, 10] [] [] (
   .cond (.tmp 10) (
     .seq (
      .reg [⟨(some 4), .mov (.const (.bool false)), none⟩]) (
     .ret)) (
     .skip)))) (
  .trim [0, 1] [] [] (
  .seq (
   .seq (
    .reg [⟨(some 11), .mov (.tmp 0), none⟩,
      ⟨(some 12), .lenL (.tmp 11), none⟩,
      ⟨(some 13), .mov (.const (.int .i64 0)), none⟩]) (
   .trim [0, 1, 12, 13] [] [] (
   .block 0 (
    .loop (
     .trim [0, 1, 12, 13] [] [] (
     .seq (
      .reg [⟨(some 14), .bin .lss (.tmp 13) (.tmp 12), none⟩]) (
     .trim [0, 1, 12, 13, 14] [] [] (
     .seq (
      .cond (.tmp 14) (
        .skip) (
        .exit 0)) (
     .trim [0, 1, 12, 13] [] [] (
     .seq (
      .block 1 (
       .seq (
        .reg [⟨(some 15), .mov (.tmp 13), none⟩,
          ⟨(some 5), .mov (.tmp 15), none⟩]) (
       .trim [0, 1, 5, 12, 13] [] [] (
       .seq (
        .dreg 9 [⟨(some 16), .mov (.tmp 0), none⟩,
          ⟨(some 17), .mov (.tmp 5), none⟩,
          ⟨(some 18), .iaddrS 1 (.tmp 16) (.tmp 17), none⟩,
          ⟨(some 19), .load none (.tmp 18), none⟩,
          ⟨(some 20), .mov (.tmp 1), none⟩,
          ⟨(some 21), .mov (.tmp 5), none⟩,
          ⟨(some 22), .iaddrS 1 (.tmp 20) (.tmp 21), none⟩,
          ⟨(some 23), .load none (.tmp 22), none⟩,
          ⟨(some 24), .bin .neq (.tmp 19) (.tmp 23), none⟩]) (
       .trim [0, 1, 12, 13, 24] [] [] (
       .cond (.tmp 24) (
         .seq (
          .reg [⟨(some 4), .mov (.const (.bool false)), none⟩]) (
         .ret)) (
         .skip))))))) (
     .trim [0, 1, 12, 13] [] [] (
     .reg [⟨(some 25), .bin .add (.tmp 13) (.const (.int .i64 1)), none⟩,
       ⟨(some 13), .mov (.tmp 25), none⟩])))))))))))) (
  .trim [] [] [] (
  .seq (
   .reg [⟨(some 4), .mov (.const (.bool true)), none⟩]) (
  .ret)))))))
theorem r44 : Runs Try.prog 44 m44.strip [.mov (.tmp 4)] 26 := ⟨by kernel_rfl, by kernel_rfl, Try.f44, Try.f44.body.getD .skip, Try.func44, by kernel_rfl, by kernel_rfl, by kernel_rfl, by kernel_rfl, by kernel_rfl⟩

/-- arbour/arbourref03.Fresh -/
def m45 : MC :=
  .seq (
   .reg [⟨(some 4), .mov (.const (.string ⟨#[]⟩)), none⟩]) (
  .trim [0, 1] [] [] (
  .seq (
   .seq (
    .reg [⟨(some 5), .mov (.const (.int .i64 0)), none⟩]) (
   .trim [0, 1, 5] [] [] (
   .block 0 (
    .loop (
     .trim [0, 1, 5] [] [] (
     .seq (
      .seq (
       .reg [⟨(some 9), .mov (.tmp 5), none⟩,
         ⟨(some 10), .bin .lss (.tmp 9) (.const (.int .i64 100000)), none⟩]) (
      .trim [0, 1, 5, 10] [] [] (
      .cond (.tmp 10) (
        .skip) (
        .exit 0)))) (
     .trim [0, 1, 5] [] [] (
     .seq (
      .block 1 (
       .seq (
        .reg [⟨(some 13), .mov (.tmp 1), none⟩,
          ⟨(some 14), .mov (.tmp 5), none⟩,
          ⟨(some 15), .call (.func 61) [(.tmp 14)] .pure, none⟩,
          ⟨(some 16), .bin .add (.tmp 13) (.tmp 15), none⟩,
          ⟨(some 6), .mov (.tmp 16), none⟩]) (
       .trim [0, 1, 5, 6] [] [] (
       .seq (
        .reg [⟨(some 7), .mov (.const (.bool false)), none⟩]) (
       .trim [0, 1, 5, 6, 7] [] [] (
       .seq (
        .seq (
         .reg [⟨(some 8), .mov (.const (.int .i64 0)), none⟩]) (
        .trim [0, 1, 5, 6, 7, 8] [] [] (
        .block 2 (
         .loop (
          .trim [0, 1, 5, 6, 7, 8] [] [] (
          .seq (
           .seq (
            .reg [⟨(some 17), .mov (.tmp 8), none⟩,
              ⟨(some 18), .mov (.tmp 0), none⟩,
              ⟨(some 19), .lenL (.tmp 18), none⟩,
              ⟨(some 20), .bin .lss (.tmp 17) (.tmp 19), none⟩]) (
           .trim [0, 1, 5, 6, 7, 8, 20] [] [] (
           .cond (.tmp 20) (
             .skip) (
             .exit 2)))) (
          .trim [0, 1, 5, 6, 7, 8] [] [] (
          .seq (
           .block 3 (
            .reg [⟨(some 23), .mov (.tmp 7), none⟩,
              ⟨(some 24), .mov (.tmp 23), none⟩,
              ⟨(some 25), .mov (.tmp 0), (some (24, false))⟩,
              ⟨(some 26), .mov (.tmp 8), (some (24, false))⟩,
              ⟨(some 27), .iaddrS 4 (.tmp 25) (.tmp 26), (some (24, false))⟩,
              ⟨(some 28), .faddr 3 (.tmp 27), (some (24, false))⟩,
              ⟨(some 29), .load none (.tmp 28), (some (24, false))⟩,
              ⟨(some 30), .mov (.tmp 6), (some (24, false))⟩,
              ⟨(some 31), .call (.func 48) [(.tmp 29), (.tmp 30)] .pure, (some (24, false))⟩,
              ⟨(some 32), .pick (.tmp 24) (.const (.bool true)) (.tmp 31), none⟩,
              ⟨(some 7), .mov (.tmp 32), none⟩])) (
          .trim [0, 1, 5, 6, 7, 8] [] [] (
          .reg [⟨(some 21), .mov (.tmp 8), none⟩,
            ⟨(some 22), .bin .add (.tmp 21) (.const (.int .i64 1)), none⟩,
            ⟨(some 8), .mov (.tmp 22), none⟩])))))))))) (
       .trim [0, 1, 5, 6, 7] [] [] (
       .seq (
        .reg [⟨(some 33), .mov (.tmp 7), none⟩,
          ⟨(some 34), .un .not (.tmp 33), none⟩]) (
       .trim [0, 1, 5, 6, 34] [] [] (
       .cond (.tmp 34) (
         .seq (
          .reg [⟨(some 35), .mov (.tmp 6), none⟩,
            ⟨(some 4), .mov (.tmp 35), none⟩]) (
         .ret)) (
         .skip))))))))))) (
     .trim [0, 1, 5] [] [] (
     .reg [⟨(some 11), .mov (.tmp 5), none⟩,
       ⟨(some 12), .bin .add (.tmp 11) (.const (.int .i64 1)), none⟩,
       ⟨(some 5), .mov (.tmp 12), none⟩])))))))))) (
  .trim [1] [] [] (
  .seq (
   .reg [⟨(some 36), .mov (.tmp 1), none⟩,
     ⟨(some 4), .mov (.tmp 36), none⟩]) (
  .ret)))))
theorem r45 : Runs Try.prog 45 m45.strip [.mov (.tmp 4)] 37 := ⟨by kernel_rfl, by kernel_rfl, Try.f45, Try.f45.body.getD .skip, Try.func45, by kernel_rfl, by kernel_rfl, by kernel_rfl, by kernel_rfl, by kernel_rfl⟩

/-- arbour/arbourref01.Right -/
def m46 : MC :=
  .seq (
   .reg [⟨(some 1), .box 27 3 (.tmp 0), none⟩,
     ⟨(some 2), .mov (.const (.bool false)), none⟩]) (
  .trim [1] [1] [] (
  .seq (
   .seq (
    .reg [⟨(some 3), .faddr 0 (.tmp 1), none⟩,
      ⟨(some 4), .load none (.tmp 3), none⟩]) (
   .trim [1, 4] [1] [] (
   .block 0 (
    .seq (
     .reg [⟨(some 6), .bin .eql (.tmp 4) (.const (.int .i64 0)), none⟩,
       ⟨(some 5), .mov (.tmp 6), none⟩]) (
    .trim [1, 4, 5] [1] [] (
    .cond (.tmp 5) (
      .seq (
       .reg [⟨(some 7), .faddr 1 (.tmp 1), none⟩,
         ⟨(some 8), .load none (.tmp 7), none⟩,
         ⟨(some 9), .bin .eql (.tmp 8) (.const (.int .i64 0)), none⟩,
         ⟨(some 10), .mov (.tmp 9), none⟩,
         ⟨(some 11), .faddr 2 (.tmp 1), (some (10, true))⟩,
         ⟨(some 12), .load none (.tmp 11), (some (10, true))⟩,
         ⟨(some 13), .bin .eql (.tmp 12) (.const (.string ⟨#[]⟩)), (some (10, true))⟩,
         ⟨(some 14), .pick (.tmp 10) (.tmp 13) (.const (.bool false)), none⟩,
         ⟨(some 2), .mov (.tmp 14), none⟩]) (
      .ret)) (
      .seq (
       .reg [⟨(some 16), .bin .eql (.tmp 4) (.const (.int .i64 1)), none⟩,
         ⟨(some 15), .mov (.tmp 16), none⟩]) (
      .trim [1, 4, 15] [1] [] (
      .cond (.tmp 15) (
        .seq (
         .reg [⟨(some 17), .faddr 2 (.tmp 1), none⟩,
           ⟨(some 18), .load none (.tmp 17), none⟩,
           ⟨(some 19), .bin .eql (.tmp 18) (.const (.string ⟨#[]⟩)), none⟩,
           ⟨(some 2), .mov (.tmp 19), none⟩]) (
        .ret)) (
        .seq (
         .reg [⟨(some 21), .bin .eql (.tmp 4) (.const (.int .i64 2)), none⟩,
           ⟨(some 20), .mov (.tmp 21), none⟩]) (
        .trim [1, 20] [1] [] (
        .cond (.tmp 20) (
          .seq (
           .reg [⟨(some 22), .faddr 1 (.tmp 1), none⟩,
             ⟨(some 23), .load none (.tmp 22), none⟩,
             ⟨(some 24), .bin .eql (.tmp 23) (.const (.int .i64 0)), none⟩,
             ⟨(some 25), .mov (.tmp 24), none⟩,
             ⟨(some 26), .faddr 2 (.tmp 1), (some (25, true))⟩,
             ⟨(some 27), .load none (.tmp 26), (some (25, true))⟩,
             ⟨(some 28), .lenS (.tmp 27), (some (25, true))⟩,
             ⟨(some 29), .bin .leq (.tmp 28) (.const (.int .i64 8)), (some (25, true))⟩,
             ⟨(some 30), .pick (.tmp 25) (.tmp 29) (.const (.bool false)), none⟩,
             ⟨(some 2), .mov (.tmp 30), none⟩]) (
          .ret)) (
          .skip))))))))))))) (
  .trim [] [] [] (
  .seq (
   .reg [⟨(some 2), .mov (.const (.bool false)), none⟩]) (
  .ret)))))
theorem r46 : Runs Try.prog 46 m46.strip [.mov (.tmp 2)] 31 := ⟨by kernel_rfl, by kernel_rfl, Try.f46, Try.f46.body.getD .skip, Try.func46, by kernel_rfl, by kernel_rfl, by kernel_rfl, by kernel_rfl, by kernel_rfl⟩

/-- arbour/arbourref03.InInts -/
def m47 : MC :=
  .seq (
   .reg [⟨(some 4), .mov (.const (.bool false)), none⟩]) (
  .trim [0, 1] [] [] (
  .seq (
   .seq (
    .reg [⟨(some 5), .mov (.const (.int .i64 0)), none⟩]) (
   .trim [0, 1, 5] [] [] (
   .block 0 (
    .loop (
     .trim [0, 1, 5] [] [] (
     .seq (
      .seq (
       .reg [⟨(some 6), .mov (.tmp 5), none⟩,
         ⟨(some 7), .mov (.tmp 0), none⟩,
         ⟨(some 8), .lenL (.tmp 7), none⟩,
         ⟨(some 9), .bin .lss (.tmp 6) (.tmp 8), none⟩]) (
      .trim [0, 1, 5, 9] [] [] (
      .cond (.tmp 9) (
        .skip) (
        .exit 0)))) (
     .trim [0, 1, 5] [] [] (
     .seq (
      .block 1 (
       .seq (
        .reg [⟨(some 12), .mov (.tmp 0), none⟩,
          ⟨(some 13), .mov (.tmp 5), none⟩,
          ⟨(some 14), .iaddrS 2 (.tmp 12) (.tmp 13), none⟩,
          ⟨(some 15), .faddr 0 (.tmp 14), none⟩,
          ⟨(some 16), .load none (.tmp 15), none⟩,
          ⟨(some 17), .mov (.tmp 1), none⟩,
          ⟨(some 18), .bin .leq (.tmp 16) (.tmp 17), none⟩,
          ⟨(some 19), .mov (.tmp 18), none⟩,
          ⟨(some 20), .mov (.tmp 1), (some (19, true))⟩,
          ⟨(some 21), .mov (.tmp 0), (some (19, true))⟩,
          ⟨(some 22), .mov (.tmp 5), (some (19, true))⟩,
          ⟨(some 23), .iaddrS 2 (.tmp 21) (.tmp 22), (some (19, true))⟩,
          ⟨(some 24), .faddr 1 (.tmp 23), (some (19, true))⟩,
          ⟨(some 25), .load none (.tmp 24), (some (19, true))⟩,
          ⟨(some 26), .bin .leq (.tmp 20) (.tmp 25), (some (19, true))⟩,
          ⟨(some 27), .pick (.tmp 19) (.tmp 26) (.const (.bool false)), none⟩]) (
       .trim [0, 1, 5, 27] [] [] (
       .cond (.tmp 27) (
         .seq (
          .reg [⟨(some 4), .mov (.const (.bool true)), none⟩]) (
         .ret)) (
         .skip))))) (
     .trim [0, 1, 5] [] [] (
     .reg [⟨(some 10), .mov (.tmp 5), none⟩,
       ⟨(some 11), .bin .add (.tmp 10) (.const (.int .i64 1)), none⟩,
       ⟨(some 5), .mov (.tmp 11), none⟩])))))))))) (
  .trim [] [] [] (
  .seq (
   .reg [⟨(some 4), .mov (.const (.bool false)), none⟩]) (
  .ret)))))
theorem r47 : Runs Try.prog 47 m47.strip [.mov (.tmp 4)] 28 := ⟨by kernel_rfl, by kernel_rfl, Try.f47, Try.f47.body.getD .skip, Try.func47, by kernel_rfl, by kernel_rfl, by kernel_rfl, by kernel_rfl, by kernel_rfl⟩

/-- arbour/arbourref03.InStrs -/
def m48 : MC :=
  .seq (
   .reg [⟨(some 4), .mov (.const (.bool false)), none⟩]) (
  .trim [0, 1] [] [] (
  .seq (
   .seq (
    .reg [⟨(some 5), .mov (.const (.int .i64 0)), none⟩]) (
   .trim [0, 1, 5] [] [] (
   .block 0 (
    .loop (
     .trim [0, 1, 5] [] [] (
     .seq (
      .seq (
       .reg [⟨(some 6), .mov (.tmp 5), none⟩,
         ⟨(some 7), .mov (.tmp 0), none⟩,
         ⟨(some 8), .lenL (.tmp 7), none⟩,
         ⟨(some 9), .bin .lss (.tmp 6) (.tmp 8), none⟩]) (
      .trim [0, 1, 5, 9] [] [] (
      .cond (.tmp 9) (
        .skip) (
        .exit 0)))) (
     .trim [0, 1, 5] [] [] (
     .seq (
      .block 1 (
       .seq (
        .reg [⟨(some 12), .mov (.tmp 0), none⟩,
          ⟨(some 13), .mov (.tmp 5), none⟩,
          ⟨(some 14), .iaddrS 1 (.tmp 12) (.tmp 13), none⟩,
          ⟨(some 15), .load none (.tmp 14), none⟩,
          ⟨(some 16), .mov (.tmp 1), none⟩,
          ⟨(some 17), .bin .eql (.tmp 15) (.tmp 16), none⟩]) (
       .trim [0, 1, 5, 17] [] [] (
       .cond (.tmp 17) (
         .seq (
          .reg [⟨(some 4), .mov (.const (.bool true)), none⟩]) (
         .ret)) (
         .skip))))) (
     .trim [0, 1, 5] [] [] (
     .reg [⟨(some 10), .mov (.tmp 5), none⟩,
       ⟨(some 11), .bin .add (.tmp 10) (.const (.int .i64 1)), none⟩,
       ⟨(some 5), .mov (.tmp 11), none⟩])))))))))) (
  .trim [] [] [] (
  .seq (
   .reg [⟨(some 4), .mov (.const (.bool false)), none⟩]) (
  .ret)))))
theorem r48 : Runs Try.prog 48 m48.strip [.mov (.tmp 4)] 18 := ⟨by kernel_rfl, by kernel_rfl, Try.f48, Try.f48.body.getD .skip, Try.func48, by kernel_rfl, by kernel_rfl, by kernel_rfl, by kernel_rfl, by kernel_rfl⟩

/-- arbour/value.Right -/
def m49 : MC :=
  .seq (
   .reg [⟨(some 1), .box 27 3 (.tmp 0), none⟩,
     ⟨(some 2), .mov (.const (.bool false)), none⟩]) (
  .trim [1] [1] [] (
  .seq (
   .seq (
    .reg [⟨(some 3), .faddr 0 (.tmp 1), none⟩,
      ⟨(some 4), .load none (.tmp 3), none⟩]) (
   .trim [1, 4] [1] [] (
   .block 0 (
    .seq (
     .reg [⟨(some 6), .bin .eql (.tmp 4) (.const (.int .i64 0)), none⟩,
       ⟨(some 5), .mov (.tmp 6), none⟩]) (
    .trim [1, 4, 5] [1] [] (
    .cond (.tmp 5) (
      .seq (
       .reg [⟨(some 7), .load (some 3) (.tmp 1), none⟩,
         ⟨(some 8), .build [(.val (.int .i64 0)), (.val (.int .i64 0)), (.val (.string ⟨#[]⟩))] [], none⟩,
         ⟨(some 9), .eqs false [.i, .i, .s] (.tmp 7) (.tmp 8), none⟩,
         ⟨(some 2), .mov (.tmp 9), none⟩]) (
      .ret)) (
      .seq (
       .reg [⟨(some 11), .bin .eql (.tmp 4) (.const (.int .i64 1)), none⟩,
         ⟨(some 10), .mov (.tmp 11), none⟩]) (
      .trim [1, 4, 10] [1] [] (
      .cond (.tmp 10) (
        .seq (
         .reg [⟨(some 12), .faddr 2 (.tmp 1), none⟩,
           ⟨(some 13), .load none (.tmp 12), none⟩,
           ⟨(some 14), .bin .eql (.tmp 13) (.const (.string ⟨#[]⟩)), none⟩,
           ⟨(some 2), .mov (.tmp 14), none⟩]) (
        .ret)) (
        .seq (
         .reg [⟨(some 16), .bin .eql (.tmp 4) (.const (.int .i64 2)), none⟩,
           ⟨(some 15), .mov (.tmp 16), none⟩]) (
        .trim [1, 15] [1] [] (
        .cond (.tmp 15) (
          .seq (
           .reg [⟨(some 17), .faddr 1 (.tmp 1), none⟩,
             ⟨(some 18), .load none (.tmp 17), none⟩,
             ⟨(some 19), .bin .eql (.tmp 18) (.const (.int .i64 0)), none⟩,
             ⟨(some 20), .mov (.tmp 19), none⟩,
             ⟨(some 21), .faddr 2 (.tmp 1), (some (20, true))⟩,
             ⟨(some 22), .load none (.tmp 21), (some (20, true))⟩,
             ⟨(some 23), .lenS (.tmp 22), (some (20, true))⟩,
             ⟨(some 24), .bin .leq (.tmp 23) (.const (.int .i64 8)), (some (20, true))⟩,
             ⟨(some 25), .pick (.tmp 20) (.tmp 24) (.const (.bool false)), none⟩,
             ⟨(some 2), .mov (.tmp 25), none⟩]) (
          .ret)) (
          .skip))))))))))))) (
  .trim [] [] [] (
  .seq (
   .reg [⟨(some 2), .mov (.const (.bool false)), none⟩]) (
  .ret)))))
theorem r49 : Runs Try.prog 49 m49.strip [.mov (.tmp 2)] 26 := ⟨by kernel_rfl, by kernel_rfl, Try.f49, Try.f49.body.getD .skip, Try.func49, by kernel_rfl, by kernel_rfl, by kernel_rfl, by kernel_rfl, by kernel_rfl⟩

/-- slices.ContainsFunc[[]arbour/api.Range,arbour/api.Range] -/
def m50 : MC :=
  .seq (
   .reg [⟨(some 4), .mov (.const (.bool false)), none⟩]) (
  .trim [0, 1] [] [] (
  .seq (
   .reg [⟨(some 5), .mov (.tmp 0), none⟩,
     ⟨(some 6), .mov (.tmp 1), none⟩,
     ⟨(some 7), .call (.func 62) [(.tmp 5), (.tmp 6)] .pure, none⟩,
     ⟨(some 8), .bin .geq (.tmp 7) (.const (.int .i64 0)), none⟩,
     ⟨(some 4), .mov (.tmp 8), none⟩]) (
  .ret)))
theorem r50 : Runs Try.prog 50 m50.strip [.mov (.tmp 4)] 9 := ⟨by kernel_rfl, by kernel_rfl, Try.f50, Try.f50.body.getD .skip, Try.func50, by kernel_rfl, by kernel_rfl, by kernel_rfl, by kernel_rfl, by kernel_rfl⟩

/-- arbour/set.Has$1 -/
def m51 : MC :=
  .seq (
   .reg [⟨(some 2), .box 63 2 (.tmp 0), none⟩,
     ⟨(some 3), .mov (.const (.bool false)), none⟩]) (
  .trim [1, 2] [2] [] (
  .seq (
   .reg [⟨(some 4), .faddr 0 (.tmp 2), none⟩,
     ⟨(some 5), .load none (.tmp 4), none⟩,
     ⟨(some 6), .faddr 1 (.tmp 1), none⟩,
     ⟨(some 7), .load none (.tmp 6), none⟩,
     ⟨(some 8), .bin .leq (.tmp 5) (.tmp 7), none⟩,
     ⟨(some 9), .mov (.tmp 8), none⟩,
     ⟨(some 10), .faddr 1 (.tmp 1), (some (9, true))⟩,
     ⟨(some 11), .load none (.tmp 10), (some (9, true))⟩,
     ⟨(some 12), .faddr 1 (.tmp 2), (some (9, true))⟩,
     ⟨(some 13), .load none (.tmp 12), (some (9, true))⟩,
     ⟨(some 14), .bin .leq (.tmp 11) (.tmp 13), (some (9, true))⟩,
     ⟨(some 15), .pick (.tmp 9) (.tmp 14) (.const (.bool false)), none⟩,
     ⟨(some 3), .mov (.tmp 15), none⟩]) (
  .ret)))
theorem r51 : Runs Try.prog 51 m51.strip [.mov (.tmp 3)] 16 := ⟨by kernel_rfl, by kernel_rfl, Try.f51, Try.f51.body.getD .skip, Try.func51, by kernel_rfl, by kernel_rfl, by kernel_rfl, by kernel_rfl, by kernel_rfl⟩

/-- slices.Contains[[]string,string] -/
def m52 : MC :=
  .seq (
   .reg [⟨(some 4), .mov (.const (.bool false)), none⟩]) (
  .trim [0, 1] [] [] (
  .seq (
   .reg [⟨(some 5), .mov (.tmp 0), none⟩,
     ⟨(some 6), .mov (.tmp 1), none⟩,
     ⟨(some 7), .call (.func 63) [(.tmp 5), (.tmp 6)] .pure, none⟩,
     ⟨(some 8), .bin .geq (.tmp 7) (.const (.int .i64 0)), none⟩,
     ⟨(some 4), .mov (.tmp 8), none⟩]) (
  .ret)))
theorem r52 : Runs Try.prog 52 m52.strip [.mov (.tmp 4)] 9 := ⟨by kernel_rfl, by kernel_rfl, Try.f52, Try.f52.body.getD .skip, Try.func52, by kernel_rfl, by kernel_rfl, by kernel_rfl, by kernel_rfl, by kernel_rfl⟩

/-- arbour/set.Ranges$1 -/
def m57 : MC :=
  .seq (
   .reg [⟨(some 2), .box 63 2 (.tmp 0), none⟩,
     ⟨(some 3), .box 63 2 (.tmp 1), none⟩,
     ⟨(some 4), .mov (.const (.int .i64 0)), none⟩]) (
  .trim [2, 3] [2, 3] [] (
  .seq (
   .reg [⟨(some 5), .faddr 0 (.tmp 2), none⟩,
     ⟨(some 6), .load none (.tmp 5), none⟩,
     ⟨(some 7), .faddr 0 (.tmp 3), none⟩,
     ⟨(some 8), .load none (.tmp 7), none⟩,
     ⟨(some 9), .call (.func 58) [(.tmp 6), (.tmp 8)] .pure, none⟩,
     ⟨(some 4), .mov (.tmp 9), none⟩]) (
  .ret)))
theorem r57 : Runs Try.prog 57 m57.strip [.mov (.tmp 4)] 10 := ⟨by kernel_rfl, by kernel_rfl, Try.f57, Try.f57.body.getD .skip, Try.func57, by kernel_rfl, by kernel_rfl, by kernel_rfl, by kernel_rfl, by kernel_rfl⟩

/-- cmp.Compare[int] -/
def m58 : MC :=
  .seq (
   .reg [⟨(some 4), .mov (.const (.int .i64 0)), none⟩]) (
  .trim [0, 1] [] [] (
  .seq (
   .reg [⟨(some 7), .mov (.tmp 0), none⟩,
     ⟨(some 8), .call (.func 66) [(.tmp 7)] .pure, none⟩,
     ⟨(some 5), .mov (.tmp 8), none⟩]) (
  .trim [0, 1, 5] [] [] (
  .seq (
   .reg [⟨(some 9), .mov (.tmp 1), none⟩,
     ⟨(some 10), .call (.func 66) [(.tmp 9)] .pure, none⟩,
     ⟨(some 6), .mov (.tmp 10), none⟩]) (
  .trim [0, 1, 5, 6] [] [] (
  .seq (
   .seq (
    .reg [⟨(some 11), .mov (.tmp 5), none⟩]) (
   .trim [0, 1, 6, 11] [] [] (
   .cond (.tmp 11) (
     .seq (
      .seq (
       .reg [⟨(some 12), .mov (.tmp 6), none⟩]) (
      .trim [12] [] [] (
      .cond (.tmp 12) (
        .seq (
         .reg [⟨(some 4), .mov (.const (.int .i64 0)), none⟩]) (
        .ret)) (
        .skip)))) (
     .trim [] [] [] (
     .seq (
      .reg [⟨(some 4), .mov (.const (.int .i64 (-1))), none⟩]) (
     .ret)))) (
     .skip)))) (
  .trim [0, 1, 6] [] [] (
  .seq (
   .seq (
    .reg [⟨(some 13), .mov (.tmp 6), none⟩]) (
   .trim [0, 1, 13] [] [] (
   .cond (.tmp 13) (
     .seq (
      .reg [⟨(some 4), .mov (.const (.int .i64 1)), none⟩]) (
     .ret)) (
     .skip)))) (
  .trim [0, 1] [] [] (
  .seq (
   .seq (
    .reg [⟨(some 14), .mov (.tmp 0), none⟩,
      ⟨(some 15), .mov (.tmp 1), none⟩,
      ⟨(some 16), .bin .lss (.tmp 14) (.tmp 15), none⟩]) (
   .trim [0, 1, 16] [] [] (
   .cond (.tmp 16) (
     .seq (
      .reg [⟨(some 4), .mov (.const (.int .i64 (-1))), none⟩]) (
     .ret)) (
     .skip)))) (
  .trim [0, 1] [] [] (
  .seq (
   .seq (
    .reg [⟨(some 17), .mov (.tmp 0), none⟩,
      ⟨(some 18), .mov (.tmp 1), none⟩,
      ⟨(some 19), .bin .gtr (.tmp 17) (.tmp 18), none⟩]) (
   .trim [19] [] [] (
   .cond (.tmp 19) (
     .seq (
      .reg [⟨(some 4), .mov (.const (.int .i64 1)), none⟩]) (
     .ret)) (
     .skip)))) (
  .trim [] [] [] (
  .seq (
   .reg [⟨(some 4), .mov (.const (.int .i64 0)), none⟩]) (
  .ret)))))))))))))))
theorem r58 : Runs Try.prog 58 m58.strip [.mov (.tmp 4)] 20 := ⟨by kernel_rfl, by kernel_rfl, Try.f58, Try.f58.body.getD .skip, Try.func58, by kernel_rfl, by kernel_rfl, by kernel_rfl, by kernel_rfl, by kernel_rfl⟩

/-- arbour/arbourref01.Decimal -/
def m61 : MC :=
  .seq (
   .reg [⟨(some 2), .mov (.const (.string ⟨#[]⟩)), none⟩]) (
  .trim [0] [] [] (
  .seq (
   .seq (
    .reg [⟨(some 4), .mov (.tmp 0), none⟩,
      ⟨(some 5), .bin .lss (.tmp 4) (.const (.int .i64 0)), none⟩]) (
   .trim [0, 5] [] [] (
   .cond (.tmp 5) (
     .seq (
      .reg [⟨(some 6), .mov (.tmp 0), none⟩,
        ⟨(some 7), .bin .add (.tmp 6) (.const (.int .i64 1)), none⟩,
        ⟨(some 8), .un .neg (.tmp 7), none⟩,
        ⟨(some 9), .conv .u64 (.tmp 8), none⟩,
        ⟨(some 10), .bin .add (.tmp 9) (.const (.int .u64 1)), none⟩,
        ⟨(some 3), .mov (.tmp 10), none⟩]) (
     .trim [3] [] [] (
     .seq (
      .reg [⟨(some 11), .mov (.tmp 3), none⟩,
        ⟨(some 12), .call (.func 68) [(.tmp 11)] .pure, none⟩,
        ⟨(some 13), .bin .add (.const (.string ⟨#[45]⟩)) (.tmp 12), none⟩,
        ⟨(some 2), .mov (.tmp 13), none⟩]) (
     .ret)))) (
     .skip)))) (
  .trim [0] [] [] (
  .seq (
   .reg [⟨(some 14), .mov (.tmp 0), none⟩,
     ⟨(some 15), .conv .u64 (.tmp 14), none⟩,
     ⟨(some 16), .call (.func 68) [(.tmp 15)] .pure, none⟩,
     ⟨(some 2), .mov (.tmp 16), none⟩]) (
  .ret)))))
theorem r61 : Runs Try.prog 61 m61.strip [.mov (.tmp 2)] 17 := ⟨by kernel_rfl, by kernel_rfl, Try.f61, Try.f61.body.getD .skip, Try.func61, by kernel_rfl, by kernel_rfl, by kernel_rfl, by kernel_rfl, by kernel_rfl⟩

/-- slices.IndexFunc[[]arbour/api.Range,arbour/api.Range] -/
def m62 : MC :=
  .seq (
   .reg [⟨(some 4), .mov (.const (.int .i64 0)), none⟩]) (
  .trim [0, 1] [] [] (
  .seq (
   .seq (
    .reg [⟨(some 6), .mov (.tmp 0), none⟩,
      ⟨(some 7), .lenL (.tmp 6), none⟩,
      ⟨(some 8), .mov (.const (.int .i64 0)), none⟩]) (
   .trim [0, 1, 7, 8] [] [] (
   .block 0 (
    .loop (
     .trim [0, 1, 7, 8] [] [] (
     .seq (
      .reg [⟨(some 9), .bin .lss (.tmp 8) (.tmp 7), none⟩]) (
     .trim [0, 1, 7, 8, 9] [] [] (
     .seq (
      .cond (.tmp 9) (
        .skip) (
        .exit 0)) (
     .trim [0, 1, 7, 8] [] [] (
     .seq (
      .block 1 (
       .seq (
        .reg [⟨(some 10), .mov (.tmp 8), none⟩,
          ⟨(some 5), .mov (.tmp 10), none⟩]) (
       .trim [0, 1, 5, 7, 8] [] [] (
       .seq (
        .reg [⟨(some 11), .mov (.tmp 1), none⟩,
          ⟨(some 12), .mov (.tmp 0), none⟩,
          ⟨(some 13), .mov (.tmp 5), none⟩,
          ⟨(some 14), .iaddrS 2 (.tmp 12) (.tmp 13), none⟩,
          ⟨(some 15), .load (some 2) (.tmp 14), none⟩,
          ⟨(some 16), .call (.tmp 11) [(.tmp 15)] .pure, none⟩]) (
       .trim [0, 1, 5, 7, 8, 16] [] [] (
       .cond (.tmp 16) (
         .seq (
          .reg [⟨(some 17), .mov (.tmp 5), none⟩,
            ⟨(some 4), .mov (.tmp 17), none⟩]) (
         .ret)) (
         .skip))))))) (
     .trim [0, 1, 7, 8] [] [] (
     .reg [⟨(some 18), .bin .add (.tmp 8) (.const (.int .i64 1)), none⟩,
       ⟨(some 8), .mov (.tmp 18), none⟩])))))))))))) (
  .trim [] [] [] (
  .seq (
   .reg [⟨(some 4), .mov (.const (.int .i64 (-1))), none⟩]) (
  .ret)))))
theorem r62 : Runs Try.prog 62 m62.strip [.mov (.tmp 4)] 19 := ⟨by kernel_rfl, by kernel_rfl, Try.f62, Try.f62.body.getD .skip, Try.func62, by kernel_rfl, by kernel_rfl, by kernel_rfl, by kernel_rfl, by kernel_rfl⟩

/-- slices.Index[[]string,string] -/
def m63 : MC :=
  .seq (
   .reg [⟨(some 4), .mov (.const (.int .i64 0)), none⟩]) (
  .trim [0, 1] [] [] (
  .seq (
   .seq (
    .reg [⟨(some 6), .mov (.tmp 0), none⟩,
      ⟨(some 7), .lenL (.tmp 6), none⟩,
      ⟨(some 8), .mov (.const (.int .i64 0)), none⟩]) (
   .trim [0, 1, 7, 8] [] [] (
   .block 0 (
    .loop (
     .trim [0, 1, 7, 8] [] [] (
     .seq (
      .reg [⟨(some 9), .bin .lss (.tmp 8) (.tmp 7), none⟩]) (
     .trim [0, 1, 7, 8, 9] [] [] (
     .seq (
      .cond (.tmp 9) (
        .skip) (
        .exit 0)) (
     .trim [0, 1, 7, 8] [] [] (
     .seq (
      .block 1 (
       .seq (
        .reg [⟨(some 10), .mov (.tmp 8), none⟩,
          ⟨(some 5), .mov (.tmp 10), none⟩]) (
       .trim [0, 1, 5, 7, 8] [] [] (
       .seq (
        .reg [⟨(some 11), .mov (.tmp 1), none⟩,
          ⟨(some 12), .mov (.tmp 0), none⟩,
          ⟨(some 13), .mov (.tmp 5), none⟩,
          ⟨(some 14), .iaddrS 1 (.tmp 12) (.tmp 13), none⟩,
          ⟨(some 15), .load none (.tmp 14), none⟩,
          ⟨(some 16), .bin .eql (.tmp 11) (.tmp 15), none⟩]) (
       .trim [0, 1, 5, 7, 8, 16] [] [] (
       .cond (.tmp 16) (
         .seq (
          .reg [⟨(some 17), .mov (.tmp 5), none⟩,
            ⟨(some 4), .mov (.tmp 17), none⟩]) (
         .ret)) (
         .skip))))))) (
     .trim [0, 1, 7, 8] [] [] (
     .reg [⟨(some 18), .bin .add (.tmp 8) (.const (.int .i64 1)), none⟩,
       ⟨(some 8), .mov (.tmp 18), none⟩])))))))))))) (
  .trim [] [] [] (
  .seq (
   .reg [⟨(some 4), .mov (.const (.int .i64 (-1))), none⟩]) (
  .ret)))))
theorem r63 : Runs Try.prog 63 m63.strip [.mov (.tmp 4)] 19 := ⟨by kernel_rfl, by kernel_rfl, Try.f63, Try.f63.body.getD .skip, Try.func63, by kernel_rfl, by kernel_rfl, by kernel_rfl, by kernel_rfl, by kernel_rfl⟩

/-- cmp.isNaN[int] -/
def m66 : MC :=
  .seq (
   .reg [⟨(some 2), .mov (.const (.bool false)), none⟩]) (
  .trim [0] [] [] (
  .seq (
   .reg [⟨(some 3), .mov (.tmp 0), none⟩,
     ⟨(some 4), .mov (.tmp 0), none⟩,
     ⟨(some 5), .bin .neq (.tmp 3) (.tmp 4), none⟩,
     ⟨(some 2), .mov (.tmp 5), none⟩]) (
  .ret)))
theorem r66 : Runs Try.prog 66 m66.strip [.mov (.tmp 2)] 6 := ⟨by kernel_rfl, by kernel_rfl, Try.f66, Try.f66.body.getD .skip, Try.func66, by kernel_rfl, by kernel_rfl, by kernel_rfl, by kernel_rfl, by kernel_rfl⟩

/-- arbour/arbourref01.digits -/
def m68 : MC :=
  .seq (
   .reg [⟨(some 2), .mov (.const (.string ⟨#[]⟩)), none⟩]) (
  .trim [0] [] [] (
  .seq (
   .seq (
    .reg [⟨(some 3), .mov (.tmp 0), none⟩,
      ⟨(some 4), .bin .lss (.tmp 3) (.const (.int .u64 10)), none⟩]) (
   .trim [0, 4] [] [] (
   .cond (.tmp 4) (
     .seq (
      .reg [⟨(some 5), .mov (.tmp 0), none⟩,
        ⟨(some 6), .bin .add (.const (.int .u64 48)) (.tmp 5), none⟩,
        ⟨(some 7), .conv .u8 (.tmp 6), none⟩,
        ⟨(some 8), .bslice 5 1 [(.val (.int .u8 0))] 1 [(0, 1, (.tmp 7))], none⟩,
        ⟨(some 9), .b2s (.tmp 8), none⟩,
        ⟨(some 2), .mov (.tmp 9), none⟩]) (
     .ret)) (
     .skip)))) (
  .trim [0] [] [] (
  .seq (
   .dreg 11 [⟨(some 10), .mov (.tmp 0), none⟩,
     ⟨(some 11), .bin .quo (.tmp 10) (.const (.int .u64 10)), none⟩,
     ⟨(some 12), .call (.func 68) [(.tmp 11)] .pure, none⟩,
     ⟨(some 13), .mov (.tmp 0), none⟩,
     ⟨(some 14), .bin .rem (.tmp 13) (.const (.int .u64 10)), none⟩,
     ⟨(some 15), .bin .add (.const (.int .u64 48)) (.tmp 14), none⟩,
     ⟨(some 16), .conv .u8 (.tmp 15), none⟩,
     ⟨(some 17), .bslice 5 1 [(.val (.int .u8 0))] 1 [(0, 1, (.tmp 16))], none⟩,
     ⟨(some 18), .b2s (.tmp 17), none⟩,
     ⟨(some 19), .bin .add (.tmp 12) (.tmp 18), none⟩,
     ⟨(some 2), .mov (.tmp 19), none⟩]) (
  .ret)))))
theorem r68 : Runs Try.prog 68 m68.strip [.mov (.tmp 2)] 20 := ⟨by kernel_rfl, by kernel_rfl, Try.f68, Try.f68.body.getD .skip, Try.func68, by kernel_rfl, by kernel_rfl, by kernel_rfl, by kernel_rfl, by kernel_rfl⟩

end Go.Proofs
