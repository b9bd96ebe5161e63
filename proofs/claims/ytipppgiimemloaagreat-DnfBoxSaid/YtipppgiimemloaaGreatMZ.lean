/- The functions, as code of the value machine (printed by program). -/
import Derived.Test.YtipppgiimemloaaGreatVm24
import Derived.Test.YtipppgiimemloaaGreatProg
set_option linter.unusedVariables false
set_option maxRecDepth 2000
namespace Go.Proofs
open Go.Vm
/-- arbour/arbourlaw06.DnfBox -/
def m6z : MC :=
 .seq (
 .reg [⟨(some 2), .box 49 16 (.tmp 0), none⟩,
 ⟨(some 3), .box 42 12 (.tmp 1), none⟩,
 ⟨(some 4), .mov (.const (.bool false)), none⟩]) (
 .trim [2, 3] [2, 3] [] (
 .seq (
 .seq (
 .reg [⟨(some 10), .call (.func 12) [] .pure, none⟩,
 ⟨(some 11), .un .not (.tmp 10), none⟩,
 ⟨(some 12), .mov (.tmp 11), none⟩,
 ⟨(some 13), .load (some 16) (.tmp 2), (some (12, false))⟩,
 ⟨(some 14), .bslice 49 16 [(.val (.bool false)), (.sl none []), (.val (.bool false)), (.sl none []), (.val (.bool false)), (.sl none []), (.val (.bool false)), (.sl none []), (.val (.bool false)), (.sl none []), (.val (.bool false)), (.sl none []), (.val (.bool false)), (.sl none []), (.val (.bool false)), (.sl none [])] 1 [(0, 16, (.tmp 13))], (some (12, false))⟩,
 ⟨(some 15), .call (.func 22) [(.tmp 14)] .pure, (some (12, false))⟩,
 ⟨(some 16), .un .not (.tmp 15), (some (12, false))⟩,
 ⟨(some 17), .pick (.tmp 12) (.const (.bool true)) (.tmp 16), none⟩]) (
 .trim [2, 3, 17] [2, 3] [] (
 .cond (.tmp 17) (
 .seq (
 .reg [⟨(some 18), .call (.func 12) [] .pure, none⟩,
 ⟨(some 4), .mov (.tmp 18), none⟩]) (
 .ret)) (
 .skip)))) (
 .trim [2, 3] [2, 3] [] (
 .seq (
 .reg [⟨(some 19), .call (.func 21) [(.const (.slice none 0 0))] (.obj [] [] [] [((4, 28, 7), (19, 28, 7))]), none⟩,
 ⟨(some 5), .alloc 28 [(.val (.int .i64 0)), (.val (.int .i64 0)), (.val (.bool false)), (.sl none []), (.val (.bool false)), (.sl none []), (.sl none [])], none⟩,
 ⟨none, .store 7 (.tmp 5) (.tmp 19), none⟩]) (
 .trim [2, 3, 5] [2, 3, 5] [(19, 28, 7)] (
 .seq (
 .seq (
 .reg [⟨(some 20), .load (some 16) (.tmp 2), none⟩,
 ⟨(some 21), .mov (.const (.int .i64 0)), none⟩]) (
 .trim [2, 3, 5, 20, 21] [2, 3, 5] [(19, 28, 7)] (
 .block 0 (
 .loop (
 .trim [2, 3, 5, 20, 21] [2, 3, 5] [(19, 28, 7)] (
 .seq (
 .reg [⟨(some 22), .bin .lss (.tmp 21) (.const (.int .i64 4)), none⟩]) (
 .trim [2, 3, 5, 20, 21, 22] [2, 3, 5] [(19, 28, 7)] (
 .seq (
 .cond (.tmp 22) (
 .skip) (
 .exit 0)) (
 .trim [2, 3, 5, 20, 21] [2, 3, 5] [(19, 28, 7)] (
 .seq (
 .block 1 (
 .seq (
 .reg [⟨(some 23), .mov (.tmp 21), none⟩,
 ⟨(some 24), .idxA 4 4 true (.tmp 20) (.tmp 21), none⟩,
 ⟨(some 7), .alloc 25 [(.val (.bool false)), (.sl none []), (.val (.bool false)), (.sl none [])], none⟩,
 ⟨(some 6), .mov (.tmp 23), none⟩,
 ⟨none, .store 4 (.tmp 7) (.tmp 24), none⟩]) (
 .trim [2, 3, 5, 6, 7, 20, 21] [2, 3, 5, 7] [(19, 28, 7)] (
 .dreg 6 [⟨(some 25), .faddr 6 (.tmp 5), none⟩,
 ⟨(some 26), .load none (.tmp 25), none⟩,
 ⟨(some 27), .mov (.tmp 6), none⟩,
 ⟨(some 28), .load (some 4) (.tmp 7), none⟩,
 ⟨(some 29), .call (.func 23) [(.tmp 27), (.tmp 28)] .pure, none⟩,
 ⟨(some 30), .bslice 28 7 [(.val (.int .i64 0)), (.val (.int .i64 0)), (.val (.bool false)), (.sl none []), (.val (.bool false)), (.sl none []), (.sl none [])] 1 [(0, 7, (.tmp 29))], none⟩,
 ⟨(some 31), .append 28 7 104 (.tmp 26) (.tmp 30), none⟩,
 ⟨(some 32), .faddr 6 (.tmp 5), none⟩,
 ⟨none, .store 1 (.tmp 32) (.tmp 31), none⟩])))) (
 .trim [2, 3, 5, 20, 21] [2, 3, 5] [(19, 28, 7)] (
 .reg [⟨(some 33), .bin .add (.tmp 21) (.const (.int .i64 1)), none⟩,
 ⟨(some 21), .mov (.tmp 33), none⟩])))))))))))) (
 .trim [2, 3, 5] [2, 3, 5] [(19, 28, 7)] (
 .seq (
 .reg [⟨(some 35), .load (some 7) (.tmp 5), none⟩,
 ⟨(some 36), .call (.func 14) [(.tmp 35)] .pure, none⟩,
 ⟨(some 34), .mov (.tmp 36), none⟩,
 ⟨(some 37), .ext (.tmp 34) 0, none⟩,
 ⟨(some 38), .ext (.tmp 34) 1, none⟩,
 ⟨(some 8), .mov (.tmp 37), none⟩,
 ⟨(some 9), .mov (.tmp 38), none⟩]) (
 .trim [2, 3, 8, 9] [2, 3] [] (
 .seq (
 .seq (
 .reg [⟨(some 39), .mov (.tmp 9), none⟩,
 ⟨(some 40), .bin .neq (.tmp 39) (.const (.int .i64 0)), none⟩]) (
 .trim [2, 3, 8, 40] [2, 3] [] (
 .cond (.tmp 40) (
 .seq (
 .reg [⟨(some 41), .mov (.tmp 8), none⟩,
 ⟨(some 42), .lenL (.tmp 41), none⟩,
 ⟨(some 43), .bin .eql (.tmp 42) (.const (.int .i64 0)), none⟩,
 ⟨(some 4), .mov (.tmp 43), none⟩]) (
 .ret)) (
 .skip)))) (
 .trim [2, 3, 8] [2, 3] [] (
 .seq (
 .dreg 14 [⟨(some 44), .mov (.tmp 8), none⟩,
 ⟨(some 45), .lenL (.tmp 44), none⟩,
 ⟨(some 46), .bin .leq (.tmp 45) (.const (.int .i64 1)), none⟩,
 ⟨(some 47), .mov (.tmp 46), none⟩,
 ⟨(some 48), .mov (.tmp 8), (some (47, true))⟩,
 ⟨(some 49), .load (some 12) (.tmp 3), (some (47, true))⟩,
 ⟨(some 50), .call (.func 17) [(.tmp 48), (.tmp 49)] .pure, (some (47, true))⟩,
 ⟨(some 51), .load (some 16) (.tmp 2), (some (47, true))⟩,
 ⟨(some 52), .bslice 49 16 [(.val (.bool false)), (.sl none []), (.val (.bool false)), (.sl none []), (.val (.bool false)), (.sl none []), (.val (.bool false)), (.sl none []), (.val (.bool false)), (.sl none []), (.val (.bool false)), (.sl none []), (.val (.bool false)), (.sl none []), (.val (.bool false)), (.sl none [])] 1 [(0, 16, (.tmp 51))], (some (47, true))⟩,
 ⟨(some 53), .load (some 12) (.tmp 3), (some (47, true))⟩,
 ⟨(some 54), .call (.func 24) [(.tmp 52), (.tmp 53)] .pure, (some (47, true))⟩,
 ⟨(some 55), .binB false (.tmp 50) (.tmp 54), (some (47, true))⟩,
 ⟨(some 56), .pick (.tmp 47) (.tmp 55) (.const (.bool false)), none⟩,
 ⟨(some 4), .mov (.tmp 56), none⟩]) (
 .ret)))))))))))))
theorem r6z : Runs Tryz.prog 6 m6z.strip [.mov (.tmp 4)] 57 := ⟨by kernel_rfl, by kernel_rfl, Tryz.f6, Tryz.f6.body.getD .skip, Tryz.func6, by kernel_rfl, by kernel_rfl, by kernel_rfl, by kernel_rfl, by kernel_rfl⟩

/-- arbour/expr.And -/
def m21z : MC :=
 .seq (
 .reg [⟨(some 2), .alloc 28 [(.val (.int .i64 0)), (.val (.int .i64 0)), (.val (.bool false)), (.sl none []), (.val (.bool false)), (.sl none []), (.sl none [])], none⟩]) (
 .trim [0, 2] [2] [(4, 28, 7)] (
 .seq (
 .reg [⟨(some 3), .mov (.tmp 0), none⟩,
 ⟨(some 4), .call (.func 56) [(.tmp 3)] (.fresh 28 7), none⟩,
 ⟨(some 5), .build [(.val (.int .i64 0)), (.val (.int .i64 0)), (.val (.bool false)), (.sl none []), (.val (.bool false)), (.sl none []), (.sl none [])] [(0, 1, (.const (.int .i64 2))), (6, 1, (.tmp 4))], none⟩,
 ⟨none, .store 7 (.tmp 2) (.tmp 5), none⟩]) (
 .ret)))
theorem r21z : Runs Tryz.prog 21 m21z.strip [.load (some 7) (.tmp 2)] 6 := ⟨by kernel_rfl, by kernel_rfl, Tryz.f21, Tryz.f21.body.getD .skip, Tryz.func21, by kernel_rfl, by kernel_rfl, by kernel_rfl, by kernel_rfl, by kernel_rfl⟩

end Go.Proofs
