/- The functions, as code of the value machine (printed by program). -/
import Derived.Test.YtdfpmolkpkpboaaDoorVm24
import Derived.Test.YtdfpmolkpkpboaaDoorProg
set_option linter.unusedVariables false
set_option maxRecDepth 2000
namespace Go.Proofs
open Go.Vm
def m14a : MC :=
 .seq (
  .reg [⟨(some 4), .mov (.const (.string ⟨#[]⟩)), none⟩]) (
 .trim [0, 1] [1000000, 11000000] [] (
 .seq (
  .seq (
   .reg [⟨(some 5), .mov (.tmp 1), none⟩,
    ⟨(some 6), .bin .lss (.tmp 5) (.const (.int .i64 0)), none⟩,
    ⟨(some 7), .mov (.tmp 6), none⟩,
    ⟨(some 8), .mov (.tmp 1), (some (7, false))⟩,
    ⟨(some 9), .bin .geq (.tmp 8) (.const (.int .i64 4)), (some (7, false))⟩,
    ⟨(some 10), .pick (.tmp 7) (.const (.bool true)) (.tmp 9), none⟩]) (
  .trim [0, 1, 10] [1000000, 11000000] [] (
  .cond (.tmp 10) (
   .seq (
    .reg [⟨(some 4), .mov (.const (.string ⟨#[]⟩)), none⟩]) (
   .ret)) (
   .skip)))) (
 .trim [0, 1] [1000000, 11000000] [] (
 .seq (
  .reg [⟨(some 11), .mov (.tmp 0), none⟩,
   ⟨(some 12), .call (.func 31) [(.tmp 11)] (.obj [(1000000, 1000000), (11000000, 11000000)] [] [] []), none⟩,
   ⟨(some 13), .mov (.tmp 1), none⟩,
   ⟨(some 14), .nilck (.tmp 12), none⟩,
   ⟨(some 15), .faddr 3 (.tmp 14), none⟩,
   ⟨(some 16), .iaddrA 4 1 (.tmp 15) (.tmp 13), none⟩,
   ⟨(some 17), .load none (.tmp 16), none⟩,
   ⟨(some 4), .mov (.tmp 17), none⟩]) (
 .ret)))))
theorem r14a : Runs Tryd.prog 14 m14a.strip [.mov (.tmp 4)] 18 := ⟨by kernel_rfl, by kernel_rfl, Tryd.f14, Tryd.f14.body.getD .skip, Tryd.func14, by kernel_rfl, by kernel_rfl, by kernel_rfl, by kernel_rfl, by kernel_rfl⟩
def m15a : MC :=
 .seq (
  .reg [⟨(some 4), .mov (.const (.int .i64 0)), none⟩]) (
 .trim [0, 1] [1000000, 11000000] [] (
 .seq (
  .seq (
   .reg [⟨(some 8), .mov (.tmp 0), none⟩,
    ⟨(some 9), .call (.func 31) [(.tmp 8)] (.obj [(1000000, 1000000), (11000000, 11000000)] [] [] []), none⟩,
    ⟨(some 10), .nilck (.tmp 9), none⟩,
    ⟨(some 11), .faddr 7 (.tmp 10), none⟩,
    ⟨(some 12), .load none (.tmp 11), none⟩,
    ⟨(some 13), .mov (.tmp 1), none⟩,
    ⟨(some 14), .xop (.mget [.s] (.val (.int .i64 0)) true (.tmp 12) (.tmp 13)), none⟩,
    ⟨(some 7), .mov (.tmp 14), none⟩,
    ⟨(some 15), .ext (.tmp 7) 0, none⟩,
    ⟨(some 16), .ext (.tmp 7) 1, none⟩,
    ⟨(some 5), .mov (.tmp 15), none⟩,
    ⟨(some 6), .mov (.tmp 16), none⟩]) (
  .trim [5, 6] [1000000, 11000000] [] (
  .seq (
   .reg [⟨(some 17), .mov (.tmp 6), none⟩]) (
  .trim [5, 17] [1000000, 11000000] [] (
  .cond (.tmp 17) (
   .seq (
    .reg [⟨(some 18), .mov (.tmp 5), none⟩,
     ⟨(some 4), .mov (.tmp 18), none⟩]) (
   .ret)) (
   .skip)))))) (
 .trim [] [1000000, 11000000] [] (
 .seq (
  .reg [⟨(some 4), .mov (.const (.int .i64 (-1))), none⟩]) (
 .ret)))))
theorem r15a : Runs Tryd.prog 15 m15a.strip [.mov (.tmp 4)] 19 := ⟨by kernel_rfl, by kernel_rfl, Tryd.f15, Tryd.f15.body.getD .skip, Tryd.func15, by kernel_rfl, by kernel_rfl, by kernel_rfl, by kernel_rfl, by kernel_rfl⟩
def m31a : MC :=
 .seq (
  .reg [⟨(some 2), .mov (.const (.pointer none)), none⟩]) (
 .trim [0] [6, 1000000, 11000000] [] (
 .seq (
  .seq (
   .reg [⟨(some 3), .mov (.tmp 0), none⟩,
    ⟨(some 4), .binP false (.tmp 3) (.const (.pointer none)), none⟩]) (
  .trim [0, 4] [6, 1000000, 11000000] [] (
  .cond (.tmp 4) (
   .reg [⟨(some 5), .build [(.val (.int .u32 0)), (.val (.int .i32 0)), (.val (.int .u32 0)), (.val (.string ⟨#[]⟩)), (.val (.string ⟨#[]⟩)), (.val (.string ⟨#[]⟩)), (.val (.string ⟨#[]⟩)), (.val (.map none))] [], none⟩,
    ⟨(some 6), .box 47 8 (.tmp 5), none⟩,
    ⟨(some 0), .mov (.tmp 6), none⟩]) (
   .skip)))) (
 .trim [0] [6, 1000000, 11000000] [] (
 .seq (
  .reg [⟨(some 7), .mov (.tmp 0), none⟩,
   ⟨(some 8), .nilck (.tmp 7), none⟩,
   ⟨(some 9), .faddr 0 (.tmp 8), none⟩,
   ⟨(some 10), .mov (.tmp 0), none⟩,
   ⟨(some 11), .mkfn 48 [(.tmp 10)] [], none⟩,
   ⟨(some 12), .call (.func 47) [(.tmp 9), (.tmp 11)] (.obj [(1000000, 1000000), (11000000, 11000000)] [] [] []), none⟩]) (
 .trim [0] [6, 1000000, 11000000] [] (
 .seq (
  .reg [⟨(some 13), .mov (.tmp 0), none⟩,
   ⟨(some 2), .mov (.tmp 13), none⟩]) (
 .ret)))))))
theorem r31a : Runs Tryd.prog 31 m31a.strip [.mov (.tmp 2)] 14 := ⟨by kernel_rfl, by kernel_rfl, Tryd.f31, Tryd.f31.body.getD .skip, Tryd.func31, by kernel_rfl, by kernel_rfl, by kernel_rfl, by kernel_rfl, by kernel_rfl⟩
end Go.Proofs
