/- The functions, as code of the value machine (printed by program). -/
import Derived.Test.YtaoppmjidjdgdaaGreatVm24
import Derived.Test.YtaoppmjidjdgdaaGreatProg
set_option linter.unusedVariables false
set_option maxRecDepth 2000
namespace Go.Proofs
open Go.Vm
def dm17c_0 : MC := .dany [(⟨(some 5), .mov (.tmp 0), none⟩, []),
     (⟨(some 6), .nilck (.tmp 5), none⟩, [0]),
     (⟨(some 7), .faddr 0 (.tmp 6), none⟩, [1]),
     (⟨(some 8), .load none (.tmp 7), none⟩, [2]),
     (⟨(some 9), .mov (.tmp 0), none⟩, []),
     (⟨(some 10), .nilck (.tmp 9), none⟩, [4]),
     (⟨(some 11), .faddr 1 (.tmp 10), none⟩, [5]),
     (⟨(some 12), .load none (.tmp 11), none⟩, [6]),
     (⟨(some 13), .call (.func 28) [(.tmp 12)] (.copy 44 3), none⟩, [7]),
     (⟨(some 14), .mov (.tmp 0), none⟩, []),
     (⟨(some 15), .nilck (.tmp 14), none⟩, [9]),
     (⟨(some 16), .faddr 2 (.tmp 15), none⟩, [10]),
     (⟨(some 17), .load none (.tmp 16), none⟩, [11]),
     (⟨(some 18), .call (.func 32) [(.tmp 17)] (.obj [(11000000, 11000000)] [] [(10000001, 10000018)] []), none⟩, [12, 8]),
     (⟨(some 19), .mov (.tmp 0), none⟩, []),
     (⟨(some 20), .nilck (.tmp 19), none⟩, [14]),
     (⟨(some 21), .faddr 3 (.tmp 20), none⟩, [15]),
     (⟨(some 22), .load none (.tmp 21), none⟩, [16]),
     (⟨(some 23), .call (.func 30) [(.tmp 22)] (.copy 3 1), none⟩, [17, 13]),
     (⟨(some 24), .build [(.val (.int .i64 0)), (.sl none []), (.val (.map none)), (.sl none [])] [(0, 1, (.tmp 8)), (1, 1, (.tmp 13)), (2, 1, (.tmp 18)), (3, 1, (.tmp 23))], none⟩, [3, 8, 13, 18]),
     (⟨(some 25), .box 69 4 (.tmp 24), none⟩, [19]),
     (⟨(some 2), .mov (.tmp 25), none⟩, [20, 18, 0, 1, 2, 3, 4, 5, 6, 7, 8, 9, 10, 11, 12, 13, 14, 15, 16, 17, 18, 19, 20])]
def m17c : MC :=
 .seq (
  .reg [⟨(some 2), .mov (.const (.pointer none)), none⟩]) (
 .trim [0] [1000000, 10000018, 11000000] [(900001, 44, 3), (900002, 3, 1)] (
 .seq (
  .seq (
   .reg [⟨(some 3), .mov (.tmp 0), none⟩,
    ⟨(some 4), .binP false (.tmp 3) (.const (.pointer none)), none⟩]) (
  .trim [0, 4] [1000000, 10000018, 11000000] [(900001, 44, 3), (900002, 3, 1)] (
  .cond (.tmp 4) (
   .seq (
    .reg [⟨(some 2), .mov (.const (.pointer none)), none⟩]) (
   .ret)) (
   .skip)))) (
 .trim [0] [1000000, 10000018, 11000000] [(900001, 44, 3), (900002, 3, 1)] (
 .seq (
  dm17c_0) (
 .ret)))))
theorem r17c : Runs Tryz.prog 17 m17c.strip [.mov (.tmp 2)] 26 := ⟨by kernel_rfl, by kernel_rfl, Tryz.f17, Tryz.f17.body.getD .skip, Tryz.func17, by kernel_rfl, by kernel_rfl, by kernel_rfl, by kernel_rfl, by kernel_rfl⟩
def m28c : MC :=
 .seq (
  .reg [⟨(some 2), .nilsl 44 3, none⟩]) (
 .trim [0] [] [] (
 .seq (
  .seq (
   .reg [⟨(some 3), .mov (.tmp 0), none⟩,
    ⟨(some 4), .isnil false (.tmp 3), none⟩]) (
  .trim [0, 4] [] [] (
  .cond (.tmp 4) (
   .seq (
    .reg [⟨(some 2), .nilsl 44 3, none⟩]) (
   .ret)) (
   .skip)))) (
 .trim [0] [] [] (
 .seq (
  .reg [⟨(some 5), .bslice 44 3 [(.val (.int .i64 0)), (.sl none []), (.val (.int .u64 0))] 0 [], none⟩,
   ⟨(some 6), .mov (.tmp 0), none⟩,
   ⟨(some 7), .append 44 3 40 (.tmp 5) (.tmp 6), none⟩,
   ⟨(some 2), .mov (.tmp 7), none⟩]) (
 .ret)))))
theorem r28c : Runs Tryz.prog 28 m28c.strip [.mov (.tmp 2)] 8 := ⟨by kernel_rfl, by kernel_rfl, Tryz.f28, Tryz.f28.body.getD .skip, Tryz.func28, by kernel_rfl, by kernel_rfl, by kernel_rfl, by kernel_rfl, by kernel_rfl⟩
def m30c : MC :=
 .seq (
  .reg [⟨(some 2), .nilsl 3 1, none⟩]) (
 .trim [0] [] [] (
 .seq (
  .seq (
   .reg [⟨(some 3), .mov (.tmp 0), none⟩,
    ⟨(some 4), .isnil false (.tmp 3), none⟩]) (
  .trim [0, 4] [] [] (
  .cond (.tmp 4) (
   .seq (
    .reg [⟨(some 2), .nilsl 3 1, none⟩]) (
   .ret)) (
   .skip)))) (
 .trim [0] [] [] (
 .seq (
  .reg [⟨(some 5), .bslice 3 1 [(.val (.int .i64 0))] 0 [], none⟩,
   ⟨(some 6), .mov (.tmp 0), none⟩,
   ⟨(some 7), .append 3 1 8 (.tmp 5) (.tmp 6), none⟩,
   ⟨(some 2), .mov (.tmp 7), none⟩]) (
 .ret)))))
theorem r30c : Runs Tryz.prog 30 m30c.strip [.mov (.tmp 2)] 8 := ⟨by kernel_rfl, by kernel_rfl, Tryz.f30, Tryz.f30.body.getD .skip, Tryz.func30, by kernel_rfl, by kernel_rfl, by kernel_rfl, by kernel_rfl, by kernel_rfl⟩
end Go.Proofs
