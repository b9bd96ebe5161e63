/- A part of the proof; what is proved stands in the last text. -/
import Derived.Test.YtaoppmjidjdgdaaGreatTA
import Derived.Test.YtaoppmjidjdgdaaGreatLA
import Derived.Test.YtaoppmjidjdgdaaGreatRows
import Derived.Tactics
import Derived.Tactics2
import Derived.Laws.Pointers
import Derived.Laws.NewBlocks
import Derived.RegionTactic
import Derived.RegionCalls
import Derived.KernelRfl
set_option linter.unusedVariables false
set_option maxRecDepth 2000
namespace Go.Proofs
set_option linter.unusedSimpArgs false
open Go.Vm
theorem rawNaN (x : Int) (w : World) : Calls Tryz.prog 99 #[.int .i64 x] w fun e w' => e = .returned (.bool false) ∧ w' = w := by
 go_enter Tryz.func99, Tryz.ntmps99
 go_wp2
 go_ret
 exact ⟨rfl, rfl⟩
theorem rawCmp (x y : Int) (w : World) : Calls Tryz.prog 92 #[.int .i64 x, .int .i64 y] w fun e w' => e = .returned (.int .i64 (if x < y then -1 else if y < x then 1 else 0)) ∧ w' = w := by
 have h1 := rawNaN
 by_cases hxy : x < y
 ·rw [if_pos hxy]
  go_enter Tryz.func92, Tryz.ntmps92
  go_wp2
  all_goals first | (exfalso; omega) | (go_ret; exact ⟨rfl, rfl⟩)
 ·rw [if_neg hxy]
  by_cases hyx : y < x
  ·rw [if_pos hyx]
   go_enter Tryz.func92, Tryz.ntmps92
   go_wp2
   all_goals first | (exfalso; omega) | (go_ret; exact ⟨rfl, rfl⟩)
  ·rw [if_neg hyx]
   go_enter Tryz.func92, Tryz.ntmps92
   go_wp2
   all_goals first | (exfalso; omega) | (go_ret; exact ⟨rfl, rfl⟩)
theorem rawF (a b c d : Int) (w : World) : Calls Tryz.prog 91 #[.agg #[.int .i64 a, .int .i64 b], .agg #[.int .i64 c, .int .i64 d]] w fun e w' => e = .returned (.int .i64 (if a < c then -1 else if c < a then 1 else 0)) ∧ ∃ os, w' = Go.Sort.grow w os := by
 have h1 := rawCmp a c
 have fin : ∃ os, ((w.alloc (Obj.cells #[Value.int IntKind.i64 a, Value.int IntKind.i64 b] 89)).alloc (Obj.cells #[Value.int IntKind.i64 c, Value.int IntKind.i64 d] 89)) = Go.Sort.grow w os := ⟨#[Obj.cells #[Value.int IntKind.i64 a, Value.int IntKind.i64 b] 89, Obj.cells #[Value.int IntKind.i64 c, Value.int IntKind.i64 d] 89], by unfold World.alloc Go.Sort.grow; simp only [Array.append_eq_append, ← Array.append_singleton, Array.append_assoc]; rfl⟩
 by_cases hxy : a < c
 ·rw [if_pos hxy] at *
  go_enter Tryz.func91, Tryz.ntmps91
  go_wp2
  all_goals first | (exfalso; omega) | (go_ret; exact ⟨rfl, fin⟩)
 ·rw [if_neg hxy] at *
  by_cases hyx : c < a
  ·rw [if_pos hyx] at *
   go_enter Tryz.func91, Tryz.ntmps91
   go_wp2
   all_goals first | (exfalso; omega) | (go_ret; exact ⟨rfl, fin⟩)
  ·rw [if_neg hyx] at *
   go_enter Tryz.func91, Tryz.ntmps91
   go_wp2
   all_goals first | (exfalso; omega) | (go_ret; exact ⟨rfl, fin⟩)
end Go.Proofs
