/- A part of the proof; what is proved stands in the last text. -/
import Derived.Test.YtijhiblfdidnpaaGreatWI
set_option linter.unusedVariables false
set_option maxRecDepth 2000
namespace Go.Proofs
open Go.Vm
set_option linter.unusedSimpArgs false
abbrev Rd2 := List UInt8 × Nat × Int
def rd2C (s : Rd2) : List D := [.val (.string (lb s.1)), .val (.int .i64 s.2.1), .val (.int .i64 s.2.2)]
@[go_sem] theorem tags_rd2C (s : Rd2) : tagsL (rd2C s) = [] := rfl
@[go_sem] theorem av_rd2C (p : Nat → Bool) (q : Tag → Bool) (s : Rd2) : D.avoids.avoidsL p q (rd2C s) = true := rfl
@[go_sem] theorem ren_rd2C (f : Nat → Option Nat) (h : Tag → Option Tag) (s : Rd2) : renL f h (rd2C s) = rd2C s := rfl
@[go_sem] theorem keep_rd2C (p : Nat → Bool) (q : Tag → Bool) (s : Rd2) : (rd2C s).map (D.keep p q) = rd2C s := rfl
@[go_sem] theorem fzb_rd2C (o : Nat) (fs : List D) (s : Rd2) : (rd2C s).map (D.fzb o fs) = rd2C s := rfl
def stop2 (s : Rd2) (e : Int) : Rd2 := if s.2.2 = 0 then (s.1, s.2.1, e) else s
def byte2 (s : Rd2) : Nat × Rd2 := if s.2.2 ≠ 0 ∨ s.1.length ≤ s.2.1 then (0, stop2 s 3) else ((s.1.getD s.2.1 0).toNat, (s.1, s.2.1 + 1, s.2.2))
def uint2F : Nat → Bool → Nat → Rd2 → Nat × Rd2
 | 0, _, _, s => (0, s)
 | m + 1, first, n, s => if (byte2 s).2.2.2 ≠ 0 then (0, (byte2 s).2) else if (first && (byte2 s).1 == 128) = true ∨ 144115188075855872 ≤ n then (0, stop2 (byte2 s).2 2)
  else if (byte2 s).1 < 128 then (n * 128 + (byte2 s).1, (byte2 s).2) else uint2F m false (n * 128 + (byte2 s).1 % 128) (byte2 s).2
def uint2 (s : Rd2) : Nat × Rd2 := uint2F (s.1.length - s.2.1 + 2) true 0 s
end Go.Proofs

namespace Go.Proofs
open Go.Vm
set_option linter.unusedSimpArgs false
end Go.Proofs
