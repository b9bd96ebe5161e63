/- A part of the proof; what is proved stands in the last text. -/
import Derived.Test.YtipppgiimemloaaGreatWG
set_option linter.unusedVariables false
set_option maxRecDepth 2000

namespace Go.Proofs
open Go.Vm
set_option linter.unusedSimpArgs false

theorem boxB_four (b : BoxM) : boxB b = setB b.s0 ++ (setB b.s1 ++ (setB b.s2 ++ setB b.s3)) := by
  simp [boxB, setsB, List.range_succ, BoxM.at, at4]
theorem boxSame_iff {a b : BoxM} : boxSame a b = true ↔ a = b := by
  obtain ⟨x0, x1, x2, x3⟩ := a
  obtain ⟨y0, y1, y2, y3⟩ := b
  simp [boxSame, all4, sameB, BoxM.at, at4, sameM_iff, and_assoc]
theorem sameF_iff {l m : List BoxM} : sameF l m = true ↔ l = m := by
  simp only [sameF, Bool.and_eq_true, decide_eq_true_eq, List.all_eq_true, List.mem_range, boxSame_iff]
  constructor
  · rintro ⟨h1, h2⟩
    refine List.ext_getElem h1 fun i hi hj => ?_
    have := h2 i hi
    simpa [List.getD_eq_getElem?_getD, List.getElem?_eq_getElem hi, List.getElem?_eq_getElem hj] using this
  · rintro rfl; exact ⟨rfl, fun i _ => rfl⟩
end Go.Proofs



namespace Go.Proofs
open Go.Vm
set_option linter.unusedSimpArgs false

end Go.Proofs

