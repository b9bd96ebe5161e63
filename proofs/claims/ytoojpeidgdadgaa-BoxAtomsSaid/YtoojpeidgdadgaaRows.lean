/-
  No cell of these rows narrows 'for every input' (looked for: loops, veiled, ifaces, maps, wideKeys, modest, calm, conditions, laid).
  DERIVED. THE GIVEN ROWS OF THIS SEAT. 8 by the template 'for every input the law returns true; each argument reads behind the call as it read before'; 0 by the template 'total and deterministic' (their statements: YtoojpeidgdadgaaTotals.lean).
  GIVEN WITH THE SEED: the statements are not yours to turn. If you find one false, say at which input.
  Laid BY PROGRAM, IN A SANDBOX (cutbox-rows.mjs): the forced cells as the released guide's own fill.sh prints them over the translation 599c07c86ebc3212… (all of the seat's roots in one cut). By AI agents, Wed Nov 11 2026. No macro, syntax, notation, axiom, sorry.
-/
import Derived.Test.YtoojpeidgdadgaaChecked
import GoSem.Claim
import GoSem.ClaimJoined
import GoSem.ClaimMapViews
import Derived.JoinedTies
import Derived.KernelRfl
namespace Go.Proofs.Ytoojpeidgdadgaa
/- THE CELL 'sum', in the pinned program and in every row, IS THE sha256 OF THE DUMP (.gsa) THAT YtoojpeidgdadgaaProg.lean LOADS. Nothing in Lean hashes anything: it is a label: what it is worth is what the hold of that sum in a sandbox is worth. -/
noncomputable def Try.pinned : Pinned := { name := "ytoojpeidgdadgaa", sum := "599c07c86ebc3212ff470a65641aeef0d395dc40ce720caeef022db752a404c7", checked := Try.checked }
namespace Rows
def none {H : Type} : Left H := { results := [], args := [] }

/-- 'arbourlaw03.SetTurns': WHATEVER THE INPUT: true; the input reads as it did. -/
def setTurnsSpec : ChangeSpec := { name := "setTurns", fn := fun _ => fun
  | [d1, d2, d3] => { results := [.lit (.bool true)], args := [d1, d2, d3] }
  | _ => none }
def setTurnsRow : OpenClaim := { program := "ytoojpeidgdadgaa", sum := "599c07c86ebc3212ff470a65641aeef0d395dc40ce720caeef022db752a404c7", func := "arbour/arbourlaw03.SetTurns", spec := "setTurns", unfollowed := true, recurses := true, apart := false }
def SetTurnsSaid : Prop := setTurnsRow.holds Try.pinned (OpenSpec.ofChange setTurnsSpec)

/-- ITS FALSE NEIGHBOUR: 'it returns false'. Refute it at one input. -/
def setTurnsWrong : ChangeSpec := { name := "setTurns", fn := fun _ => fun
  | [d1, d2, d3] => { results := [.lit (.bool false)], args := [d1, d2, d3] }
  | _ => none }
def SetTurnsWrongFalsely : Prop := setTurnsRow.holds Try.pinned (OpenSpec.ofChange setTurnsWrong)

/-- 'arbourlaw03.SetMorgan': WHATEVER THE INPUT: true; the input reads as it did. -/
def setMorganSpec : ChangeSpec := { name := "setMorgan", fn := fun _ => fun
  | [d1, d2, d3] => { results := [.lit (.bool true)], args := [d1, d2, d3] }
  | _ => none }
def setMorganRow : OpenClaim := { program := "ytoojpeidgdadgaa", sum := "599c07c86ebc3212ff470a65641aeef0d395dc40ce720caeef022db752a404c7", func := "arbour/arbourlaw03.SetMorgan", spec := "setMorgan", unfollowed := true, recurses := true, apart := false }
def SetMorganSaid : Prop := setMorganRow.holds Try.pinned (OpenSpec.ofChange setMorganSpec)

/-- ITS FALSE NEIGHBOUR: 'it returns false'. Refute it at one input. -/
def setMorganWrong : ChangeSpec := { name := "setMorgan", fn := fun _ => fun
  | [d1, d2, d3] => { results := [.lit (.bool false)], args := [d1, d2, d3] }
  | _ => none }
def SetMorganWrongFalsely : Prop := setMorganRow.holds Try.pinned (OpenSpec.ofChange setMorganWrong)

/-- 'arbourlaw03.SetEnds': WHATEVER THE INPUT: true; the input reads as it did. -/
def setEndsSpec : ChangeSpec := { name := "setEnds", fn := fun _ => fun
  | [d1, d2] => { results := [.lit (.bool true)], args := [d1, d2] }
  | _ => none }
def setEndsRow : OpenClaim := { program := "ytoojpeidgdadgaa", sum := "599c07c86ebc3212ff470a65641aeef0d395dc40ce720caeef022db752a404c7", func := "arbour/arbourlaw03.SetEnds", spec := "setEnds", unfollowed := true, recurses := true, apart := false }
def SetEndsSaid : Prop := setEndsRow.holds Try.pinned (OpenSpec.ofChange setEndsSpec)

/-- ITS FALSE NEIGHBOUR: 'it returns false'. Refute it at one input. -/
def setEndsWrong : ChangeSpec := { name := "setEnds", fn := fun _ => fun
  | [d1, d2] => { results := [.lit (.bool false)], args := [d1, d2] }
  | _ => none }
def SetEndsWrongFalsely : Prop := setEndsRow.holds Try.pinned (OpenSpec.ofChange setEndsWrong)

/-- 'arbourlaw03.SetIn': WHATEVER THE INPUT: true; the input reads as it did. -/
def setInSpec : ChangeSpec := { name := "setIn", fn := fun _ => fun
  | [d1, d2] => { results := [.lit (.bool true)], args := [d1, d2] }
  | _ => none }
def setInRow : OpenClaim := { program := "ytoojpeidgdadgaa", sum := "599c07c86ebc3212ff470a65641aeef0d395dc40ce720caeef022db752a404c7", func := "arbour/arbourlaw03.SetIn", spec := "setIn", unfollowed := true, recurses := true, apart := false }
def SetInSaid : Prop := setInRow.holds Try.pinned (OpenSpec.ofChange setInSpec)

/-- ITS FALSE NEIGHBOUR: 'it returns false'. Refute it at one input. -/
def setInWrong : ChangeSpec := { name := "setIn", fn := fun _ => fun
  | [d1, d2] => { results := [.lit (.bool false)], args := [d1, d2] }
  | _ => none }
def SetInWrongFalsely : Prop := setInRow.holds Try.pinned (OpenSpec.ofChange setInWrong)

/-- 'arbourlaw04.BoxAnd': WHATEVER THE INPUT: true; the input reads as it did. -/
def boxAndSpec : ChangeSpec := { name := "boxAnd", fn := fun _ => fun
  | [d1, d2, d3] => { results := [.lit (.bool true)], args := [d1, d2, d3] }
  | _ => none }
def boxAndRow : OpenClaim := { program := "ytoojpeidgdadgaa", sum := "599c07c86ebc3212ff470a65641aeef0d395dc40ce720caeef022db752a404c7", func := "arbour/arbourlaw04.BoxAnd", spec := "boxAnd", unfollowed := true, recurses := true, apart := false }
def BoxAndSaid : Prop := boxAndRow.holds Try.pinned (OpenSpec.ofChange boxAndSpec)

/-- ITS FALSE NEIGHBOUR: 'it returns false'. Refute it at one input. -/
def boxAndWrong : ChangeSpec := { name := "boxAnd", fn := fun _ => fun
  | [d1, d2, d3] => { results := [.lit (.bool false)], args := [d1, d2, d3] }
  | _ => none }
def BoxAndWrongFalsely : Prop := boxAndRow.holds Try.pinned (OpenSpec.ofChange boxAndWrong)

/-- 'arbourlaw04.BoxJoins': WHATEVER THE INPUT: true; the input reads as it did. -/
def boxJoinsSpec : ChangeSpec := { name := "boxJoins", fn := fun _ => fun
  | [d1, d2, d3, d4] => { results := [.lit (.bool true)], args := [d1, d2, d3, d4] }
  | _ => none }
def boxJoinsRow : OpenClaim := { program := "ytoojpeidgdadgaa", sum := "599c07c86ebc3212ff470a65641aeef0d395dc40ce720caeef022db752a404c7", func := "arbour/arbourlaw04.BoxJoins", spec := "boxJoins", unfollowed := true, recurses := true, apart := false }
def BoxJoinsSaid : Prop := boxJoinsRow.holds Try.pinned (OpenSpec.ofChange boxJoinsSpec)

/-- ITS FALSE NEIGHBOUR: 'it returns false'. Refute it at one input. -/
def boxJoinsWrong : ChangeSpec := { name := "boxJoins", fn := fun _ => fun
  | [d1, d2, d3, d4] => { results := [.lit (.bool false)], args := [d1, d2, d3, d4] }
  | _ => none }
def BoxJoinsWrongFalsely : Prop := boxJoinsRow.holds Try.pinned (OpenSpec.ofChange boxJoinsWrong)

/-- 'arbourlaw04.BoxAtoms': WHATEVER THE INPUT: true; the input reads as it did. -/
def boxAtomsSpec : ChangeSpec := { name := "boxAtoms", fn := fun _ => fun
  | [d1, d2, d3] => { results := [.lit (.bool true)], args := [d1, d2, d3] }
  | _ => none }
def boxAtomsRow : OpenClaim := { program := "ytoojpeidgdadgaa", sum := "599c07c86ebc3212ff470a65641aeef0d395dc40ce720caeef022db752a404c7", func := "arbour/arbourlaw04.BoxAtoms", spec := "boxAtoms", unfollowed := true, recurses := true, apart := false }
def BoxAtomsSaid : Prop := boxAtomsRow.holds Try.pinned (OpenSpec.ofChange boxAtomsSpec)

/-- ITS FALSE NEIGHBOUR: 'it returns false'. Refute it at one input. -/
def boxAtomsWrong : ChangeSpec := { name := "boxAtoms", fn := fun _ => fun
  | [d1, d2, d3] => { results := [.lit (.bool false)], args := [d1, d2, d3] }
  | _ => none }
def BoxAtomsWrongFalsely : Prop := boxAtomsRow.holds Try.pinned (OpenSpec.ofChange boxAtomsWrong)

/-- 'arbourlaw04.BoxOrder': WHATEVER THE INPUT: true; the input reads as it did. -/
def boxOrderSpec : ChangeSpec := { name := "boxOrder", fn := fun _ => fun
  | [d1, d2, d3] => { results := [.lit (.bool true)], args := [d1, d2, d3] }
  | _ => none }
def boxOrderRow : OpenClaim := { program := "ytoojpeidgdadgaa", sum := "599c07c86ebc3212ff470a65641aeef0d395dc40ce720caeef022db752a404c7", func := "arbour/arbourlaw04.BoxOrder", spec := "boxOrder", unfollowed := true, recurses := true, apart := false }
def BoxOrderSaid : Prop := boxOrderRow.holds Try.pinned (OpenSpec.ofChange boxOrderSpec)

/-- ITS FALSE NEIGHBOUR: 'it returns false'. Refute it at one input. -/
def boxOrderWrong : ChangeSpec := { name := "boxOrder", fn := fun _ => fun
  | [d1, d2, d3] => { results := [.lit (.bool false)], args := [d1, d2, d3] }
  | _ => none }
def BoxOrderWrongFalsely : Prop := boxOrderRow.holds Try.pinned (OpenSpec.ofChange boxOrderWrong)

/- THE SECOND FORM. 'bulk': how many values and letters a reading holds, each counted each time it is reached (what is shared counts as often as it is met; a slice's spare places count too). A statement '..UptoSaid' is the law's where the arguments, and the package variables that the reading takes, are together of bulk at most 1048576: NARROWER than '..Said'. Prove '..Said' where nothing that the law and all that it calls make is longer than what came in: it says more and counts as full. Else prove '..UptoSaid'. A law counts once. -/
mutual
def uptoBulk {H : Type} : DataW H → Nat
  | .lit (.string bytes) => bytes.length + 1
  | .lit _ => 1
  | .nil => 1
  | .ptr d => uptoBulk d + 1
  | .slice elems spare => uptoBulkAll elems + uptoBulkAll spare + 1
  | .agg parts => uptoBulkAll parts + 1
  | .iface _ d => uptoBulk d + 1
  | .map entries => uptoBulkEntries entries + 1
  | .held _ => 1
def uptoBulkAll {H : Type} : List (DataW H) → Nat
  | [] => 0
  | d :: r => uptoBulk d + uptoBulkAll r
def uptoBulkEntries {H : Type} : List (Lit × DataW H) → Nat
  | [] => 0
  | x :: r => uptoBulkEntry x + uptoBulkEntries r
def uptoBulkEntry {H : Type} : Lit × DataW H → Nat
  | (.string bytes, d) => bytes.length + uptoBulk d + 1
  | (_, d) => uptoBulk d + 1
 end
def uptoSmall : (H : Type) → List (DataW H) → Bool := fun _ ds => decide (uptoBulkAll ds ≤ 1048576)
def OpenSpec.upto (s : _root_.Go.ChangeSpec) : _root_.Go.OpenSpec := { _root_.Go.OpenSpec.ofChange s with cond := some uptoSmall }

/-- 'arbourlaw03.SetTurns', WHERE WHAT IT READS IS OF BULK AT MOST 1048576: true; the input reads as it did. -/
def setTurnsUptoRow : OpenClaim := { program := "ytoojpeidgdadgaa", sum := "599c07c86ebc3212ff470a65641aeef0d395dc40ce720caeef022db752a404c7", func := "arbour/arbourlaw03.SetTurns", spec := "setTurns", unfollowed := true, recurses := true, apart := false, narrowed := true }
def SetTurnsUptoSaid : Prop := setTurnsUptoRow.holds Try.pinned (OpenSpec.upto setTurnsSpec)

/-- 'arbourlaw03.SetMorgan', WHERE WHAT IT READS IS OF BULK AT MOST 1048576: true; the input reads as it did. -/
def setMorganUptoRow : OpenClaim := { program := "ytoojpeidgdadgaa", sum := "599c07c86ebc3212ff470a65641aeef0d395dc40ce720caeef022db752a404c7", func := "arbour/arbourlaw03.SetMorgan", spec := "setMorgan", unfollowed := true, recurses := true, apart := false, narrowed := true }
def SetMorganUptoSaid : Prop := setMorganUptoRow.holds Try.pinned (OpenSpec.upto setMorganSpec)

/-- 'arbourlaw03.SetEnds', WHERE WHAT IT READS IS OF BULK AT MOST 1048576: true; the input reads as it did. -/
def setEndsUptoRow : OpenClaim := { program := "ytoojpeidgdadgaa", sum := "599c07c86ebc3212ff470a65641aeef0d395dc40ce720caeef022db752a404c7", func := "arbour/arbourlaw03.SetEnds", spec := "setEnds", unfollowed := true, recurses := true, apart := false, narrowed := true }
def SetEndsUptoSaid : Prop := setEndsUptoRow.holds Try.pinned (OpenSpec.upto setEndsSpec)

/-- 'arbourlaw03.SetIn', WHERE WHAT IT READS IS OF BULK AT MOST 1048576: true; the input reads as it did. -/
def setInUptoRow : OpenClaim := { program := "ytoojpeidgdadgaa", sum := "599c07c86ebc3212ff470a65641aeef0d395dc40ce720caeef022db752a404c7", func := "arbour/arbourlaw03.SetIn", spec := "setIn", unfollowed := true, recurses := true, apart := false, narrowed := true }
def SetInUptoSaid : Prop := setInUptoRow.holds Try.pinned (OpenSpec.upto setInSpec)

/-- 'arbourlaw04.BoxAnd', WHERE WHAT IT READS IS OF BULK AT MOST 1048576: true; the input reads as it did. -/
def boxAndUptoRow : OpenClaim := { program := "ytoojpeidgdadgaa", sum := "599c07c86ebc3212ff470a65641aeef0d395dc40ce720caeef022db752a404c7", func := "arbour/arbourlaw04.BoxAnd", spec := "boxAnd", unfollowed := true, recurses := true, apart := false, narrowed := true }
def BoxAndUptoSaid : Prop := boxAndUptoRow.holds Try.pinned (OpenSpec.upto boxAndSpec)

/-- 'arbourlaw04.BoxJoins', WHERE WHAT IT READS IS OF BULK AT MOST 1048576: true; the input reads as it did. -/
def boxJoinsUptoRow : OpenClaim := { program := "ytoojpeidgdadgaa", sum := "599c07c86ebc3212ff470a65641aeef0d395dc40ce720caeef022db752a404c7", func := "arbour/arbourlaw04.BoxJoins", spec := "boxJoins", unfollowed := true, recurses := true, apart := false, narrowed := true }
def BoxJoinsUptoSaid : Prop := boxJoinsUptoRow.holds Try.pinned (OpenSpec.upto boxJoinsSpec)

/-- 'arbourlaw04.BoxAtoms', WHERE WHAT IT READS IS OF BULK AT MOST 1048576: true; the input reads as it did. -/
def boxAtomsUptoRow : OpenClaim := { program := "ytoojpeidgdadgaa", sum := "599c07c86ebc3212ff470a65641aeef0d395dc40ce720caeef022db752a404c7", func := "arbour/arbourlaw04.BoxAtoms", spec := "boxAtoms", unfollowed := true, recurses := true, apart := false, narrowed := true }
def BoxAtomsUptoSaid : Prop := boxAtomsUptoRow.holds Try.pinned (OpenSpec.upto boxAtomsSpec)

/-- 'arbourlaw04.BoxOrder', WHERE WHAT IT READS IS OF BULK AT MOST 1048576: true; the input reads as it did. -/
def boxOrderUptoRow : OpenClaim := { program := "ytoojpeidgdadgaa", sum := "599c07c86ebc3212ff470a65641aeef0d395dc40ce720caeef022db752a404c7", func := "arbour/arbourlaw04.BoxOrder", spec := "boxOrder", unfollowed := true, recurses := true, apart := false, narrowed := true }
def BoxOrderUptoSaid : Prop := boxOrderUptoRow.holds Try.pinned (OpenSpec.upto boxOrderSpec)

end Rows
end Go.Proofs.Ytoojpeidgdadgaa
