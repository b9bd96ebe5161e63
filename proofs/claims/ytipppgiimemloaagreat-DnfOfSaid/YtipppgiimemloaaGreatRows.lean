/-
  NARROWER THAN 'FOR EVERY INPUT', by the rows' own cells (each row's printed sentence says how): DnfOf: loops · DnfHas: loops · DnfOrs: loops · DnfNot: loops.
  DERIVED. THE GIVEN ROWS OF THIS SEAT. 9 by the template 'for every input the law returns true; each argument reads behind the call as it read before'; 0 by the template 'total and deterministic' (their statements: YtipppgiimemloaaGreatTotals.lean).
  GIVEN WITH THE SEED: the statements are not yours to turn. If you find one false, say at which input.
  Laid BY PROGRAM, IN A SANDBOX (cutbox-rows.mjs): the forced cells as the released guide's own fill.sh prints them over the translation f21897f9997cf9e3… (all of the seat's roots in one cut). By AI agents, Wed Nov 11 2026. No macro, syntax, notation, axiom, sorry.
-/
import Derived.Test.YtipppgiimemloaaGreatChecked
import GoSem.Claim
import GoSem.ClaimJoined
import GoSem.ClaimMapViews
import Derived.JoinedTies
import Derived.KernelRfl
namespace Go.Proofs.YtipppgiimemloaaGreat
/- THE CELL 'sum', in the pinned program and in every row, IS THE sha256 OF THE DUMP (.gsa) THAT YtipppgiimemloaaGreatProg.lean LOADS. Nothing in Lean hashes anything: it is a label: what it is worth is what the hold of that sum in a sandbox is worth. -/
noncomputable def Tryz.pinned : Pinned := { name := "ytipppgiimemloaagreat", sum := "f21897f9997cf9e3c5701002d86c10f3185a7129d2d9e9125f66eb5703d85c53", checked := Tryz.checked }
namespace Rows
def none {H : Type} : Left H := { results := [], args := [] }

/-- 'arbourlaw06.DnfOf': WHATEVER THE INPUT: true; the input reads as it did. -/
def dnfOfSpec : ChangeSpec := { name := "dnfOf", fn := fun _ => fun
  | [d] => { results := [.lit (.bool true)], args := [d] }
  | _ => none }
def dnfOfRow : OpenClaim := { program := "ytipppgiimemloaagreat", sum := "f21897f9997cf9e3c5701002d86c10f3185a7129d2d9e9125f66eb5703d85c53", func := "arbour/arbourlaw06.DnfOf", spec := "dnfOf", unfollowed := true, recurses := true, loops := true, apart := false }
def DnfOfSaid : Prop := dnfOfRow.holds Tryz.pinned (OpenSpec.ofChange dnfOfSpec)

/-- ITS FALSE NEIGHBOUR: 'it returns false'. Refute it at one input. -/
def dnfOfWrong : ChangeSpec := { name := "dnfOf", fn := fun _ => fun
  | [d] => { results := [.lit (.bool false)], args := [d] }
  | _ => none }
def DnfOfWrongFalsely : Prop := dnfOfRow.holds Tryz.pinned (OpenSpec.ofChange dnfOfWrong)

/-- 'arbourlaw06.DnfHas': WHATEVER THE INPUT: true; the input reads as it did. -/
def dnfHasSpec : ChangeSpec := { name := "dnfHas", fn := fun _ => fun
  | [d1, d2] => { results := [.lit (.bool true)], args := [d1, d2] }
  | _ => none }
def dnfHasRow : OpenClaim := { program := "ytipppgiimemloaagreat", sum := "f21897f9997cf9e3c5701002d86c10f3185a7129d2d9e9125f66eb5703d85c53", func := "arbour/arbourlaw06.DnfHas", spec := "dnfHas", unfollowed := true, recurses := true, loops := true, apart := false }
def DnfHasSaid : Prop := dnfHasRow.holds Tryz.pinned (OpenSpec.ofChange dnfHasSpec)

/-- ITS FALSE NEIGHBOUR: 'it returns false'. Refute it at one input. -/
def dnfHasWrong : ChangeSpec := { name := "dnfHas", fn := fun _ => fun
  | [d1, d2] => { results := [.lit (.bool false)], args := [d1, d2] }
  | _ => none }
def DnfHasWrongFalsely : Prop := dnfHasRow.holds Tryz.pinned (OpenSpec.ofChange dnfHasWrong)

/-- 'arbourlaw06.DnfOrs': WHATEVER THE INPUT: true; the input reads as it did. -/
def dnfOrsSpec : ChangeSpec := { name := "dnfOrs", fn := fun _ => fun
  | [d1, d2, d3] => { results := [.lit (.bool true)], args := [d1, d2, d3] }
  | _ => none }
def dnfOrsRow : OpenClaim := { program := "ytipppgiimemloaagreat", sum := "f21897f9997cf9e3c5701002d86c10f3185a7129d2d9e9125f66eb5703d85c53", func := "arbour/arbourlaw06.DnfOrs", spec := "dnfOrs", unfollowed := true, recurses := true, loops := true, apart := false }
def DnfOrsSaid : Prop := dnfOrsRow.holds Tryz.pinned (OpenSpec.ofChange dnfOrsSpec)

/-- ITS FALSE NEIGHBOUR: 'it returns false'. Refute it at one input. -/
def dnfOrsWrong : ChangeSpec := { name := "dnfOrs", fn := fun _ => fun
  | [d1, d2, d3] => { results := [.lit (.bool false)], args := [d1, d2, d3] }
  | _ => none }
def DnfOrsWrongFalsely : Prop := dnfOrsRow.holds Tryz.pinned (OpenSpec.ofChange dnfOrsWrong)

/-- 'arbourlaw06.DnfBox': WHATEVER THE INPUT: true; the input reads as it did. -/
def dnfBoxSpec : ChangeSpec := { name := "dnfBox", fn := fun _ => fun
  | [d1, d2] => { results := [.lit (.bool true)], args := [d1, d2] }
  | _ => none }
def dnfBoxRow : OpenClaim := { program := "ytipppgiimemloaagreat", sum := "f21897f9997cf9e3c5701002d86c10f3185a7129d2d9e9125f66eb5703d85c53", func := "arbour/arbourlaw06.DnfBox", spec := "dnfBox", unfollowed := true, recurses := true, apart := false }
def DnfBoxSaid : Prop := dnfBoxRow.holds Tryz.pinned (OpenSpec.ofChange dnfBoxSpec)

/-- ITS FALSE NEIGHBOUR: 'it returns false'. Refute it at one input. -/
def dnfBoxWrong : ChangeSpec := { name := "dnfBox", fn := fun _ => fun
  | [d1, d2] => { results := [.lit (.bool false)], args := [d1, d2] }
  | _ => none }
def DnfBoxWrongFalsely : Prop := dnfBoxRow.holds Tryz.pinned (OpenSpec.ofChange dnfBoxWrong)

/-- 'arbourlaw06.DnfNot': WHATEVER THE INPUT: true; the input reads as it did. -/
def dnfNotSpec : ChangeSpec := { name := "dnfNot", fn := fun _ => fun
  | [d1, d2] => { results := [.lit (.bool true)], args := [d1, d2] }
  | _ => none }
def dnfNotRow : OpenClaim := { program := "ytipppgiimemloaagreat", sum := "f21897f9997cf9e3c5701002d86c10f3185a7129d2d9e9125f66eb5703d85c53", func := "arbour/arbourlaw06.DnfNot", spec := "dnfNot", unfollowed := true, recurses := true, loops := true, apart := false }
def DnfNotSaid : Prop := dnfNotRow.holds Tryz.pinned (OpenSpec.ofChange dnfNotSpec)

/-- ITS FALSE NEIGHBOUR: 'it returns false'. Refute it at one input. -/
def dnfNotWrong : ChangeSpec := { name := "dnfNot", fn := fun _ => fun
  | [d1, d2] => { results := [.lit (.bool false)], args := [d1, d2] }
  | _ => none }
def DnfNotWrongFalsely : Prop := dnfNotRow.holds Tryz.pinned (OpenSpec.ofChange dnfNotWrong)

/-- 'arbourlaw08.WireFilters': WHATEVER THE INPUT: true; the input reads as it did. -/
def wireFiltersSpec : ChangeSpec := { name := "wireFilters", fn := fun _ => fun
  | [d] => { results := [.lit (.bool true)], args := [d] }
  | _ => none }
def wireFiltersRow : OpenClaim := { program := "ytipppgiimemloaagreat", sum := "f21897f9997cf9e3c5701002d86c10f3185a7129d2d9e9125f66eb5703d85c53", func := "arbour/arbourlaw08.WireFilters", spec := "wireFilters", inPlace := ["internal/abi.NoEscape"], unfollowed := true, recurses := true, apart := false }
def WireFiltersSaid : Prop := wireFiltersRow.holds Tryz.pinned (OpenSpec.ofChange wireFiltersSpec)

/-- ITS FALSE NEIGHBOUR: 'it returns false'. Refute it at one input. -/
def wireFiltersWrong : ChangeSpec := { name := "wireFilters", fn := fun _ => fun
  | [d] => { results := [.lit (.bool false)], args := [d] }
  | _ => none }
def WireFiltersWrongFalsely : Prop := wireFiltersRow.holds Tryz.pinned (OpenSpec.ofChange wireFiltersWrong)

/-- 'arbourlaw08.WireReads': WHATEVER THE INPUT: true; the input reads as it did. -/
def wireReadsSpec : ChangeSpec := { name := "wireReads", fn := fun _ => fun
  | [d] => { results := [.lit (.bool true)], args := [d] }
  | _ => none }
def wireReadsRow : OpenClaim := { program := "ytipppgiimemloaagreat", sum := "f21897f9997cf9e3c5701002d86c10f3185a7129d2d9e9125f66eb5703d85c53", func := "arbour/arbourlaw08.WireReads", spec := "wireReads", inPlace := ["internal/abi.NoEscape"], unfollowed := true, recurses := true, apart := false }
def WireReadsSaid : Prop := wireReadsRow.holds Tryz.pinned (OpenSpec.ofChange wireReadsSpec)

/-- ITS FALSE NEIGHBOUR: 'it returns false'. Refute it at one input. -/
def wireReadsWrong : ChangeSpec := { name := "wireReads", fn := fun _ => fun
  | [d] => { results := [.lit (.bool false)], args := [d] }
  | _ => none }
def WireReadsWrongFalsely : Prop := wireReadsRow.holds Tryz.pinned (OpenSpec.ofChange wireReadsWrong)

/-- 'arbourlaw08.WireEvents': WHATEVER THE INPUT: true; the input reads as it did. -/
def wireEventsSpec : ChangeSpec := { name := "wireEvents", fn := fun _ => fun
  | [d] => { results := [.lit (.bool true)], args := [d] }
  | _ => none }
def wireEventsRow : OpenClaim := { program := "ytipppgiimemloaagreat", sum := "f21897f9997cf9e3c5701002d86c10f3185a7129d2d9e9125f66eb5703d85c53", func := "arbour/arbourlaw08.WireEvents", spec := "wireEvents", inPlace := ["internal/abi.NoEscape"], unfollowed := true, recurses := true, apart := false }
def WireEventsSaid : Prop := wireEventsRow.holds Tryz.pinned (OpenSpec.ofChange wireEventsSpec)

/-- ITS FALSE NEIGHBOUR: 'it returns false'. Refute it at one input. -/
def wireEventsWrong : ChangeSpec := { name := "wireEvents", fn := fun _ => fun
  | [d] => { results := [.lit (.bool false)], args := [d] }
  | _ => none }
def WireEventsWrongFalsely : Prop := wireEventsRow.holds Tryz.pinned (OpenSpec.ofChange wireEventsWrong)

/-- 'arbourlaw08.WireOne': WHATEVER THE INPUT: true; the input reads as it did. -/
def wireOneSpec : ChangeSpec := { name := "wireOne", fn := fun _ => fun
  | [d1, d2, d3, d4] => { results := [.lit (.bool true)], args := [d1, d2, d3, d4] }
  | _ => none }
def wireOneRow : OpenClaim := { program := "ytipppgiimemloaagreat", sum := "f21897f9997cf9e3c5701002d86c10f3185a7129d2d9e9125f66eb5703d85c53", func := "arbour/arbourlaw08.WireOne", spec := "wireOne", inPlace := ["internal/abi.NoEscape"], unfollowed := true, recurses := true, apart := false }
def WireOneSaid : Prop := wireOneRow.holds Tryz.pinned (OpenSpec.ofChange wireOneSpec)

/-- ITS FALSE NEIGHBOUR: 'it returns false'. Refute it at one input. -/
def wireOneWrong : ChangeSpec := { name := "wireOne", fn := fun _ => fun
  | [d1, d2, d3, d4] => { results := [.lit (.bool false)], args := [d1, d2, d3, d4] }
  | _ => none }
def WireOneWrongFalsely : Prop := wireOneRow.holds Tryz.pinned (OpenSpec.ofChange wireOneWrong)

/- THE SECOND FORM. 'bulk': how many values and letters a reading holds, each counted each time it is reached (what is shared counts as often as it is met; a slice's spare places count too). A statement '..UptoSaid' is the law's where the arguments, and the package variables that the reading takes, are together of bulk at most 1048576: NARROWER than '..Said'. Prove '..Said' where nothing that the law and all that it calls make is longer than what came in: it says more and counts as full. Else prove '..UptoSaid'. A law counts once. -/
mutual
def uptoBulk {H : Type} : DataW H → Nat
  | .lit (.string bytes) => bytes.length + 1
  | .lit _ => 1
  | .nil => 1
  | .ptr d => uptoBulk d + 1
  | .slice elems spare => uptoBulkAll elems + uptoBulkAll spare + 1
  | .agg parts => uptoBulkAll parts + 1
  | .iface _ d => uptoBulk d + 1
  | .map entries => uptoBulkEntries entries + 1
  | .held _ => 1
def uptoBulkAll {H : Type} : List (DataW H) → Nat
  | [] => 0
  | d :: r => uptoBulk d + uptoBulkAll r
def uptoBulkEntries {H : Type} : List (Lit × DataW H) → Nat
  | [] => 0
  | x :: r => uptoBulkEntry x + uptoBulkEntries r
def uptoBulkEntry {H : Type} : Lit × DataW H → Nat
  | (.string bytes, d) => bytes.length + uptoBulk d + 1
  | (_, d) => uptoBulk d + 1
 end
def uptoSmall : (H : Type) → List (DataW H) → Bool := fun _ ds => decide (uptoBulkAll ds ≤ 1048576)
def OpenSpec.upto (s : _root_.Go.ChangeSpec) : _root_.Go.OpenSpec := { _root_.Go.OpenSpec.ofChange s with cond := some uptoSmall }

/-- 'arbourlaw06.DnfOf', WHERE WHAT IT READS IS OF BULK AT MOST 1048576: true; the input reads as it did. -/
def dnfOfUptoRow : OpenClaim := { program := "ytipppgiimemloaagreat", sum := "f21897f9997cf9e3c5701002d86c10f3185a7129d2d9e9125f66eb5703d85c53", func := "arbour/arbourlaw06.DnfOf", spec := "dnfOf", unfollowed := true, recurses := true, loops := true, apart := false, narrowed := true }
def DnfOfUptoSaid : Prop := dnfOfUptoRow.holds Tryz.pinned (OpenSpec.upto dnfOfSpec)

/-- 'arbourlaw06.DnfHas', WHERE WHAT IT READS IS OF BULK AT MOST 1048576: true; the input reads as it did. -/
def dnfHasUptoRow : OpenClaim := { program := "ytipppgiimemloaagreat", sum := "f21897f9997cf9e3c5701002d86c10f3185a7129d2d9e9125f66eb5703d85c53", func := "arbour/arbourlaw06.DnfHas", spec := "dnfHas", unfollowed := true, recurses := true, loops := true, apart := false, narrowed := true }
def DnfHasUptoSaid : Prop := dnfHasUptoRow.holds Tryz.pinned (OpenSpec.upto dnfHasSpec)

/-- 'arbourlaw06.DnfOrs', WHERE WHAT IT READS IS OF BULK AT MOST 1048576: true; the input reads as it did. -/
def dnfOrsUptoRow : OpenClaim := { program := "ytipppgiimemloaagreat", sum := "f21897f9997cf9e3c5701002d86c10f3185a7129d2d9e9125f66eb5703d85c53", func := "arbour/arbourlaw06.DnfOrs", spec := "dnfOrs", unfollowed := true, recurses := true, loops := true, apart := false, narrowed := true }
def DnfOrsUptoSaid : Prop := dnfOrsUptoRow.holds Tryz.pinned (OpenSpec.upto dnfOrsSpec)

/-- 'arbourlaw06.DnfBox', WHERE WHAT IT READS IS OF BULK AT MOST 1048576: true; the input reads as it did. -/
def dnfBoxUptoRow : OpenClaim := { program := "ytipppgiimemloaagreat", sum := "f21897f9997cf9e3c5701002d86c10f3185a7129d2d9e9125f66eb5703d85c53", func := "arbour/arbourlaw06.DnfBox", spec := "dnfBox", unfollowed := true, recurses := true, apart := false, narrowed := true }
def DnfBoxUptoSaid : Prop := dnfBoxUptoRow.holds Tryz.pinned (OpenSpec.upto dnfBoxSpec)

/-- 'arbourlaw06.DnfNot', WHERE WHAT IT READS IS OF BULK AT MOST 1048576: true; the input reads as it did. -/
def dnfNotUptoRow : OpenClaim := { program := "ytipppgiimemloaagreat", sum := "f21897f9997cf9e3c5701002d86c10f3185a7129d2d9e9125f66eb5703d85c53", func := "arbour/arbourlaw06.DnfNot", spec := "dnfNot", unfollowed := true, recurses := true, loops := true, apart := false, narrowed := true }
def DnfNotUptoSaid : Prop := dnfNotUptoRow.holds Tryz.pinned (OpenSpec.upto dnfNotSpec)

/-- 'arbourlaw08.WireFilters', WHERE WHAT IT READS IS OF BULK AT MOST 1048576: true; the input reads as it did. -/
def wireFiltersUptoRow : OpenClaim := { program := "ytipppgiimemloaagreat", sum := "f21897f9997cf9e3c5701002d86c10f3185a7129d2d9e9125f66eb5703d85c53", func := "arbour/arbourlaw08.WireFilters", spec := "wireFilters", inPlace := ["internal/abi.NoEscape"], unfollowed := true, recurses := true, apart := false, narrowed := true }
def WireFiltersUptoSaid : Prop := wireFiltersUptoRow.holds Tryz.pinned (OpenSpec.upto wireFiltersSpec)

/-- 'arbourlaw08.WireReads', WHERE WHAT IT READS IS OF BULK AT MOST 1048576: true; the input reads as it did. -/
def wireReadsUptoRow : OpenClaim := { program := "ytipppgiimemloaagreat", sum := "f21897f9997cf9e3c5701002d86c10f3185a7129d2d9e9125f66eb5703d85c53", func := "arbour/arbourlaw08.WireReads", spec := "wireReads", inPlace := ["internal/abi.NoEscape"], unfollowed := true, recurses := true, apart := false, narrowed := true }
def WireReadsUptoSaid : Prop := wireReadsUptoRow.holds Tryz.pinned (OpenSpec.upto wireReadsSpec)

/-- 'arbourlaw08.WireEvents', WHERE WHAT IT READS IS OF BULK AT MOST 1048576: true; the input reads as it did. -/
def wireEventsUptoRow : OpenClaim := { program := "ytipppgiimemloaagreat", sum := "f21897f9997cf9e3c5701002d86c10f3185a7129d2d9e9125f66eb5703d85c53", func := "arbour/arbourlaw08.WireEvents", spec := "wireEvents", inPlace := ["internal/abi.NoEscape"], unfollowed := true, recurses := true, apart := false, narrowed := true }
def WireEventsUptoSaid : Prop := wireEventsUptoRow.holds Tryz.pinned (OpenSpec.upto wireEventsSpec)

/-- 'arbourlaw08.WireOne', WHERE WHAT IT READS IS OF BULK AT MOST 1048576: true; the input reads as it did. -/
def wireOneUptoRow : OpenClaim := { program := "ytipppgiimemloaagreat", sum := "f21897f9997cf9e3c5701002d86c10f3185a7129d2d9e9125f66eb5703d85c53", func := "arbour/arbourlaw08.WireOne", spec := "wireOne", inPlace := ["internal/abi.NoEscape"], unfollowed := true, recurses := true, apart := false, narrowed := true }
def WireOneUptoSaid : Prop := wireOneUptoRow.holds Tryz.pinned (OpenSpec.upto wireOneSpec)

end Rows
end Go.Proofs.YtipppgiimemloaaGreat
