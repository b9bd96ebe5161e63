/- A part of the proof; what is proved stands in the last text. -/
import Derived.Test.YtcclggbngikppaaGreatDoorCE
import Derived.Test.YtcclggbngikppaaGreatDoorTQ
import Derived.Test.YtcclggbngikppaaGreatDoorVm25
import Derived.Test.YtcclggbngikppaaGreatDoorRows
import Derived.Lib.LaidU8
import Derived.LaidOnce
set_option linter.unusedVariables false
set_option maxRecDepth 2000
namespace Go.Proofs
open Go.Vm Go.ChangeShapes Go.WideShapes Go.ChangeAt Go.RowKit
set_option linter.unusedSimpArgs false
theorem rd_sets {H : Type} {enc : TypeId × Value → H} {w : World} (fuel : Nat) : Rd enc Tryz.prog w fuel 22 (fun ds => ∃ l : List SetM, ds = [.sl none (l.map setC)] ∧ (∀ b ∈ l, ∀ r ∈ b.ints, InB r) ∧ l.length ≤ maxLen) :=
 rd_rows (by exact Tryz.underlying22) (by kernel_rfl : Tryz.prog.cellsOf 31 = 4) (by omega) fun n _ => rd_set n
theorem fb_laid {W : World} {l : List (String × DataW Unit)} (h : laidMet Tryz.prog l W) (hm : ("internal/strconv.uint64pow10", (Go.Proofs.YtcclggbngikppaaGreatDoor.Rows.laid_internal_strconv_uint64pow10 : DataW Unit)) ∈ l) : FB (Lie W) W := by
 obtain ⟨g, t, cs, fuel, p, hg, ht, hv, hd⟩ := Lib.laidMet.reads h hm
 obtain rfl := Option.some.inj ((show Tryz.prog.globalNamed "internal/strconv.uint64pow10" = some 0 by kernel_rfl).symm.trans hg)
 obtain rfl := Option.some.inj ((show (Tryz.prog.globals[0]?).map (·.type) = some 170 by kernel_rfl).symm.trans ht)
 have hz : (Go.Proofs.YtcclggbngikppaaGreatDoor.Rows.laid_internal_strconv_uint64pow10 : DataW Unit) = Lib.tabData .u64 Lib.pow10Tab := by kernel_rfl
 rw [hz] at hd
 have hc := Lib.cells_of_tab Tryz.underlying170 Tryz.underlying111 (by kernel_rfl) (by kernel_rfl) hd
 have hg0 : Tryz.prog.globalNamed "internal/strconv.uint64pow10" = some 0 := hg
 refine ⟨fun b k hb => hb, fun n vs hn i => ?_⟩
 obtain ⟨rfl, rfl⟩ : n = 0 ∧ vs = (List.range 20).map fun i => Value.int .u64 ((10 ^ i : Nat) : Int) := by
  have := List.mem_singleton.1 hn
  injection this with h1 h2
  exact ⟨h1, h2⟩
 have hcell := World.var?_cell hg0 hv
 have e0 : ((List.range 20).map fun i => Value.int .u64 ((10 ^ i : Nat) : Int)) = cs.toList := by
  rw [hc]; unfold Lib.pow10Tab; rw [List.map_map]; rfl
 refine ⟨?_, by rw [hcell, e0, Array.getElem?_toList]⟩
 have h0 := hcell 0
 have : cs[0]? = some (.int .u64 1) := by
  rw [← Array.getElem?_toList, ← e0]; rfl
 rw [this] at h0
 exact (cell_lies h0).1
end Go.Proofs
