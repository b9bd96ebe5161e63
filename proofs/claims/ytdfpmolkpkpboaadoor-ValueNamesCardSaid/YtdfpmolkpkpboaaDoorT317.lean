/- A part of the proof; what is proved stands in the last text. -/
import Derived.Test.YtdfpmolkpkpboaaDoorVLF
import Derived.Test.YtdfpmolkpkpboaaDoorVm25
import Derived.Test.YtdfpmolkpkpboaaDoorRows
import Derived.WalkKit
import Derived.ProofKit
import Derived.OpenShut
import Derived.ShutString
import Derived.ChangeOld
import Derived.SizedLaws
import Derived.Lib.LaidU8
import Derived.LaidOnce
import Derived.LaidLaws
set_option linter.unusedVariables false
set_option maxRecDepth 2000
namespace Go.Proofs
open Go.Vm Go.ChangeShapes Go.WideShapes Go.ChangeAt Go.RowKit
set_option linter.unusedSimpArgs false
theorem rd_str {H : Type} {enc : TypeId × Value → H} {w : World} (fuel : Nat) : Rd enc Tryd.prog w fuel 9 (fun ds => ∃ s : ByteArray, ds = [.val (.string s)] ∧ s.size ≤ maxLen) := Rd_string Tryd.underlying9
theorem err_laid {W : World} {l : List (String × DataW Unit)} (h : laidMet Tryd.prog l W) {nm : String} {g0 : Nat} {name : String} {d : DataW Unit} (hm : (nm, .iface name d) ∈ l)
    (hg0 : Tryd.prog.globalNamed nm = some g0) (ht0 : (Tryd.prog.globals[g0]?).map (·.type) = some 64) : Lie W g0 0 ∧ ∃ t x, W.cell? ⟨g0, 0, none⟩ = some (.iface t x) := by
 obtain ⟨g, t, cs, fuel, p, hg, ht, hv, hd⟩ := Lib.laidMet.reads h hm
 obtain rfl := Option.some.inj (hg0.symm.trans hg)
 obtain rfl := Option.some.inj (ht0.symm.trans ht)
 obtain ⟨_, u, v, hcs, _, _⟩ := iface_of_trod Tryd.underlying64 hd
 have hcell := World.var?_cell hg0 hv 0
 have h0 : cs[0]? = some (.iface u v) := by rw [← Array.getElem?_toList, hcs]; rfl
 rw [h0] at hcell
 exact ⟨(cell_lies hcell).1, u, v, hcell⟩
theorem fb_laid {W : World} {l : List (String × DataW Unit)} (h : laidMet Tryd.prog l W) (hm : ("internal/strconv.uint64pow10", (Go.Proofs.YtdfpmolkpkpboaaDoor.Rows.laid_internal_strconv_uint64pow10 : DataW Unit)) ∈ l)
    (hr : ("strconv.ErrRange", (Go.Proofs.YtdfpmolkpkpboaaDoor.Rows.laid_strconv_ErrRange : DataW Unit)) ∈ l) (hs : ("strconv.ErrSyntax", (Go.Proofs.YtdfpmolkpkpboaaDoor.Rows.laid_strconv_ErrSyntax : DataW Unit)) ∈ l) : FB (Lie W) W := by
 obtain ⟨g, t, cs, fuel, p, hg, ht, hv, hd⟩ := Lib.laidMet.reads h hm
 obtain rfl := Option.some.inj ((show Tryd.prog.globalNamed "internal/strconv.uint64pow10" = some 3 by kernel_rfl).symm.trans hg)
 obtain rfl := Option.some.inj ((show (Tryd.prog.globals[3]?).map (·.type) = some 122 by kernel_rfl).symm.trans ht)
 have hz : (Go.Proofs.YtdfpmolkpkpboaaDoor.Rows.laid_internal_strconv_uint64pow10 : DataW Unit) = Lib.tabData .u64 Lib.pow10Tab := by kernel_rfl
 rw [hz] at hd
 have hc := Lib.cells_of_tab Tryd.underlying122 Tryd.underlying67 (by kernel_rfl) (by kernel_rfl) hd
 have hg0 : Tryd.prog.globalNamed "internal/strconv.uint64pow10" = some 3 := hg
 refine ⟨fun b k hb => hb, fun n vs hn i => ?_, fun n hn => ?_⟩
 ·obtain ⟨rfl, rfl⟩ : n = 3 ∧ vs = (List.range 20).map fun i => Value.int .u64 ((10 ^ i : Nat) : Int) := by
    have := List.mem_singleton.1 hn
    injection this with h1 h2
    exact ⟨h1, h2⟩
  have hcell := World.var?_cell hg0 hv
  have e0 : ((List.range 20).map fun i => Value.int .u64 ((10 ^ i : Nat) : Int)) = cs.toList := by
   rw [hc]; unfold Lib.pow10Tab; rw [List.map_map]; rfl
  refine ⟨?_, by rw [hcell, e0, Array.getElem?_toList]⟩
  have h0 := hcell 0
  have : cs[0]? = some (.int .u64 1) := by
   rw [← Array.getElem?_toList, ← e0]; rfl
  rw [this] at h0
  exact (cell_lies h0).1
 ·rcases List.mem_cons.1 hn with rfl | hn
  ·exact err_laid h hs (by kernel_rfl) (by kernel_rfl)
  ·obtain rfl := List.mem_singleton.1 hn
   exact err_laid h hr (by kernel_rfl) (by kernel_rfl)
end Go.Proofs
