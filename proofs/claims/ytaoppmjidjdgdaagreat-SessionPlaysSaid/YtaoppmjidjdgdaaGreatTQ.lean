/- A part of the proof; what is proved stands in the last text. -/
import Derived.Test.YtaoppmjidjdgdaaGreatTM
import Derived.Test.YtaoppmjidjdgdaaGreatVm25
import Derived.Test.YtaoppmjidjdgdaaGreatRows
import Derived.WalkKit
import Derived.ProofKit
import Derived.OpenShut
import Derived.ShutString
import Derived.ChangeOld
import Derived.SizedLaws
import Derived.Test.YtaoppmjidjdgdaaGreatT50
import Derived.Test.YtaoppmjidjdgdaaGreatTG
set_option linter.unusedVariables false
set_option maxRecDepth 2000
namespace Go.Proofs
open Go.Vm Go.ChangeShapes Go.WideShapes Go.ChangeAt Go.RowKit
set_option linter.unusedSimpArgs false
def InR (n : Int) : Prop := -9223372036854775808 ≤ n ∧ n ≤ 9223372036854775807
theorem wf_i64 {n : Int} (h : (Lit.int .i64 n).wf = true) : InR n := by
 have e1 : IntKind.i64.min = -9223372036854775808 := rfl
 have e2 : IntKind.i64.max = 9223372036854775807 := rfl
 simp [Lit.wf] at h
 exact ⟨by omega, by omega⟩
theorem rd_range {H : Type} {enc : TypeId × Value → H} {w : World} (fuel : Nat) : Rd enc Tryz.prog w fuel 89 (fun ds => ∃ r : Rg, ds = encR r ∧ InB r) := by
 refine (Rd_struct (As := [fun ds => ∃ n, ds = [.val (.int .i64 n)] ∧ (Lit.int .i64 n).wf = true, fun ds => ∃ n, ds = [.val (.int .i64 n)] ∧ (Lit.int .i64 n).wf = true]) Tryz.underlying89 (by kernel_rfl) (fun n _ => ⟨Rd_int Tryz.underlying3, Rd_int Tryz.underlying3, trivial⟩)).mono ?_
 rintro ds ⟨a, b, rfl, ⟨lo, rfl, h1⟩, c, d, rfl, ⟨hi, rfl, h2⟩, rfl⟩
 exact ⟨(lo, hi), rfl, wf_i64 h1, wf_i64 h2⟩
theorem rd_rows {H : Type} {enc : TypeId × Value → H} {w : World} {α : Type} {f : α → List D} {p : α → Prop} {t e : TypeId} {sz fuel : Nat} (ht : Tryz.prog.underlying t = some (.slice e)) (hz : Tryz.prog.cellsOf e = sz) (h0 : 0 < sz)
    (h : ∀ n, n < fuel → Rd enc Tryz.prog w n e (fun ds => ∃ x, ds = f x ∧ p x)) : Rd enc Tryz.prog w fuel t (fun ds => ∃ l : List α, ds = [.sl none (l.map f)] ∧ (∀ x ∈ l, p x) ∧ l.length ≤ maxLen) := by
 refine (Rd_slice ht hz h0 h).mono ?_
 rintro ds ⟨es, rfl, hl, hes⟩
 suffices ∃ l : List α, es = l.map f ∧ ∀ x ∈ l, p x by
  obtain ⟨l, rfl, h⟩ := this
  exact ⟨l, rfl, h, by simpa using hl⟩
 clear hl
 induction es with
 | nil => exact ⟨[], rfl, by simp⟩
 | cons e es ih =>
  obtain ⟨l, rfl, hl⟩ := ih (fun x hx => hes x (by simp [hx]))
  obtain ⟨-, r, rfl, hr⟩ := hes e (by simp)
  refine ⟨r :: l, rfl, fun x hx => ?_⟩
  rcases List.mem_cons.1 hx with rfl | hx
  ·exact hr
  ·exact hl x hx
theorem rd_ranges {H : Type} {enc : TypeId × Value → H} {w : World} (fuel : Nat) : Rd enc Tryz.prog w fuel 60 (fun ds => ∃ l : List Rg, ds = [.sl none (l.map encR)] ∧ (∀ r ∈ l, InB r) ∧ l.length ≤ maxLen) :=
 rd_rows (by exact Tryz.underlying60) (by kernel_rfl : Tryz.prog.cellsOf 89 = 2) (by omega) fun n _ => rd_range n
theorem rd_string {H : Type} {enc : TypeId × Value → H} {w : World} (fuel : Nat) : Rd enc Tryz.prog w fuel 9 (fun ds => ∃ s : ByteArray, ds = encSt s ∧ s.size ≤ maxLen) := Rd_string Tryz.underlying9
theorem rd_strings {H : Type} {enc : TypeId × Value → H} {w : World} (fuel : Nat) : Rd enc Tryz.prog w fuel 61 (fun ds => ∃ l : List ByteArray, ds = [.sl none (l.map encSt)] ∧ (∀ s ∈ l, s.size ≤ maxLen) ∧ l.length ≤ maxLen) :=
 rd_rows (by exact Tryz.underlying61) (by kernel_rfl : Tryz.prog.cellsOf 9 = 1) (by omega) fun n _ => rd_string n
theorem rd_set {H : Type} {enc : TypeId × Value → H} {w : World} (fuel : Nat) : Rd enc Tryz.prog w fuel 63 (fun ds => ∃ s : SetM, ds = setC s ∧ ∀ r ∈ s.ints, InB r) := by
 refine (Rd_struct (As := [fun ds => ∃ b, ds = [.val (.bool b)], fun ds => ∃ l : List Rg, ds = [.sl none (l.map encR)] ∧ (∀ r ∈ l, InB r) ∧ l.length ≤ maxLen, fun ds => ∃ b, ds = [.val (.bool b)], fun ds => ∃ l : List ByteArray, ds = [.sl none (l.map encSt)] ∧ (∀ s ∈ l, s.size ≤ maxLen) ∧ l.length ≤ maxLen])
  Tryz.underlying63 (by kernel_rfl) (fun n _ => ⟨Rd_bool Tryz.underlying4, rd_ranges n, Rd_bool Tryz.underlying4, rd_strings n, trivial⟩)).mono ?_
 rintro ds ⟨a, b, rfl, ⟨x, rfl⟩, c, d, rfl, ⟨l, rfl, h1, -⟩, e, f, rfl, ⟨y, rfl⟩, g, h, rfl, ⟨m, rfl, -, -⟩, rfl⟩
 exact ⟨⟨x, l, y, m⟩, rfl, h1⟩
theorem rd_value {H : Type} {enc : TypeId × Value → H} {w : World} (fuel : Nat) : Rd enc Tryz.prog w fuel 31 (fun ds => ∃ v : ValM, ds = valC v ∧ InR v.n ∧ InR v.kind ∧ v.s.size ≤ maxLen) := by
 refine (Rd_struct (As := [fun ds => ∃ n, ds = [.val (.int .i64 n)] ∧ (Lit.int .i64 n).wf = true, fun ds => ∃ n, ds = [.val (.int .i64 n)] ∧ (Lit.int .i64 n).wf = true, fun ds => ∃ s : ByteArray, ds = encSt s ∧ s.size ≤ maxLen])
  Tryz.underlying31 (by kernel_rfl) (fun n _ => ⟨Rd_int Tryz.underlying3, Rd_int Tryz.underlying3, rd_string n, trivial⟩)).mono ?_
 rintro ds ⟨a, b, rfl, ⟨x, rfl, h1⟩, c, d, rfl, ⟨y, rfl, h2⟩, e, f, rfl, ⟨z, rfl, h3⟩, rfl⟩
 exact ⟨⟨x, y, z⟩, rfl, wf_i64 h2, wf_i64 h1, h3⟩
end Go.Proofs

namespace Go.Proofs
open Go.Vm Go.ChangeShapes Go.WideShapes Go.ChangeAt Go.RowKit
set_option linter.unusedSimpArgs false
theorem rd_int {H : Type} {enc : TypeId × Value → H} {w : World} (fuel : Nat) : Rd enc Tryz.prog w fuel 3 (fun ds => ∃ n : Int, ds = [.val (.int .i64 n)] ∧ InR n) :=
 (Rd_int Tryz.underlying3).mono fun _ ⟨n, h, hw⟩ => ⟨n, h, wf_i64 hw⟩
theorem rd_box {H : Type} {enc : TypeId × Value → H} {w : World} (fuel : Nat) : Rd enc Tryz.prog w fuel 65 (fun ds => ∃ b : BoxM, ds = boxC b ∧ ∀ i, i < 4 → ∀ r ∈ (b.at i).ints, InB r) := by
 refine (Rd_array (n := 4) (sz := 4) Tryz.underlying65 (by kernel_rfl) (by kernel_rfl) (fun m _ => rd_set m)).mono ?_
 rintro ds ⟨ls, rfl, hl, hA⟩
 match ls, hl, hA with
 | [a, b, c, d], _, hA =>
  obtain ⟨a, rfl, ha⟩ := hA a (by simp)
  obtain ⟨b, rfl, hb⟩ := hA b (by simp)
  obtain ⟨c, rfl, hc⟩ := hA c (by simp)
  obtain ⟨d, rfl, hd⟩ := hA d (by simp)
  refine ⟨⟨a, b, c, d⟩, rfl, fun i hi => ?_⟩
  have : i = 0 ∨ i = 1 ∨ i = 2 ∨ i = 3 := by omega
  rcases this with rfl | rfl | rfl | rfl
  ·exact ha
  ·exact hb
  ·exact hc
  ·exact hd
theorem rd_event {H : Type} {enc : TypeId × Value → H} {w : World} (fuel : Nat) : Rd enc Tryz.prog w fuel 33 (fun ds => ∃ e : EvM, ds = evC e ∧ ∀ i, i < 4 → InR (e.at i).n) := by
 refine (Rd_array (n := 4) (sz := 3) Tryz.underlying33 (by kernel_rfl) (by kernel_rfl) (fun m _ => rd_value m)).mono ?_
 rintro ds ⟨ls, rfl, hl, hA⟩
 match ls, hl, hA with
 | [a, b, c, d], _, hA =>
  obtain ⟨a, rfl, ha, -⟩ := hA a (by simp)
  obtain ⟨b, rfl, hb, -⟩ := hA b (by simp)
  obtain ⟨c, rfl, hc, -⟩ := hA c (by simp)
  obtain ⟨d, rfl, hd, -⟩ := hA d (by simp)
  refine ⟨⟨a, b, c, d⟩, rfl, fun i hi => ?_⟩
  have : i = 0 ∨ i = 1 ∨ i = 2 ∨ i = 3 := by omega
  rcases this with rfl | rfl | rfl | rfl
  ·exact ha
  ·exact hb
  ·exact hc
  ·exact hd
end Go.Proofs

namespace Go.Proofs
open Go.Vm Go.ChangeShapes Go.WideShapes Go.ChangeAt Go.RowKit
set_option linter.unusedSimpArgs false
end Go.Proofs
