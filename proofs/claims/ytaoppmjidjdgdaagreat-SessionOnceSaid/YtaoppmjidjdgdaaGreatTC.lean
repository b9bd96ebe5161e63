/- A part of the proof; what is proved stands in the last text. -/
import Derived.Test.YtaoppmjidjdgdaaGreatTN
set_option linter.unusedVariables false
set_option maxRecDepth 2000
namespace Go.Proofs
open Go.Vm
set_option linter.unusedSimpArgs false
def ltB (a b : ByteArray) : Prop := bl a < bl b
def SS (l : List ByteArray) : Prop := l.Pairwise ltB
structure OK (s : SetM) : Prop where
 nf : NF s.ints
 inb : ∀ r ∈ s.ints, InB r
 ss : SS s.strs
 sz : ∀ t ∈ s.strs, t.size ≤ 8
def StrIn (s : SetM) (t : ByteArray) : Prop := ¬ (t ∈ s.strs ↔ s.co = true)
def InRange (n : Int) : Prop := -9223372036854775808 ≤ n ∧ n ≤ 9223372036854775807
theorem OK.cov {s : SetM} (h : OK s) {n : Int} (hc : Cov s.ints n) : InRange n := by
 obtain ⟨r, hr, h1, h2⟩ := hc
 obtain ⟨⟨b1, b2⟩, b3, b4⟩ := h.inb r hr
 exact ⟨by omega, by omega⟩
end Go.Proofs

namespace Go.Proofs
open Go.Vm
set_option linter.unusedSimpArgs false
def Sub (a b : SetM) : Prop := (a.absent = true → b.absent = true) ∧ (∀ n, Cov a.ints n → Cov b.ints n) ∧ ∀ t, t.size ≤ 8 → StrIn a t → StrIn b t
def allM : SetM := ⟨true, [(-9223372036854775808, 9223372036854775807)], true, []⟩
def emptyM (s : SetM) : Bool := !s.absent && s.ints.isEmpty && !s.co && s.strs.isEmpty
theorem OK.all : OK allM := ⟨⟨by simp [allM], by simp [allM]⟩, by simp [allM, InB], .nil, by simp [allM]⟩
theorem Cov_all {n : Int} : Cov allM.ints n ↔ InRange n := by simp [Cov, allM, InRange]
theorem StrIn_all (t : ByteArray) : StrIn allM t := by simp [StrIn, allM]
def noM : SetM := ⟨false, [], false, []⟩
theorem kEmpty' (s : SetM) : PureAt Tryz.prog 68 [.agg (setC s)] (· = .val (.bool (emptyM s))) := kEmpty s
theorem kAll' : PureAt Tryz.prog 37 [] (· = .agg (setC allM)) := kAll
end Go.Proofs

namespace Go.Proofs
open Go.Vm
set_option linter.unusedSimpArgs false
def Bnd (s : SetM) : Prop := ∀ r ∈ s.ints, InB r
end Go.Proofs

namespace Go.Proofs
open Go.Vm
set_option linter.unusedSimpArgs false
end Go.Proofs

namespace Go.Proofs
open Go.Vm
set_option linter.unusedSimpArgs false
end Go.Proofs
