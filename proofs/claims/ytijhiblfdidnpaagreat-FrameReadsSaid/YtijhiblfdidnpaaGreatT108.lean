/- A part of the proof; what is proved stands in the last text. -/
import Derived.Test.YtijhiblfdidnpaaGreatWC
import Derived.Test.YtijhiblfdidnpaaGreatMM
set_option linter.unusedVariables false
set_option maxRecDepth 2000
namespace Go.Proofs
open Go.Vm
set_option linter.unusedSimpArgs false
abbrev Rdr := List UInt8 × Int
def rdC (s : Rdr) : List D := [.val (.string (lb s.1)), .val (.int .i64 s.2)]
@[go_sem] theorem tags_rdC (s : Rdr) : tagsL (rdC s) = [] := rfl
@[go_sem] theorem av_rdC (p : Nat → Bool) (q : Tag → Bool) (s : Rdr) : D.avoids.avoidsL p q (rdC s) = true := rfl
@[go_sem] theorem ren_rdC (f : Nat → Option Nat) (h : Tag → Option Tag) (s : Rdr) : renL f h (rdC s) = rdC s := rfl
def RdAt (k : FuncId) (xs : List (Nat × D)) (s : Rdr) (r : D) (s' : Rdr) : Prop :=
 ObjAt Tryz.prog k ⟨(0, .ptr 1000000 0) :: xs, [(1000000, rdC s)], []⟩ (xs.length + 1) (fun r' hp tg => r' = r ∧ hp = [(1000000, rdC s')] ∧ tg = [])
def failR (s : Rdr) (e : Int) : Rdr := if s.2 = 0 ∧ e ≠ 0 then ([], e) else s
def byteR (s : Rdr) : Nat × Rdr := match s.1 with
 | [] => (0, failR s 3)
 | c :: t => (c.toNat, (t, s.2))
theorem krErr (s : Rdr) : RdAt 34 [] s (.val (.int .i64 s.2)) s := by
 refine obj_of [1000000] [] r34 (by kernel_rfl) ?_
 unfold m34
 simp only [rdC, finO, go_sem, Nat.reduceEqDiff, Nat.reduceAdd]
 rfl
theorem krLeft (s : Rdr) : RdAt 35 [] s (.val (.int .i64 s.1.length)) s := by
 refine obj_of [1000000] [] r35 (by kernel_rfl) ?_
 unfold m35
 simp only [rdC, finO, go_sem, Nat.reduceEqDiff, Nat.reduceAdd]
 exact ⟨by rw [size_lb], rfl⟩
theorem krFail (s : Rdr) (e : Int) : RdAt 33 [(1, .val (.int .i64 e))] s (.tup []) (failR s e) := by
 refine obj_of [1000000] [] r33 (by kernel_rfl) ?_
 unfold m33
 simp only [rdC, go_sem, Nat.reduceEqDiff, Nat.reduceAdd]
 cases h0 : s.2 == 0 <;> cases h1 : e == 0
 all_goals
  have hf : failR s e = if (s.2 == 0 && !(e == 0)) = true then ([], e) else s := by simp [failR]
  simp only [hf, h0, h1, bne, Bool.not_true, Bool.not_false, Bool.and_true, Bool.and_false, finO, if_true, if_false, go_sem, Nat.reduceEqDiff, Nat.reduceAdd, Nat.reduceLeDiff]
  first | rfl | exact ⟨rfl, rfl⟩ | exact ⟨rfl, rfl, rfl⟩
theorem ext_lb (l : List UInt8) (a b : Nat) : (lb l).extract a b = lb ((l.take b).drop a) := by
 refine lb_of ?_
 rw [ByteArray.data_extract]
 show ((l.toArray).extract a b).toList = _
 simp [List.drop_take]
theorem krByte (s : Rdr) : RdAt 29 [] s (.val (.int .u8 (byteR s).1)) (byteR s).2 := by
 refine obj_of [1000000] [] r29 (by kernel_rfl) ?_
 unfold m29
 simp only [rdC, go_sem, Nat.reduceEqDiff]
 refine callO_eq rfl rfl rfl rfl rfl (krLeft s) ?_
 obtain ⟨l, e⟩ := s
 cases l with
 | nil =>
  simp only [List.length_nil, beq_self_eq_true, Int.natCast_zero, go_sem, Nat.reduceEqDiff]
  refine callO_eq rfl rfl rfl rfl rfl (krFail ([], e) 3) ?_
  simp only [finO, byteR, go_sem]
  exact ⟨rfl, rfl⟩
 | cons c l =>
  have h0 : (((l.length + 1 : Nat) : Int) == 0) = false := by simp; omega
  have hd : (lb (c :: l)).data[Int.toNat 0]? = some c := rfl
  simp only [List.length_cons, h0, rdC, go_sem, Nat.reduceEqDiff, Nat.reduceAdd]
  have hb : (0 ≤ (1 : Int) ∧ (1 : Int) ≤ ((lb (c :: l)).size : Int)) = True := by rw [size_lb]; simp; omega
  have he : (lb (c :: l)).extract (Int.toNat 1) (lb (c :: l)).size = lb l := by rw [size_lb, ext_lb]; simp
  simp only [hd, Int.le_refl, if_true, hb, he, go_sem, Nat.reduceEqDiff, Nat.reduceAdd, Nat.reduceLeDiff]
  simp only [byteR, go_sem]
end Go.Proofs
