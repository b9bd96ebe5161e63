/- A part of the proof; what is proved stands in the last text. -/
import Derived.Test.YtijhiblfdidnpaaGreatT162
import Derived.Test.YtijhiblfdidnpaaGreatTQ
set_option linter.unusedVariables false
set_option maxRecDepth 2000
namespace Go.Proofs
open Go.Vm
set_option linter.unusedSimpArgs false
theorem num_back {n : Nat} (h : n ≤ 1099511627776) (t : List UInt8) : numR (encB n ++ t, 0) = (n, (t, 0)) := by
 unfold numR countR
 rw [uint_back n (by omega), if_neg (by simp only; omega)]
theorem ent_back {x : EntM} (h : okEnt x = true) (hB : EntB x) (t : List UInt8) : entR (entB x ++ t, 0) = (x, (t, 0)) := by
 simp only [okEnt, Bool.and_eq_true] at h
 have c := cnt_in h.1
 have hc : ((x.id.toNat : Nat) : Int) = x.id := by omega
 unfold entR entB
 rw [List.append_assoc, List.append_assoc, num_back (by omega)]
 simp only
 rw [uint_back _ hB.s]
 simp only
 rw [take_filter hB.b h.2.1, hc]
theorem ents_back : ∀ (l : List EntM) (_ : ∀ x ∈ l, okEnt x = true ∧ EntB x) (t : List UInt8), rdEs l.length (l.flatMap entB ++ t, 0) = (l, (t, 0))
 | [], _, t => rfl
 | x :: l, h, t => by
  obtain ⟨h1, h2⟩ := h x (by simp)
  have ih := ents_back l (fun y hy => h y (by simp [hy])) t
  rw [List.flatMap_cons, List.append_assoc, List.length_cons, rdEs, if_pos rfl, ent_back h1 h2]
  simp only
  rw [ih]
theorem ns_back : ∀ (l : List Int) (_ : ∀ x ∈ l, cntM x = true) (t : List UInt8), rdNs l.length (numsB l ++ t, 0) = (l, (t, 0))
 | [], _, t => rfl
 | x :: l, h, t => by
  have h1 := cnt_in (h x (by simp))
  have hc : ((x.toNat : Nat) : Int) = x := by omega
  have ih := ns_back l (fun y hy => h y (by simp [hy])) t
  unfold numsB at ih ⊢
  rw [List.flatMap_cons, List.append_assoc, List.length_cons, rdNs, if_pos rfl, num_back (by omega)]
  simp only
  rw [ih, hc]
theorem FrB.ent {f : FrM} (h : FrB f) : ∀ x ∈ f.adds, EntB x := fun x hx => ⟨h.fa x hx, h.ba x hx, h.ia x hx, h.sa x hx⟩
theorem delta_back {f : FrM} (hB : FrB f) (m1 : ∀ x ∈ f.adds, okEnt x = true) (m3 : ∀ n ∈ f.rems, cntM n = true) (t : List UInt8) :
    deltaR (encB f.adds.length ++ (f.adds.flatMap entB ++ (encB f.rems.length ++ (numsB f.rems ++ t))), 0) = ((f.adds, f.rems), (t, 0)) := by
 have na := hB.na
 have nr := hB.nr
 have hE : esR (encB f.adds.length ++ (f.adds.flatMap entB ++ (encB f.rems.length ++ (numsB f.rems ++ t))), 0) = (f.adds, (encB f.rems.length ++ (numsB f.rems ++ t), 0)) := by
  unfold esR
  rw [num_back (by omega)]
  exact ents_back _ (fun x hx => ⟨m1 x hx, hB.ent x hx⟩) _
 have hN : nsR (encB f.rems.length ++ (numsB f.rems ++ t), 0) = (f.rems, (t, 0)) := by
  unfold nsR
  rw [num_back (by omega)]
  exact ns_back _ m3 _
 unfold deltaR
 rw [hE]
 simp only
 rw [hN]
theorem eqPub_iff {a b : FrM} : eqPub a b = true ↔ a.id = b.id ∧ a.client = b.client ∧ a.e = b.e := by
 simp only [eqPub, Bool.and_eq_true, beq_iff_eq, eqEv_iff]
theorem frame_back {f : FrM} (h : mayX f = true) (hB : FrB f) (t : List UInt8) : frR (frameB f ++ t, 0) = (f, (t, 0)) := by
 cases hp : f.pub
 ·obtain ⟨m1, m2, m3⟩ := may_tab h hp
  obtain ⟨q1, q2, q3⟩ := eqPub_iff.1 m2
  have hf : frameB f ++ t = 0 :: (encB f.adds.length ++ (f.adds.flatMap entB ++ (encB f.rems.length ++ (numsB f.rems ++ t)))) := by
   simp [frameB, hp]
  have hb : byteR (frameB f ++ t, 0) = (0, (encB f.adds.length ++ (f.adds.flatMap entB ++ (encB f.rems.length ++ (numsB f.rems ++ t))), 0)) := by rw [hf]; rfl
  unfold frR
  rw [hb, if_pos rfl]
  simp only
  rw [delta_back hB m1 m3]
  obtain ⟨p, a, r, i, c, e⟩ := f
  simp only [zFr] at *
  rw [hp, q1, q2, q3]
 ·obtain ⟨m1, m2, m3, m4, m5⟩ := may_pub h hp
  have c1' := cnt_in m1
  have c2' := cnt_in m2
  have hf : frameB f ++ t = 1 :: (encB f.id.toNat ++ (encB f.client.toNat ++ (eventB f.e ++ t))) := by
   simp [frameB, hp]
  have hb : byteR (frameB f ++ t, 0) = (1, (encB f.id.toNat ++ (encB f.client.toNat ++ (eventB f.e ++ t)), 0)) := by rw [hf]; rfl
  unfold frR
  rw [hb, if_neg (by simp), if_pos rfl]
  simp only
  rw [num_back (by omega)]
  simp only
  rw [num_back (by omega)]
  simp only
  rw [take_back (wvE hB.ie m3) m3]
  have h1 : ((f.id.toNat : Nat) : Int) = f.id := by omega
  have h2 : ((f.client.toNat : Nat) : Int) = f.client := by omega
  rw [h1, h2]
  obtain ⟨p, a, r, i, c, e⟩ := f
  simp only at *
  rw [hp, m4, m5]
theorem frame_read {f : FrM} (h : mayX f = true) (hB : FrB f) : readX (frameB f) = (f, 0) := by
 have := frame_back h hB []
 rw [List.append_nil] at this
 unfold readX
 rw [this, if_pos ⟨rfl, rfl, h⟩]
theorem sameEn_iff {a b : EntM} : sameEn a b = true ↔ a = b := by
 obtain ⟨i, f, s⟩ := a
 obtain ⟨i', f', s'⟩ := b
 simp only [sameEn, Bool.and_eq_true, beq_iff_eq, sameF_iff, EntM.mk.injEq]
 constructor
 ·rintro ⟨⟨rfl, h⟩, rfl⟩
  exact ⟨rfl, rfl, by omega⟩
 ·rintro ⟨rfl, rfl, rfl⟩
  exact ⟨⟨rfl, rfl⟩, rfl⟩
theorem sameEs_iff {l m : List EntM} : sameEs l m = true ↔ l = m := by
 simp only [sameEs, Bool.and_eq_true, decide_eq_true_eq, List.all_eq_true, List.mem_range, sameEn_iff]
 constructor
 ·rintro ⟨h, h2⟩
  refine List.ext_getElem h fun i h1 h3 => ?_
  have := h2 i h1
  simpa [h1, h3] using this
 ·rintro rfl
  exact ⟨rfl, fun _ _ => rfl⟩
theorem sameIs_iff {l m : List Int} : sameIs l m = true ↔ l = m := by
 simp only [sameIs, Bool.and_eq_true, decide_eq_true_eq, List.all_eq_true, List.mem_range, beq_iff_eq]
 constructor
 ·rintro ⟨h, h2⟩
  refine List.ext_getElem h fun i h1 h3 => ?_
  have := h2 i h1
  simpa [h1, h3] using this
 ·rintro rfl
  exact ⟨rfl, fun _ _ => rfl⟩
theorem sameFr_iff {a b : FrM} : sameFr a b = true ↔ a = b := by
 simp only [sameFr, Bool.and_eq_true, beq_iff_eq, eqPub_iff, sameEs_iff, sameIs_iff]
 constructor
 ·rintro ⟨h1, ⟨h2, h3, h4⟩, h5, h6⟩
  obtain ⟨p, a, r, i, c, e⟩ := a
  obtain ⟨p', a', r', i', c', e'⟩ := b
  simp only at *
  rw [h1, h2, h3, h4, h5, h6]
 ·rintro rfl
  exact ⟨rfl, ⟨rfl, rfl, rfl⟩, rfl, rfl⟩
end Go.Proofs

namespace Go.Proofs
open Go.Vm Go.ChangeShapes Go.WideShapes Go.ChangeAt Go.RowKit
set_option linter.unusedSimpArgs false
structure EntK (x : EntM) : Prop where
 i : InRange x.id
 b : ∀ b ∈ x.f, BndB b
 l : x.f.length ≤ maxLen
 s : x.slack < 18446744073709551616
structure FrK (f : FrM) : Prop where
 l : f.adds.length ≤ maxLen
 a : ∀ x ∈ f.adds, EntK x
 r : ∀ n ∈ f.rems, InRange n
 m : f.rems.length ≤ maxLen
 i : InRange f.id
 c : InRange f.client
 e : InE f.e
theorem inR {n : Int} (h : InR n) : InRange n := by obtain ⟨h1, h2⟩ := h; exact ⟨by omega, by omega⟩
theorem wf_u64 {n : Int} (h : (Lit.int .u64 n).wf = true) : ∃ m : Nat, n = m ∧ m < 18446744073709551616 := by
 have e1 : IntKind.u64.min = 0 := rfl
 have e2 : IntKind.u64.max = 18446744073709551615 := rfl
 simp [Lit.wf] at h
 exact ⟨n.toNat, by omega, by omega⟩
theorem rd_filter {H : Type} {enc : TypeId × Value → H} {w : World} (fuel : Nat) : Rd enc Tryz.prog w fuel 64 (fun ds => ∃ l : List BoxM, ds = [.sl none (l.map boxC)] ∧ (∀ b ∈ l, BndB b) ∧ l.length ≤ maxLen) :=
 rd_rows (by exact Tryz.underlying64) (by kernel_rfl : Tryz.prog.cellsOf 106 = 16) (by omega) fun n _ => rd_box n
theorem rd_entry {H : Type} {enc : TypeId × Value → H} {w : World} (fuel : Nat) : Rd enc Tryz.prog w fuel 67 (fun ds => ∃ x : EntM, ds = entC x ∧ EntK x) := by
 refine (Rd_struct (As := [fun ds => ∃ n, ds = [.val (.int .i64 n)] ∧ InR n, fun ds => ∃ l : List BoxM, ds = [.sl none (l.map boxC)] ∧ (∀ b ∈ l, BndB b) ∧ l.length ≤ maxLen, fun ds => ∃ n, ds = [.val (.int .u64 n)] ∧ (Lit.int .u64 n).wf = true])
  Tryz.underlying67 (by kernel_rfl) (fun n _ => ⟨rd_int n, rd_filter n, Rd_int Tryz.underlying65, trivial⟩)).mono ?_
 rintro ds ⟨a, b, rfl, ⟨x, rfl, h1⟩, c, d, rfl, ⟨l, rfl, h2, h3⟩, e, f, rfl, ⟨n, rfl, h4⟩, rfl⟩
 obtain ⟨m, rfl, h5⟩ := wf_u64 h4
 exact ⟨⟨x, l, m⟩, rfl, inR h1, h2, h3, h5⟩
theorem rd_entries {H : Type} {enc : TypeId × Value → H} {w : World} (fuel : Nat) : Rd enc Tryz.prog w fuel 22 (fun ds => ∃ l : List EntM, ds = [.sl none (l.map entC)] ∧ (∀ x ∈ l, EntK x) ∧ l.length ≤ maxLen) :=
 rd_rows (by exact Tryz.underlying22) (by kernel_rfl : Tryz.prog.cellsOf 67 = 3) (by omega) fun n _ => rd_entry n
theorem rd_ints {H : Type} {enc : TypeId × Value → H} {w : World} (fuel : Nat) : Rd enc Tryz.prog w fuel 23 (fun ds => ∃ l : List Int, ds = [.sl none (intsC l)] ∧ (∀ x ∈ l, InR x) ∧ l.length ≤ maxLen) :=
 rd_rows (by exact Tryz.underlying23) (by kernel_rfl : Tryz.prog.cellsOf 3 = 1) (by omega) fun n _ => rd_int n
def DelK (ds : List D) : Prop := ∃ (l : List EntM) (r : List Int), ds = [.sl none (l.map entC), .sl none (intsC r)] ∧ (∀ x ∈ l, EntK x) ∧ l.length ≤ maxLen ∧ (∀ x ∈ r, InR x) ∧ r.length ≤ maxLen
theorem rd_delta {H : Type} {enc : TypeId × Value → H} {w : World} (fuel : Nat) : Rd enc Tryz.prog w fuel 25 DelK := by
 refine (Rd_struct (As := [fun ds => ∃ l : List EntM, ds = [.sl none (l.map entC)] ∧ (∀ x ∈ l, EntK x) ∧ l.length ≤ maxLen, fun ds => ∃ l : List Int, ds = [.sl none (intsC l)] ∧ (∀ x ∈ l, InR x) ∧ l.length ≤ maxLen])
  Tryz.underlying25 (by kernel_rfl) (fun n _ => ⟨rd_entries n, rd_ints n, trivial⟩)).mono ?_
 rintro ds ⟨a, b, rfl, ⟨l, rfl, h1, h2⟩, c, d, rfl, ⟨r, rfl, h3, h4⟩, rfl⟩
 exact ⟨l, r, rfl, h1, h2, h3, h4⟩
def PubK (ds : List D) : Prop := ∃ (i c : Int) (e : EvM), ds = .val (.int .i64 i) :: .val (.int .i64 c) :: evC e ∧ InR i ∧ InR c ∧ ∀ j, j < 4 → InR (e.at j).n
theorem rd_pub {H : Type} {enc : TypeId × Value → H} {w : World} (fuel : Nat) : Rd enc Tryz.prog w fuel 31 PubK := by
 refine (Rd_struct (As := [fun ds => ∃ n, ds = [.val (.int .i64 n)] ∧ InR n, fun ds => ∃ n, ds = [.val (.int .i64 n)] ∧ InR n, fun ds => ∃ e : EvM, ds = evC e ∧ ∀ i, i < 4 → InR (e.at i).n])
  Tryz.underlying31 (by kernel_rfl) (fun n _ => ⟨rd_int n, rd_int n, rd_event n, trivial⟩)).mono ?_
 rintro ds ⟨a, b, rfl, ⟨i, rfl, h1⟩, c, d, rfl, ⟨j, rfl, h2⟩, e, f, rfl, ⟨g, rfl, h3⟩, rfl⟩
 exact ⟨i, j, g, by simp, h1, h2, h3⟩
theorem rd_frame {H : Type} {enc : TypeId × Value → H} {w : World} (fuel : Nat) : Rd enc Tryz.prog w fuel 33 (fun ds => ∃ f : FrM, ds = frC f ∧ FrK f) := by
 refine (Rd_struct (As := [fun ds => ∃ b, ds = [.val (.bool b)], DelK, PubK]) Tryz.underlying33 (by kernel_rfl) (fun n _ => ⟨Rd_bool Tryz.underlying4, rd_delta n, rd_pub n, trivial⟩)).mono ?_
 rintro ds ⟨a, b, rfl, ⟨p, rfl⟩, c, d, rfl, ⟨l, r, rfl, h1, h2, h3, h4⟩, e, f, rfl, ⟨i, j, g, rfl, h5, h6, h7⟩, rfl⟩
 refine ⟨⟨p, l, r, i, j, g⟩, ?_, ⟨h2, h1, fun n hn => inR (h3 n hn), h4, inR h5, inR h6, fun k hk => inR (h7 k hk)⟩⟩
 simp [frC, evC, intsC]
end Go.Proofs

namespace Go.Proofs
open Go.Vm
set_option linter.unusedSimpArgs false
def f1M : FrM := ⟨true, [], [], 1, 2, zE⟩
def f2M : FrM := ⟨false, [], [], 1, 0, zE⟩
theorem f1B : FrB f1M := ⟨by simp [f1M], by simp [f1M], by simp [f1M], by simp [f1M], by simp [f1M], by simp [f1M], by simp [f1M], ⟨by decide, by decide⟩, ⟨by decide, by decide⟩, zE_in⟩
theorem f2B : FrB f2M := ⟨by simp [f2M], by simp [f2M], by simp [f2M], by simp [f2M], by simp [f2M], by simp [f2M], by simp [f2M], ⟨by decide, by decide⟩, ⟨by decide, by decide⟩, zE_in⟩
theorem rightE0 : rightE zE = true := by
 simp [rightE, all4, EvM.at, at4, zE, zV, rightV]
theorem may0 : mayX zFr = true := by
 have : eqPub zFr zFr = true := eqPub_iff.2 ⟨rfl, rfl, rfl⟩
 unfold mayX
 rw [this]
 rfl
theorem may1 : mayX f1M = true := by
 have h1 : cntM 1 = true := by decide
 have h2 : cntM 2 = true := by decide
 simp [mayX, f1M, rightE0, h1, h2]
theorem may2 : mayX f2M = false := by
 have : eqPub f2M zFr = false := by
  cases h : eqPub f2M zFr
  ·rfl
  ·exact absurd (eqPub_iff.1 h).1 (by decide)
 unfold mayX
 rw [this]
 rfl
theorem encB_0 : encB 0 = [0] := by simp [encB, encN, encHi]
theorem encB_1 : encB 1 = [1] := by simp [encB, encN, encHi]
theorem encB_22 : encB 2 = [2] := by simp [encB, encN, encHi]
theorem frame0 : frameB zFr = [0, 0, 0] := by
 simp [frameB, zFr, encB_0, numsB]
theorem event0 : eventB zE = [0, 0, 0, 0] := by
 simp [eventB, valsB, List.range_succ, valB, EvM.at, at4, zE, zV]
theorem frame1 : frameB f1M = [1, 1, 2, 0, 0, 0, 0] := by
 have h1 : (1 : Int).toNat = 1 := rfl
 have h2 : (2 : Int).toNat = 2 := rfl
 simp only [frameB, f1M, if_true, h1, h2, encB_1, encB_22, event0]
 rfl
theorem print0 : printX zFr = ([0, 0, 0], 0) := by rw [printX, if_pos may0, frame0]
theorem print1 : printX f1M = ([1, 1, 2, 0, 0, 0, 0], 0) := by rw [printX, if_pos may1, frame1]
theorem print2 : printX f2M = ([], 1) := by rw [printX, if_neg (by rw [may2]; simp)]
theorem readX0 : readX [] = (zFr, 2) := by
 have h1 : (frR ([], 0)).2.2 = 3 := rfl
 unfold readX
 rw [h1, if_neg (by rintro ⟨h, -⟩; cases h)]
theorem readX1 : readX [1, 1, 2, 0, 0, 0, 0] = (f1M, 0) := by
 rw [← frame1]; exact frame_read may1 f1B
set_option maxHeartbeats 4000000 in
theorem kawake15 : PureAt Tryz.prog 7 [] (· = .val (.bool true)) := by
 have p1 := kfPrint zFr zFrB
 rw [print0] at p1
 have p2 := kfPrint f1M f1B
 rw [print1] at p2
 have p3 := kfPrint f2M f2B
 rw [print2] at p3
 have p4 := kfRead ⟨#[]⟩ (by decide)
 rw [show bl ⟨#[]⟩ = [] from rfl, readX0] at p4
 have p5 := kfRead (lb [1, 1, 2, 0, 0, 0, 0]) (by rw [size_lb]; simp)
 rw [show bl (lb [1, 1, 2, 0, 0, 0, 0]) = [1, 1, 2, 0, 0, 0, 0] from rfl, readX1] at p5
 refine pure_of r7 (by kernel_rfl) ?_
 unfold m7
 simp only [go_sem]
 refine callP_eq rfl rfl p1 ?_
 simp only [encP, go_sem, Nat.reduceEqDiff, Nat.reduceAdd, Nat.reduceLeDiff]
 refine callP_eq rfl rfl p2 ?_
 simp only [encP, go_sem, Nat.reduceEqDiff, Nat.reduceAdd, Nat.reduceLeDiff]
 refine callP_eq rfl rfl p3 ?_
 simp only [encP, go_sem, Nat.reduceEqDiff]
 refine callP_eq rfl rfl p4 ?_
 simp only [frC, go_sem, Nat.reduceEqDiff, Nat.reduceAdd, Nat.reduceLeDiff]
 refine callP_eq rfl rfl p5 ?_
 have q0 : ((lb [0, 0, 0]).toList == (⟨#[0, 0, 0]⟩ : ByteArray).toList) = true := beq_self_eq_true (lb [0, 0, 0]).toList
 have q1 : ((lb [1, 1, 2, 0, 0, 0, 0]).toList == (⟨#[1, 1, 2, 0, 0, 0, 0]⟩ : ByteArray).toList) = true := beq_self_eq_true (lb [1, 1, 2, 0, 0, 0, 0]).toList
 have n1 : f1M.client = 2 := rfl
 simp only [frC, q0, q1, n1, beq_self_eq_true, go_sem, Nat.reduceEqDiff, Nat.reduceAdd, Nat.reduceLeDiff]
end Go.Proofs

namespace Go.Proofs
open Go.Vm
set_option linter.unusedSimpArgs false
theorem few_frB {f : FrM} (hK : FrK f) (h : few14 f.adds = true ∧ f.rems.length ≤ 40) : FrB f := by
 obtain ⟨h1, h2⟩ := h
 simp only [few14, Bool.and_eq_true, decide_eq_true_eq, List.all_eq_true] at h1
 refine ⟨by omega, by omega, fun x hx => ?_, fun x hx => (hK.a x hx).b, fun x hx => (hK.a x hx).i, fun x hx => (hK.a x hx).s, hK.r, hK.i, hK.c, hK.e⟩
 have h3 := h1.1 x hx
 simp only [few6, Bool.and_eq_true, decide_eq_true_eq] at h3
 exact ⟨by omega, fun b hb => (few4_of h3.2 b hb).mono (by omega)⟩
theorem frameB_len {f : FrM} (hK : FrK f) (h : few14 f.adds = true ∧ f.rems.length ≤ 40) (hm : mayX f = true) : (frameB f).length ≤ 80000 := by
 have hB := few_frB hK h
 obtain ⟨h1, h2⟩ := h
 simp only [few14, Bool.and_eq_true, decide_eq_true_eq] at h1
 cases hp : f.pub
 ·obtain ⟨m1, m2, m3⟩ := may_tab hm hp
  have q1 := (encB_len (n := f.adds.length) (by omega)).1
  have q2 := (encB_len (n := f.rems.length) (by omega)).1
  have fl : (f.adds.flatMap entB).length ≤ 5030 * 12 := Nat.le_trans (flat_len _ (fun x hx => entB_len (m1 x hx) (hB.ba x hx) (hB.sa x hx))) (Nat.mul_le_mul_left _ h1.2)
  have fn : (numsB f.rems).length ≤ 11 * 40 := Nat.le_trans (flat_len (k := 11) _ (fun x hx => by
   have := cnt_in (m3 x hx)
   have := (encB_len (n := x.toNat) (by omega)).1
   omega)) (Nat.mul_le_mul_left _ h2)
  simp only [frameB, hp, Bool.false_eq_true, if_false, List.length_cons, List.length_append]
  omega
 ·obtain ⟨m1, m2, m3, m4, m5⟩ := may_pub hm hp
  have c1' := cnt_in m1
  have c2' := cnt_in m2
  have lv := valsB_len (wvE hB.ie m3) 4 (by omega)
  have q1 := (encB_len (n := f.id.toNat) (by omega)).1
  have q2 := (encB_len (n := f.client.toNat) (by omega)).1
  simp only [frameB, hp, if_true, List.length_cons, List.length_append, eventB]
  omega
theorem maxFew {f : FrM} (hK : FrK f) : PureAt Tryz.prog 8 [.agg (frC f)] (FewR f) := kFew15 f hK.l (fun x hx => (hK.a x hx).l)
set_option maxHeartbeats 8000000 in
theorem kFramePrints (f : FrM) (hK : FrK f) : PureAt Tryz.prog 3 [.agg (frC f)] (· = .val (.bool true)) := by
 have p0 := maxFew hK
 have hB := few_frB hK
 have hlen := frameB_len hK
 unfold frC at p0
 refine pure_of r3 (by kernel_rfl) ?_
 unfold m3
 simp only [frC, go_sem, Nat.reduceEqDiff, Nat.reduceAdd]
 refine callP_eq rfl rfl kawake15 ?_
 simp only [go_sem, Nat.reduceEqDiff, Nat.reduceAdd, Nat.reduceLeDiff]
 refine callP_by rfl rfl p0 ?_
 rintro _ ⟨b, rfl, hb⟩
 cases b
 ·simp only [Bool.not_false, go_sem, Nat.reduceEqDiff]
  refine callP_eq rfl rfl kawake15 ?_
  simp only [go_sem, Nat.reduceEqDiff]
 have h := hb rfl
 have hB := hB h
 have hlen := hlen h
 have p1 := kfPrint f hB
 have p2 := kMay15 f hB
 have p5 := kSame15 f f hB
 rw [sameFr_iff.2 rfl] at p5
 unfold frC at p1 p2
 simp only [Bool.not_true, go_sem, Nat.reduceEqDiff, Nat.reduceAdd, Nat.reduceLeDiff]
 refine callP_eq rfl rfl p1 ?_
 cases h2 : mayX f
 ·have hx : printX f = ([], 1) := by rw [printX, if_neg (by rw [h2]; simp)]
  rw [hx]
  simp only [encP, go_sem, Nat.reduceEqDiff, Nat.reduceAdd, Nat.reduceLeDiff]
  refine callP_eq rfl rfl p2 ?_
  have q0 : ((lb []).toList == (⟨#[]⟩ : ByteArray).toList) = true := beq_self_eq_true (lb []).toList
  simp only [h2, Bool.not_false, q0, beq_self_eq_true, go_sem, Nat.reduceEqDiff]
 ·have hx : printX f = (frameB f, 0) := by rw [printX, if_pos h2]
  have p3 := kfRead (lb (frameB f)) (by rw [size_lb]; have := hlen h2; omega)
  rw [show bl (lb (frameB f)) = frameB f by simp [bl, lb], frame_read h2 hB] at p3
  have p4 := kPrint15 f hB h2
  unfold frC at p4 p5
  rw [hx]
  simp only [encP, go_sem, Nat.reduceEqDiff, Nat.reduceAdd, Nat.reduceLeDiff]
  refine callP_eq rfl rfl p2 ?_
  simp only [h2, Bool.not_true, go_sem, Nat.reduceEqDiff]
  refine callP_eq rfl rfl p3 ?_
  simp only [frC, beq_self_eq_true, go_sem, Nat.reduceEqDiff, Nat.reduceAdd, Nat.reduceLeDiff]
  refine callP_eq rfl rfl p4 ?_
  simp only [beq_self_eq_true, go_sem, Nat.reduceEqDiff, Nat.reduceAdd, Nat.reduceLeDiff]
  refine callP_eq rfl rfl p5 ?_
  simp only [go_sem, Nat.reduceEqDiff]
end Go.Proofs
