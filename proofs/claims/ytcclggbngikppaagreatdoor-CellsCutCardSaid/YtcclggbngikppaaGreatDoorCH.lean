/- A part of the proof; what is proved stands in the last text. -/
import Derived.Test.YtcclggbngikppaaGreatDoorCG
import Derived.Test.YtcclggbngikppaaGreatDoorTN
set_option linter.unusedVariables false
set_option maxRecDepth 2000
namespace Go.Proofs
open Go.Vm
set_option linter.unusedSimpArgs false
theorem kcIn (x s : SetM) (hx : x.ints.length ≤ 100000 ∧ x.strs.length ≤ 100000) (hb : Bnd x) (hs : s.ints.length ≤ 1000000 ∧ s.strs.length ≤ 1000000) : PureAt Tryz.prog 30 [.agg (setC x), .agg (setC s)] (· = .val (.bool (inC x s))) := by
 have ps := kSample x hx.1 hx.2 hb
 have ph := kHas s hs.1 hs.2 (sampleM x).1
 refine pure_of r30 (by kernel_rfl) ?_
 unfold m30
 unfold inC
 generalize sampleM x = w at *
 obtain ⟨⟨qk, qn, qs⟩, b⟩ := w
 unfold setC valC at ps ph
 simp only [setC, go_sem, Nat.reduceEqDiff, Nat.reduceAdd, Nat.reduceLeDiff, List.length_map, z4, at4, BoxM.at, EvM.at, fillB, Int.reduceLT, Int.reduceLE, Int.reduceToNat, Int.toNat_zero, Int.le_refl, Int.reduceAdd, decide_true, decide_false, wr1, wr2, wr3, wr4, c0, c1, c2, c3, c4, Nat.reduceMul, Nat.reduceLT, Nat.lt_irrefl, true_and, and_self, ↓reduceIte]
 refine callP_eq rfl rfl ps ?_
 cases b
 ·simp only [valC, go_sem, Nat.reduceEqDiff, Nat.reduceAdd, Nat.reduceLeDiff, List.length_map, z4, at4, BoxM.at, EvM.at, fillB, Int.reduceLT, Int.reduceLE, Int.reduceToNat, Int.toNat_zero, Int.le_refl, Int.reduceAdd, decide_true, decide_false, wr1, wr2, wr3, wr4, c0, c1, c2, c3, c4, Nat.reduceMul, Nat.reduceLT, Nat.lt_irrefl, true_and, and_self, ↓reduceIte]
 ·simp only [valC, go_sem, Nat.reduceEqDiff, Nat.reduceAdd, Nat.reduceLeDiff, List.length_map, z4, at4, BoxM.at, EvM.at, fillB, Int.reduceLT, Int.reduceLE, Int.reduceToNat, Int.toNat_zero, Int.le_refl, Int.reduceAdd, decide_true, decide_false, wr1, wr2, wr3, wr4, c0, c1, c2, c3, c4, Nat.reduceMul, Nat.reduceLT, Nat.lt_irrefl, true_and, and_self, ↓reduceIte]
  refine callP_eq rfl rfl ph ?_
  simp only [go_sem, Nat.reduceEqDiff, Nat.reduceAdd, Nat.reduceLeDiff, List.length_map, z4, at4, BoxM.at, EvM.at, fillB, Int.reduceLT, Int.reduceLE, Int.reduceToNat, Int.toNat_zero, Int.le_refl, Int.reduceAdd, decide_true, decide_false, wr1, wr2, wr3, wr4, c0, c1, c2, c3, c4, Nat.reduceMul, Nat.reduceLT, Nat.lt_irrefl, true_and, and_self, ↓reduceIte]
theorem in_tell {r : List SetM} (h : AllOK r) {x s : SetM} (hx : x ∈ cutR r) (hl : x.strs.length ≤ 100000) (hs : s ∈ r) {p : ValM} (hp : hasM x p = true) : hasM s p = inC x s := by
 obtain ⟨s1, s2, -, -⟩ := sample_has (cut_ok h hx) hl (cut_full h hx)
 unfold inC
 rw [s1, Bool.true_and, cut_whole h hx hs hp s2]
def stL1 (l r : List SetM) (i : Nat) : St := ⟨[(0, .sl none (l.map setC)), (3, .sl none ((cutR r).map setC)), (32, .sl none (l.map setC)), (33, .val (.int .i64 l.length)), (34, .val (.int .i64 i))], [], []⟩
def stL2 (l r : List SetM) (s : SetM) (i k : Nat) : St := ⟨[(0, .sl none (l.map setC)), (3, .sl none ((cutR r).map setC)), (5, .ptr 5 0), (32, .sl none (l.map setC)), (33, .val (.int .i64 l.length)), (34, .val (.int .i64 i)), (41, .sl none ((cutR r).map setC)), (42, .val (.int .i64 (cutR r).length)), (43, .val (.int .i64 k))], [(5, setC s)], []⟩
def stL3 (l r : List SetM) (s x : SetM) (ps : List ValM) (i k j : Nat) : St := ⟨[(0, .sl none (l.map setC)), (3, .sl none ((cutR r).map setC)), (5, .ptr 5 0), (7, .ptr 7 0), (32, .sl none (l.map setC)), (33, .val (.int .i64 l.length)), (34, .val (.int .i64 i)), (41, .sl none ((cutR r).map setC)), (42, .val (.int .i64 (cutR r).length)), (43, .val (.int .i64 k)), (53, .sl (some (53, 24, 3)) (ps.map valC)), (54, .val (.int .i64 ps.length)), (55, .val (.int .i64 j))], [(5, setC s), (7, setC x)], [((53, 24, 3), true)]⟩
set_option maxHeartbeats 8000000 in
theorem kCellsCut (l : List SetM) (hb : ∀ s ∈ l, Bnd s) (_ : l.length ≤ maxLen) : PureAt Tryz.prog 7 [.sl none (l.map setC)] (· = .val (.bool true)) := by
 refine pure_of r7 (by kernel_rfl) ?_
 unfold m7
 simp only [go_sem, Nat.reduceEqDiff, Nat.reduceAdd, Nat.reduceLeDiff, List.length_map, z4, at4, BoxM.at, EvM.at, fillB, Int.reduceLT, Int.reduceLE, Int.reduceToNat, Int.toNat_zero, Int.le_refl, Int.reduceAdd, decide_true, decide_false, wr1, wr2, wr3, wr4, c0, c1, c2, c3, c4, Nat.reduceMul, Nat.reduceLT, Nat.lt_irrefl, true_and, and_self, ↓reduceIte]
 refine callP_eq rfl rfl kawake09 ?_
 by_cases h1 : l.length ≤ 12
 rotate_left
 ·have d1 : decide ((l.length : Int) > 12) = true := by simp; omega
  simp only [d1, go_sem, Nat.reduceEqDiff, Nat.reduceAdd, Nat.reduceLeDiff, List.length_map, z4, at4, BoxM.at, EvM.at, fillB, Int.reduceLT, Int.reduceLE, Int.reduceToNat, Int.toNat_zero, Int.le_refl, Int.reduceAdd, decide_true, decide_false, wr1, wr2, wr3, wr4, c0, c1, c2, c3, c4, Nat.reduceMul, Nat.reduceLT, Nat.lt_irrefl, true_and, and_self, ↓reduceIte]
  refine callP_eq rfl rfl kawake09 ?_
  simp only [go_sem, Nat.reduceEqDiff, Nat.reduceAdd, Nat.reduceLeDiff, List.length_map, z4, at4, BoxM.at, EvM.at, fillB, Int.reduceLT, Int.reduceLE, Int.reduceToNat, Int.toNat_zero, Int.le_refl, Int.reduceAdd, decide_true, decide_false, wr1, wr2, wr3, wr4, c0, c1, c2, c3, c4, Nat.reduceMul, Nat.reduceLT, Nat.lt_irrefl, true_and, and_self, ↓reduceIte]
 have d1 : decide ((l.length : Int) > 12) = false := by simp; omega
 simp only [d1, go_sem, Nat.reduceEqDiff, Nat.reduceAdd, Nat.reduceLeDiff, List.length_map, z4, at4, BoxM.at, EvM.at, fillB, Int.reduceLT, Int.reduceLE, Int.reduceToNat, Int.toNat_zero, Int.le_refl, Int.reduceAdd, decide_true, decide_false, wr1, wr2, wr3, wr4, c0, c1, c2, c3, c4, Nat.reduceMul, Nat.reduceLT, Nat.lt_irrefl, true_and, and_self, ↓reduceIte]
 refine callP_by rfl rfl (krefFew3 l (by omega)) ?_
 rintro d ⟨bf, rfl, hf⟩
 cases bf
 ·simp only [go_sem, Nat.reduceEqDiff, Nat.reduceAdd, Nat.reduceLeDiff, List.length_map, z4, at4, BoxM.at, EvM.at, fillB, Int.reduceLT, Int.reduceLE, Int.reduceToNat, Int.toNat_zero, Int.le_refl, Int.reduceAdd, decide_true, decide_false, wr1, wr2, wr3, wr4, c0, c1, c2, c3, c4, Nat.reduceMul, Nat.reduceLT, Nat.lt_irrefl, true_and, and_self, ↓reduceIte]
  refine callP_eq rfl rfl kawake09 ?_
  simp only [go_sem, Nat.reduceEqDiff, Nat.reduceAdd, Nat.reduceLeDiff, List.length_map, z4, at4, BoxM.at, EvM.at, fillB, Int.reduceLT, Int.reduceLE, Int.reduceToNat, Int.toNat_zero, Int.le_refl, Int.reduceAdd, decide_true, decide_false, wr1, wr2, wr3, wr4, c0, c1, c2, c3, c4, Nat.reduceMul, Nat.reduceLT, Nat.lt_irrefl, true_and, and_self, ↓reduceIte]
 have hf := hf rfl
 have hok := rOf_ok hb
 have hrl : (rOf l).length ≤ 12 := Nat.le_trans (List.length_filter_le _ _) h1
 have hrs : ∀ s ∈ rOf l, s.ints.length ≤ 40 ∧ s.strs.length ≤ 40 := fun s h => hf s (rOf_mem h).1
 have pc := kCutA l hb (by omega) (few_up hf)
 have p9 := kCut9 l hb (by omega) (few_up hf)
 have hcl := cut_length hrl hrs
 have hcs := fun x (hx : x ∈ cutR (rOf l)) => cut_sz hok hrl hrs hx
 have hin : ∀ s ∈ l, rightM s = true → s ∈ rOf l := fun s m h => List.mem_filter.2 ⟨m, h⟩
 have psa := kSameAll9 (cutR (rOf l)) (by omega) (fun s h => ⟨by have := (hcs s h).1; omega, by have := (hcs s h).2; omega⟩)
 generalize rOf l = r at *
 simp only [go_sem, Nat.reduceEqDiff, Nat.reduceAdd, Nat.reduceLeDiff, List.length_map, z4, at4, BoxM.at, EvM.at, fillB, Int.reduceLT, Int.reduceLE, Int.reduceToNat, Int.toNat_zero, Int.le_refl, Int.reduceAdd, decide_true, decide_false, wr1, wr2, wr3, wr4, c0, c1, c2, c3, c4, Nat.reduceMul, Nat.reduceLT, Nat.lt_irrefl, true_and, and_self, ↓reduceIte]
 refine ⟨setC_len l, by omega, by omega, ?_⟩
 refine callP_eq rfl rfl pc ?_
 simp only [go_sem, Nat.reduceEqDiff, Nat.reduceAdd, Nat.reduceLeDiff, List.length_map, z4, at4, BoxM.at, EvM.at, fillB, Int.reduceLT, Int.reduceLE, Int.reduceToNat, Int.toNat_zero, Int.le_refl, Int.reduceAdd, decide_true, decide_false, wr1, wr2, wr3, wr4, c0, c1, c2, c3, c4, Nat.reduceMul, Nat.reduceLT, Nat.lt_irrefl, true_and, and_self, ↓reduceIte]
 refine callP_eq rfl rfl p9 ?_
 simp only [go_sem, Nat.reduceEqDiff, Nat.reduceAdd, Nat.reduceLeDiff, List.length_map, z4, at4, BoxM.at, EvM.at, fillB, Int.reduceLT, Int.reduceLE, Int.reduceToNat, Int.toNat_zero, Int.le_refl, Int.reduceAdd, decide_true, decide_false, wr1, wr2, wr3, wr4, c0, c1, c2, c3, c4, Nat.reduceMul, Nat.reduceLT, Nat.lt_irrefl, true_and, and_self, ↓reduceIte]
 refine callP_eq rfl rfl psa ?_
 simp only [go_sem, Nat.reduceEqDiff, Nat.reduceAdd, Nat.reduceLeDiff, List.length_map, z4, at4, BoxM.at, EvM.at, fillB, Int.reduceLT, Int.reduceLE, Int.reduceToNat, Int.toNat_zero, Int.le_refl, Int.reduceAdd, decide_true, decide_false, wr1, wr2, wr3, wr4, c0, c1, c2, c3, c4, Nat.reduceMul, Nat.reduceLT, Nat.lt_irrefl, true_and, and_self, ↓reduceIte]
 refine loop_N l.length (fun _ => True) (stL1 l r) trivial (by simp only [stL1, go_sem, Nat.reduceEqDiff, Nat.reduceAdd, Nat.reduceLeDiff, List.length_map]; rfl) ?_
 rintro i hi -
 simp only [stL1]
 simp only [go_sem, Nat.reduceEqDiff, Nat.reduceAdd, Nat.reduceLeDiff, List.length_map, z4, at4, BoxM.at, EvM.at, fillB, Int.reduceLT, Int.reduceLE, Int.reduceToNat, Int.toNat_zero, Int.le_refl, Int.reduceAdd, decide_true, decide_false, wr1, wr2, wr3, wr4, c0, c1, c2, c3, c4, Nat.reduceMul, Nat.reduceLT, Nat.lt_irrefl, true_and, and_self, ↓reduceIte]
 refine condE_split (fun hc => ?_) (fun hc => ?_)
 rotate_left
 ·simp only [go_sem, Nat.reduceEqDiff, Nat.reduceAdd, Nat.reduceLeDiff, List.length_map, z4, at4, BoxM.at, EvM.at, fillB, Int.reduceLT, Int.reduceLE, Int.reduceToNat, Int.toNat_zero, Int.le_refl, Int.reduceAdd, decide_true, decide_false, wr1, wr2, wr3, wr4, c0, c1, c2, c3, c4, Nat.reduceMul, Nat.reduceLT, Nat.lt_irrefl, true_and, and_self, ↓reduceIte]
 have hi' : i < l.length := by simpa using hc
 have iup := up64 (show i < 1000000 by omega)
 have g1 := get_setC hi'
 have hm := setD_mem hi'
 have hs := hf _ hm
 have pr := krefRight3 _ (by omega : (l.getD i noM).ints.length ≤ 1000000) (by omega)
 have hins := hin _ hm
 generalize l.getD i noM = s at *
 have hsC : setC s = [.val (.bool s.absent), .sl none (s.ints.map encR), .val (.bool s.co), .sl none (s.strs.map encSt)] := rfl
 rw [hsC] at g1 pr
 simp only [nn0, Int.toNat_natCast, g1, go_sem, Nat.reduceEqDiff, Nat.reduceAdd, Nat.reduceLeDiff, List.length_map, z4, at4, BoxM.at, EvM.at, fillB, Int.reduceLT, Int.reduceLE, Int.reduceToNat, Int.toNat_zero, Int.le_refl, Int.reduceAdd, decide_true, decide_false, wr1, wr2, wr3, wr4, c0, c1, c2, c3, c4, Nat.reduceMul, Nat.reduceLT, Nat.lt_irrefl, true_and, and_self, ↓reduceIte]
 refine callP_eq rfl rfl pr ?_
 cases hrr : rightM s
 ·simp only [iup, go_sem, Nat.reduceEqDiff, Nat.reduceAdd, Nat.reduceLeDiff, List.length_map, z4, at4, BoxM.at, EvM.at, fillB, Int.reduceLT, Int.reduceLE, Int.reduceToNat, Int.toNat_zero, Int.le_refl, Int.reduceAdd, decide_true, decide_false, wr1, wr2, wr3, wr4, c0, c1, c2, c3, c4, Nat.reduceMul, Nat.reduceLT, Nat.lt_irrefl, true_and, and_self, ↓reduceIte]
  refine invN_next hi' trivial ?_
  simp only [stL1]
  simp only [go_sem, Nat.reduceEqDiff, Nat.reduceAdd, Nat.reduceLeDiff, List.length_map, z4, at4, BoxM.at, EvM.at, fillB, Int.reduceLT, Int.reduceLE, Int.reduceToNat, Int.toNat_zero, Int.le_refl, Int.reduceAdd, decide_true, decide_false, wr1, wr2, wr3, wr4, c0, c1, c2, c3, c4, Nat.reduceMul, Nat.reduceLT, Nat.lt_irrefl, true_and, and_self, ↓reduceIte]
 have hins := hins hrr
 simp only [go_sem, Nat.reduceEqDiff, Nat.reduceAdd, Nat.reduceLeDiff, List.length_map, z4, at4, BoxM.at, EvM.at, fillB, Int.reduceLT, Int.reduceLE, Int.reduceToNat, Int.toNat_zero, Int.le_refl, Int.reduceAdd, decide_true, decide_false, wr1, wr2, wr3, wr4, c0, c1, c2, c3, c4, Nat.reduceMul, Nat.reduceLT, Nat.lt_irrefl, true_and, and_self, ↓reduceIte]
 refine loop_N (cutR r).length (fun _ => True) (stL2 l r s i) trivial (by simp only [stL2, setC, go_sem, Nat.reduceEqDiff, Nat.reduceAdd, Nat.reduceLeDiff, List.length_map]; try rfl) ?_
 rintro k hk -
 simp only [stL2]
 simp only [go_sem, Nat.reduceEqDiff, Nat.reduceAdd, Nat.reduceLeDiff, List.length_map, z4, at4, BoxM.at, EvM.at, fillB, Int.reduceLT, Int.reduceLE, Int.reduceToNat, Int.toNat_zero, Int.le_refl, Int.reduceAdd, decide_true, decide_false, wr1, wr2, wr3, wr4, c0, c1, c2, c3, c4, Nat.reduceMul, Nat.reduceLT, Nat.lt_irrefl, true_and, and_self, ↓reduceIte]
 refine condE_split (fun hc2 => ?_) (fun hc2 => ?_)
 rotate_left
 ·simp only [iup, go_sem, Nat.reduceEqDiff, Nat.reduceAdd, Nat.reduceLeDiff, List.length_map, z4, at4, BoxM.at, EvM.at, fillB, Int.reduceLT, Int.reduceLE, Int.reduceToNat, Int.toNat_zero, Int.le_refl, Int.reduceAdd, decide_true, decide_false, wr1, wr2, wr3, wr4, c0, c1, c2, c3, c4, Nat.reduceMul, Nat.reduceLT, Nat.lt_irrefl, true_and, and_self, ↓reduceIte]
  refine invN_next hi' trivial ?_
  simp only [stL1]
  simp only [go_sem, Nat.reduceEqDiff, Nat.reduceAdd, Nat.reduceLeDiff, List.length_map, z4, at4, BoxM.at, EvM.at, fillB, Int.reduceLT, Int.reduceLE, Int.reduceToNat, Int.toNat_zero, Int.le_refl, Int.reduceAdd, decide_true, decide_false, wr1, wr2, wr3, wr4, c0, c1, c2, c3, c4, Nat.reduceMul, Nat.reduceLT, Nat.lt_irrefl, true_and, and_self, ↓reduceIte]
 have hk' : k < (cutR r).length := by simpa using hc2
 have kup := up64 (show k < 1000000 by omega)
 have g2 := get_setC hk'
 have hxm := setD_mem hk'
 have hx := hcs _ hxm
 have hxo := cut_ok hok hxm
 have htell := fun p => in_tell (p := p) hok hxm (by omega) hins
 have pp := kPoints5 (l ++ [(cutR r).getD k noM]) (by simp; omega) (fun z hz => (List.mem_append.1 hz).elim (fun h => ⟨by have := (hf z h).1; omega, by have := (hf z h).2; omega⟩) (fun h => by rw [List.mem_singleton.1 h]; exact ⟨by omega, by omega⟩)) (fun z hz => (List.mem_append.1 hz).elim (hb z) (fun h => by rw [List.mem_singleton.1 h]; exact hxo.inb))
 have hplen := fun ps (h : PtsOf (l ++ [(cutR r).getD k noM]) ps) => h.len5 (fun z hz => (List.mem_append.1 hz).elim (fun h => ⟨by have := (hf z h).1; omega, by have := (hf z h).2; omega⟩) (fun h => by rw [List.mem_singleton.1 h]; exact ⟨by omega, by omega⟩))
 have phx := krefHas3 _ (by omega : ((cutR r).getD k noM).ints.length ≤ 1000000) (by omega)
 have phs := krefHas3 s (by omega) (by omega)
 have pin := kcIn _ s ⟨by omega, by omega⟩ hxo.inb ⟨by omega, by omega⟩
 generalize (cutR r).getD k noM = x at *
 rw [List.map_append, List.map_cons, List.map_nil] at pp
 have hxC : setC x = [.val (.bool x.absent), .sl none (x.ints.map encR), .val (.bool x.co), .sl none (x.strs.map encSt)] := rfl
 rw [hxC] at g2 pp phx pin
 rw [hsC] at phs pin
 simp only [nn0, Int.toNat_natCast, g2, go_sem, Nat.reduceEqDiff, Nat.reduceAdd, Nat.reduceLeDiff, List.length_map, z4, at4, BoxM.at, EvM.at, fillB, Int.reduceLT, Int.reduceLE, Int.reduceToNat, Int.toNat_zero, Int.le_refl, Int.reduceAdd, decide_true, decide_false, wr1, wr2, wr3, wr4, c0, c1, c2, c3, c4, Nat.reduceMul, Nat.reduceLT, Nat.lt_irrefl, true_and, and_self, ↓reduceIte]
 refine ⟨setC_len l, by omega, by omega, setC_len l, by rintro y rfl; rfl, by omega, by omega, ?_⟩
 refine callF_by rfl rfl pp ?_
 rintro es ⟨ps, rfl, hps⟩
 have hpl := hplen ps hps
 rw [List.length_append, List.length_singleton] at hpl
 simp only [go_sem, Nat.reduceEqDiff, Nat.reduceAdd, Nat.reduceLeDiff, List.length_map, z4, at4, BoxM.at, EvM.at, fillB, Int.reduceLT, Int.reduceLE, Int.reduceToNat, Int.toNat_zero, Int.le_refl, Int.reduceAdd, decide_true, decide_false, wr1, wr2, wr3, wr4, c0, c1, c2, c3, c4, Nat.reduceMul, Nat.reduceLT, Nat.lt_irrefl, true_and, and_self, ↓reduceIte]
 refine loop_N ps.length (fun _ => True) (stL3 l r s x ps i k) trivial (by simp only [stL3, setC, go_sem, Nat.reduceEqDiff, Nat.reduceAdd, Nat.reduceLeDiff, List.length_map]; try rfl) ?_
 rintro j hj -
 simp only [stL3]
 simp only [go_sem, Nat.reduceEqDiff, Nat.reduceAdd, Nat.reduceLeDiff, List.length_map, z4, at4, BoxM.at, EvM.at, fillB, Int.reduceLT, Int.reduceLE, Int.reduceToNat, Int.toNat_zero, Int.le_refl, Int.reduceAdd, decide_true, decide_false, wr1, wr2, wr3, wr4, c0, c1, c2, c3, c4, Nat.reduceMul, Nat.reduceLT, Nat.lt_irrefl, true_and, and_self, ↓reduceIte]
 refine condE_split (fun hc3 => ?_) (fun hc3 => ?_)
 rotate_left
 ·simp only [kup, go_sem, Nat.reduceEqDiff, Nat.reduceAdd, Nat.reduceLeDiff, List.length_map, z4, at4, BoxM.at, EvM.at, fillB, Int.reduceLT, Int.reduceLE, Int.reduceToNat, Int.toNat_zero, Int.le_refl, Int.reduceAdd, decide_true, decide_false, wr1, wr2, wr3, wr4, c0, c1, c2, c3, c4, Nat.reduceMul, Nat.reduceLT, Nat.lt_irrefl, true_and, and_self, ↓reduceIte]
  refine invN_next hk' trivial ?_
  simp only [stL2]
  simp only [setC, go_sem, Nat.reduceEqDiff, Nat.reduceAdd, Nat.reduceLeDiff, List.length_map, z4, at4, BoxM.at, EvM.at, fillB, Int.reduceLT, Int.reduceLE, Int.reduceToNat, Int.toNat_zero, Int.le_refl, Int.reduceAdd, decide_true, decide_false, wr1, wr2, wr3, wr4, c0, c1, c2, c3, c4, Nat.reduceMul, Nat.reduceLT, Nat.lt_irrefl, true_and, and_self, ↓reduceIte]
 have hj' : j < ps.length := by simpa using hc3
 have jup := up64 (show j < 1000000 by omega)
 have g3 : (ps.map valC)[j]? = some [.val (.int .i64 ps[j].kind), .val (.int .i64 ps[j].n), .val (.string ps[j].s)] := by simp [valC, hj']
 have htp := htell ps[j]
 have phx' := phx ps[j]
 have phs' := phs ps[j]
 unfold valC at phx' phs'
 simp only [nn0, Int.toNat_natCast, g3, setC, go_sem, Nat.reduceEqDiff, Nat.reduceAdd, Nat.reduceLeDiff, List.length_map, z4, at4, BoxM.at, EvM.at, fillB, Int.reduceLT, Int.reduceLE, Int.reduceToNat, Int.toNat_zero, Int.le_refl, Int.reduceAdd, decide_true, decide_false, wr1, wr2, wr3, wr4, c0, c1, c2, c3, c4, Nat.reduceMul, Nat.reduceLT, Nat.lt_irrefl, true_and, and_self, ↓reduceIte]
 refine callQ_by _ rfl rfl phx' ?_
 cases hh : hasM x ps[j]
 ·simp only [jup, go_sem, Nat.reduceEqDiff, Nat.reduceAdd, Nat.reduceLeDiff, List.length_map, z4, at4, BoxM.at, EvM.at, fillB, Int.reduceLT, Int.reduceLE, Int.reduceToNat, Int.toNat_zero, Int.le_refl, Int.reduceAdd, decide_true, decide_false, wr1, wr2, wr3, wr4, c0, c1, c2, c3, c4, Nat.reduceMul, Nat.reduceLT, Nat.lt_irrefl, true_and, and_self, ↓reduceIte]
  refine invN_next hj' trivial ?_
  simp only [stL3]
  simp only [setC, go_sem, Nat.reduceEqDiff, Nat.reduceAdd, Nat.reduceLeDiff, List.length_map, z4, at4, BoxM.at, EvM.at, fillB, Int.reduceLT, Int.reduceLE, Int.reduceToNat, Int.toNat_zero, Int.le_refl, Int.reduceAdd, decide_true, decide_false, wr1, wr2, wr3, wr4, c0, c1, c2, c3, c4, Nat.reduceMul, Nat.reduceLT, Nat.lt_irrefl, true_and, and_self, ↓reduceIte]
 ·rw [htp hh] at phs'
  simp only [go_sem, Nat.reduceEqDiff, Nat.reduceAdd, Nat.reduceLeDiff, List.length_map, z4, at4, BoxM.at, EvM.at, fillB, Int.reduceLT, Int.reduceLE, Int.reduceToNat, Int.toNat_zero, Int.le_refl, Int.reduceAdd, decide_true, decide_false, wr1, wr2, wr3, wr4, c0, c1, c2, c3, c4, Nat.reduceMul, Nat.reduceLT, Nat.lt_irrefl, true_and, and_self, ↓reduceIte]
  refine callQ_by _ rfl rfl phs' ?_
  simp only [go_sem, Nat.reduceEqDiff, Nat.reduceAdd, Nat.reduceLeDiff, List.length_map, z4, at4, BoxM.at, EvM.at, fillB, Int.reduceLT, Int.reduceLE, Int.reduceToNat, Int.toNat_zero, Int.le_refl, Int.reduceAdd, decide_true, decide_false, wr1, wr2, wr3, wr4, c0, c1, c2, c3, c4, Nat.reduceMul, Nat.reduceLT, Nat.lt_irrefl, true_and, and_self, ↓reduceIte]
  refine callQ_by _ rfl rfl pin ?_
  have hne : (inC x s != inC x s) = false := by simp
  have hne' : (inC x s == inC x s) = true := by simp
  simp only [hne, hne', Bool.not_true, jup, go_sem, Nat.reduceEqDiff, Nat.reduceAdd, Nat.reduceLeDiff, List.length_map, z4, at4, BoxM.at, EvM.at, fillB, Int.reduceLT, Int.reduceLE, Int.reduceToNat, Int.toNat_zero, Int.le_refl, Int.reduceAdd, decide_true, decide_false, wr1, wr2, wr3, wr4, c0, c1, c2, c3, c4, Nat.reduceMul, Nat.reduceLT, Nat.lt_irrefl, true_and, and_self, ↓reduceIte]
  refine invN_next hj' trivial ?_
  simp only [stL3]
  simp only [setC, go_sem, Nat.reduceEqDiff, Nat.reduceAdd, Nat.reduceLeDiff, List.length_map, z4, at4, BoxM.at, EvM.at, fillB, Int.reduceLT, Int.reduceLE, Int.reduceToNat, Int.toNat_zero, Int.le_refl, Int.reduceAdd, decide_true, decide_false, wr1, wr2, wr3, wr4, c0, c1, c2, c3, c4, Nat.reduceMul, Nat.reduceLT, Nat.lt_irrefl, true_and, and_self, ↓reduceIte]
end Go.Proofs
