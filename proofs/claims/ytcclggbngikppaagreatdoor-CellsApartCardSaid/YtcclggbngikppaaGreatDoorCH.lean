/- A part of the proof; what is proved stands in the last text. -/
import Derived.Test.YtcclggbngikppaaGreatDoorCG
import Derived.Test.YtcclggbngikppaaGreatDoorTN
import Derived.Test.YtcclggbngikppaaGreatDoorCB
set_option linter.unusedVariables false
set_option maxRecDepth 2000
namespace Go.Proofs
open Go.Vm
set_option linter.unusedSimpArgs false
theorem kcIn (x s : SetM) (hx : x.ints.length ≤ 100000 ∧ x.strs.length ≤ 100000) (hb : Bnd x) (hs : s.ints.length ≤ 1000000 ∧ s.strs.length ≤ 1000000) : PureAt Tryz.prog 30 [.agg (setC x), .agg (setC s)] (· = .val (.bool (inC x s))) := by
 have ps := kSample x hx.1 hx.2 hb
 have ph := kHas s hs.1 hs.2 (sampleM x).1
 refine pure_of r30 (by kernel_rfl) ?_
 unfold m30
 unfold inC
 generalize sampleM x = w at *
 obtain ⟨⟨qk, qn, qs⟩, b⟩ := w
 unfold setC valC at ps ph
 simp only [setC, go_sem, Nat.reduceEqDiff, Nat.reduceAdd, Nat.reduceLeDiff, List.length_map, z4, at4, BoxM.at, EvM.at, fillB, Int.reduceLT, Int.reduceLE, Int.reduceToNat, Int.toNat_zero, Int.le_refl, Int.reduceAdd, decide_true, decide_false, wr1, wr2, wr3, wr4, c0, c1, c2, c3, c4, Nat.reduceMul, Nat.reduceLT, Nat.lt_irrefl, true_and, and_self, ↓reduceIte]
 refine callP_eq rfl rfl ps ?_
 cases b
 ·simp only [valC, go_sem, Nat.reduceEqDiff, Nat.reduceAdd, Nat.reduceLeDiff, List.length_map, z4, at4, BoxM.at, EvM.at, fillB, Int.reduceLT, Int.reduceLE, Int.reduceToNat, Int.toNat_zero, Int.le_refl, Int.reduceAdd, decide_true, decide_false, wr1, wr2, wr3, wr4, c0, c1, c2, c3, c4, Nat.reduceMul, Nat.reduceLT, Nat.lt_irrefl, true_and, and_self, ↓reduceIte]
 ·simp only [valC, go_sem, Nat.reduceEqDiff, Nat.reduceAdd, Nat.reduceLeDiff, List.length_map, z4, at4, BoxM.at, EvM.at, fillB, Int.reduceLT, Int.reduceLE, Int.reduceToNat, Int.toNat_zero, Int.le_refl, Int.reduceAdd, decide_true, decide_false, wr1, wr2, wr3, wr4, c0, c1, c2, c3, c4, Nat.reduceMul, Nat.reduceLT, Nat.lt_irrefl, true_and, and_self, ↓reduceIte]
  refine callP_eq rfl rfl ph ?_
  simp only [go_sem, Nat.reduceEqDiff, Nat.reduceAdd, Nat.reduceLeDiff, List.length_map, z4, at4, BoxM.at, EvM.at, fillB, Int.reduceLT, Int.reduceLE, Int.reduceToNat, Int.toNat_zero, Int.le_refl, Int.reduceAdd, decide_true, decide_false, wr1, wr2, wr3, wr4, c0, c1, c2, c3, c4, Nat.reduceMul, Nat.reduceLT, Nat.lt_irrefl, true_and, and_self, ↓reduceIte]
theorem in_tell {r : List SetM} (h : AllOK r) {x s : SetM} (hx : x ∈ cutR r) (hl : x.strs.length ≤ 100000) (hs : s ∈ r) {p : ValM} (hp : hasM x p = true) : hasM s p = inC x s := by
 obtain ⟨s1, s2, -, -⟩ := sample_has (cut_ok h hx) hl (cut_full h hx)
 unfold inC
 rw [s1, Bool.true_and, cut_whole h hx hs hp s2]
def stL1 (l r : List SetM) (i : Nat) : St := ⟨[(0, .sl none (l.map setC)), (3, .sl none ((cutR r).map setC)), (32, .sl none (l.map setC)), (33, .val (.int .i64 l.length)), (34, .val (.int .i64 i))], [], []⟩
def stL2 (l r : List SetM) (s : SetM) (i k : Nat) : St := ⟨[(0, .sl none (l.map setC)), (3, .sl none ((cutR r).map setC)), (5, .ptr 5 0), (32, .sl none (l.map setC)), (33, .val (.int .i64 l.length)), (34, .val (.int .i64 i)), (41, .sl none ((cutR r).map setC)), (42, .val (.int .i64 (cutR r).length)), (43, .val (.int .i64 k))], [(5, setC s)], []⟩
def stL3 (l r : List SetM) (s x : SetM) (ps : List ValM) (i k j : Nat) : St := ⟨[(0, .sl none (l.map setC)), (3, .sl none ((cutR r).map setC)), (5, .ptr 5 0), (7, .ptr 7 0), (32, .sl none (l.map setC)), (33, .val (.int .i64 l.length)), (34, .val (.int .i64 i)), (41, .sl none ((cutR r).map setC)), (42, .val (.int .i64 (cutR r).length)), (43, .val (.int .i64 k)), (53, .sl (some (53, 24, 3)) (ps.map valC)), (54, .val (.int .i64 ps.length)), (55, .val (.int .i64 j))], [(5, setC s), (7, setC x)], [((53, 24, 3), true)]⟩
set_option maxHeartbeats 8000000 in
theorem kCellsCut (l : List SetM) (hb : ∀ s ∈ l, Bnd s) (_ : l.length ≤ maxLen) : PureAt Tryz.prog 7 [.sl none (l.map setC)] (· = .val (.bool true)) := by
 refine pure_of r7 (by kernel_rfl) ?_
 unfold m7
 simp only [go_sem, Nat.reduceEqDiff, Nat.reduceAdd, Nat.reduceLeDiff, List.length_map, z4, at4, BoxM.at, EvM.at, fillB, Int.reduceLT, Int.reduceLE, Int.reduceToNat, Int.toNat_zero, Int.le_refl, Int.reduceAdd, decide_true, decide_false, wr1, wr2, wr3, wr4, c0, c1, c2, c3, c4, Nat.reduceMul, Nat.reduceLT, Nat.lt_irrefl, true_and, and_self, ↓reduceIte]
 refine callP_eq rfl rfl kawake09 ?_
 by_cases h1 : l.length ≤ 12
 rotate_left
 ·have d1 : decide ((l.length : Int) > 12) = true := by simp; omega
  simp only [d1, go_sem, Nat.reduceEqDiff, Nat.reduceAdd, Nat.reduceLeDiff, List.length_map, z4, at4, BoxM.at, EvM.at, fillB, Int.reduceLT, Int.reduceLE, Int.reduceToNat, Int.toNat_zero, Int.le_refl, Int.reduceAdd, decide_true, decide_false, wr1, wr2, wr3, wr4, c0, c1, c2, c3, c4, Nat.reduceMul, Nat.reduceLT, Nat.lt_irrefl, true_and, and_self, ↓reduceIte]
  refine callP_eq rfl rfl kawake09 ?_
  simp only [go_sem, Nat.reduceEqDiff, Nat.reduceAdd, Nat.reduceLeDiff, List.length_map, z4, at4, BoxM.at, EvM.at, fillB, Int.reduceLT, Int.reduceLE, Int.reduceToNat, Int.toNat_zero, Int.le_refl, Int.reduceAdd, decide_true, decide_false, wr1, wr2, wr3, wr4, c0, c1, c2, c3, c4, Nat.reduceMul, Nat.reduceLT, Nat.lt_irrefl, true_and, and_self, ↓reduceIte]
 have d1 : decide ((l.length : Int) > 12) = false := by simp; omega
 simp only [d1, go_sem, Nat.reduceEqDiff, Nat.reduceAdd, Nat.reduceLeDiff, List.length_map, z4, at4, BoxM.at, EvM.at, fillB, Int.reduceLT, Int.reduceLE, Int.reduceToNat, Int.toNat_zero, Int.le_refl, Int.reduceAdd, decide_true, decide_false, wr1, wr2, wr3, wr4, c0, c1, c2, c3, c4, Nat.reduceMul, Nat.reduceLT, Nat.lt_irrefl, true_and, and_self, ↓reduceIte]
 refine callP_by rfl rfl (krefFew3 l (by omega)) ?_
 rintro d ⟨bf, rfl, hf⟩
 cases bf
 ·simp only [go_sem, Nat.reduceEqDiff, Nat.reduceAdd, Nat.reduceLeDiff, List.length_map, z4, at4, BoxM.at, EvM.at, fillB, Int.reduceLT, Int.reduceLE, Int.reduceToNat, Int.toNat_zero, Int.le_refl, Int.reduceAdd, decide_true, decide_false, wr1, wr2, wr3, wr4, c0, c1, c2, c3, c4, Nat.reduceMul, Nat.reduceLT, Nat.lt_irrefl, true_and, and_self, ↓reduceIte]
  refine callP_eq rfl rfl kawake09 ?_
  simp only [go_sem, Nat.reduceEqDiff, Nat.reduceAdd, Nat.reduceLeDiff, List.length_map, z4, at4, BoxM.at, EvM.at, fillB, Int.reduceLT, Int.reduceLE, Int.reduceToNat, Int.toNat_zero, Int.le_refl, Int.reduceAdd, decide_true, decide_false, wr1, wr2, wr3, wr4, c0, c1, c2, c3, c4, Nat.reduceMul, Nat.reduceLT, Nat.lt_irrefl, true_and, and_self, ↓reduceIte]
 have hf := hf rfl
 have hok := rOf_ok hb
 have hrl : (rOf l).length ≤ 12 := Nat.le_trans (List.length_filter_le _ _) h1
 have hrs : ∀ s ∈ rOf l, s.ints.length ≤ 40 ∧ s.strs.length ≤ 40 := fun s h => hf s (rOf_mem h).1
 have pc := kCutA l hb (by omega) (few_up hf)
 have p9 := kCut9 l hb (by omega) (few_up hf)
 have hcl := cut_length hrl hrs
 have hcs := fun x (hx : x ∈ cutR (rOf l)) => cut_sz hok hrl hrs hx
 have hin : ∀ s ∈ l, rightM s = true → s ∈ rOf l := fun s m h => List.mem_filter.2 ⟨m, h⟩
 have psa := kSameAll9 (cutR (rOf l)) (by omega) (fun s h => ⟨by have := (hcs s h).1; omega, by have := (hcs s h).2; omega⟩)
 generalize rOf l = r at *
 simp only [go_sem, Nat.reduceEqDiff, Nat.reduceAdd, Nat.reduceLeDiff, List.length_map, z4, at4, BoxM.at, EvM.at, fillB, Int.reduceLT, Int.reduceLE, Int.reduceToNat, Int.toNat_zero, Int.le_refl, Int.reduceAdd, decide_true, decide_false, wr1, wr2, wr3, wr4, c0, c1, c2, c3, c4, Nat.reduceMul, Nat.reduceLT, Nat.lt_irrefl, true_and, and_self, ↓reduceIte]
 refine ⟨setC_len l, by omega, by omega, ?_⟩
 refine callP_eq rfl rfl pc ?_
 simp only [go_sem, Nat.reduceEqDiff, Nat.reduceAdd, Nat.reduceLeDiff, List.length_map, z4, at4, BoxM.at, EvM.at, fillB, Int.reduceLT, Int.reduceLE, Int.reduceToNat, Int.toNat_zero, Int.le_refl, Int.reduceAdd, decide_true, decide_false, wr1, wr2, wr3, wr4, c0, c1, c2, c3, c4, Nat.reduceMul, Nat.reduceLT, Nat.lt_irrefl, true_and, and_self, ↓reduceIte]
 refine callP_eq rfl rfl p9 ?_
 simp only [go_sem, Nat.reduceEqDiff, Nat.reduceAdd, Nat.reduceLeDiff, List.length_map, z4, at4, BoxM.at, EvM.at, fillB, Int.reduceLT, Int.reduceLE, Int.reduceToNat, Int.toNat_zero, Int.le_refl, Int.reduceAdd, decide_true, decide_false, wr1, wr2, wr3, wr4, c0, c1, c2, c3, c4, Nat.reduceMul, Nat.reduceLT, Nat.lt_irrefl, true_and, and_self, ↓reduceIte]
 refine callP_eq rfl rfl psa ?_
 simp only [go_sem, Nat.reduceEqDiff, Nat.reduceAdd, Nat.reduceLeDiff, List.length_map, z4, at4, BoxM.at, EvM.at, fillB, Int.reduceLT, Int.reduceLE, Int.reduceToNat, Int.toNat_zero, Int.le_refl, Int.reduceAdd, decide_true, decide_false, wr1, wr2, wr3, wr4, c0, c1, c2, c3, c4, Nat.reduceMul, Nat.reduceLT, Nat.lt_irrefl, true_and, and_self, ↓reduceIte]
 refine loop_N l.length (fun _ => True) (stL1 l r) trivial (by simp only [stL1, go_sem, Nat.reduceEqDiff, Nat.reduceAdd, Nat.reduceLeDiff, List.length_map]; rfl) ?_
 rintro i hi -
 simp only [stL1]
 simp only [go_sem, Nat.reduceEqDiff, Nat.reduceAdd, Nat.reduceLeDiff, List.length_map, z4, at4, BoxM.at, EvM.at, fillB, Int.reduceLT, Int.reduceLE, Int.reduceToNat, Int.toNat_zero, Int.le_refl, Int.reduceAdd, decide_true, decide_false, wr1, wr2, wr3, wr4, c0, c1, c2, c3, c4, Nat.reduceMul, Nat.reduceLT, Nat.lt_irrefl, true_and, and_self, ↓reduceIte]
 refine condE_split (fun hc => ?_) (fun hc => ?_)
 rotate_left
 ·simp only [go_sem, Nat.reduceEqDiff, Nat.reduceAdd, Nat.reduceLeDiff, List.length_map, z4, at4, BoxM.at, EvM.at, fillB, Int.reduceLT, Int.reduceLE, Int.reduceToNat, Int.toNat_zero, Int.le_refl, Int.reduceAdd, decide_true, decide_false, wr1, wr2, wr3, wr4, c0, c1, c2, c3, c4, Nat.reduceMul, Nat.reduceLT, Nat.lt_irrefl, true_and, and_self, ↓reduceIte]
 have hi' : i < l.length := by simpa using hc
 have iup := up64 (show i < 1000000 by omega)
 have g1 := get_setC hi'
 have hm := setD_mem hi'
 have hs := hf _ hm
 have pr := krefRight3 _ (by omega : (l.getD i noM).ints.length ≤ 1000000) (by omega)
 have hins := hin _ hm
 generalize l.getD i noM = s at *
 have hsC : setC s = [.val (.bool s.absent), .sl none (s.ints.map encR), .val (.bool s.co), .sl none (s.strs.map encSt)] := rfl
 rw [hsC] at g1 pr
 simp only [nn0, Int.toNat_natCast, g1, go_sem, Nat.reduceEqDiff, Nat.reduceAdd, Nat.reduceLeDiff, List.length_map, z4, at4, BoxM.at, EvM.at, fillB, Int.reduceLT, Int.reduceLE, Int.reduceToNat, Int.toNat_zero, Int.le_refl, Int.reduceAdd, decide_true, decide_false, wr1, wr2, wr3, wr4, c0, c1, c2, c3, c4, Nat.reduceMul, Nat.reduceLT, Nat.lt_irrefl, true_and, and_self, ↓reduceIte]
 refine callP_eq rfl rfl pr ?_
 cases hrr : rightM s
 ·simp only [iup, go_sem, Nat.reduceEqDiff, Nat.reduceAdd, Nat.reduceLeDiff, List.length_map, z4, at4, BoxM.at, EvM.at, fillB, Int.reduceLT, Int.reduceLE, Int.reduceToNat, Int.toNat_zero, Int.le_refl, Int.reduceAdd, decide_true, decide_false, wr1, wr2, wr3, wr4, c0, c1, c2, c3, c4, Nat.reduceMul, Nat.reduceLT, Nat.lt_irrefl, true_and, and_self, ↓reduceIte]
  refine invN_next hi' trivial ?_
  simp only [stL1]
  simp only [go_sem, Nat.reduceEqDiff, Nat.reduceAdd, Nat.reduceLeDiff, List.length_map, z4, at4, BoxM.at, EvM.at, fillB, Int.reduceLT, Int.reduceLE, Int.reduceToNat, Int.toNat_zero, Int.le_refl, Int.reduceAdd, decide_true, decide_false, wr1, wr2, wr3, wr4, c0, c1, c2, c3, c4, Nat.reduceMul, Nat.reduceLT, Nat.lt_irrefl, true_and, and_self, ↓reduceIte]
 have hins := hins hrr
 simp only [go_sem, Nat.reduceEqDiff, Nat.reduceAdd, Nat.reduceLeDiff, List.length_map, z4, at4, BoxM.at, EvM.at, fillB, Int.reduceLT, Int.reduceLE, Int.reduceToNat, Int.toNat_zero, Int.le_refl, Int.reduceAdd, decide_true, decide_false, wr1, wr2, wr3, wr4, c0, c1, c2, c3, c4, Nat.reduceMul, Nat.reduceLT, Nat.lt_irrefl, true_and, and_self, ↓reduceIte]
 refine loop_N (cutR r).length (fun _ => True) (stL2 l r s i) trivial (by simp only [stL2, setC, go_sem, Nat.reduceEqDiff, Nat.reduceAdd, Nat.reduceLeDiff, List.length_map]; try rfl) ?_
 rintro k hk -
 simp only [stL2]
 simp only [go_sem, Nat.reduceEqDiff, Nat.reduceAdd, Nat.reduceLeDiff, List.length_map, z4, at4, BoxM.at, EvM.at, fillB, Int.reduceLT, Int.reduceLE, Int.reduceToNat, Int.toNat_zero, Int.le_refl, Int.reduceAdd, decide_true, decide_false, wr1, wr2, wr3, wr4, c0, c1, c2, c3, c4, Nat.reduceMul, Nat.reduceLT, Nat.lt_irrefl, true_and, and_self, ↓reduceIte]
 refine condE_split (fun hc2 => ?_) (fun hc2 => ?_)
 rotate_left
 ·simp only [iup, go_sem, Nat.reduceEqDiff, Nat.reduceAdd, Nat.reduceLeDiff, List.length_map, z4, at4, BoxM.at, EvM.at, fillB, Int.reduceLT, Int.reduceLE, Int.reduceToNat, Int.toNat_zero, Int.le_refl, Int.reduceAdd, decide_true, decide_false, wr1, wr2, wr3, wr4, c0, c1, c2, c3, c4, Nat.reduceMul, Nat.reduceLT, Nat.lt_irrefl, true_and, and_self, ↓reduceIte]
  refine invN_next hi' trivial ?_
  simp only [stL1]
  simp only [go_sem, Nat.reduceEqDiff, Nat.reduceAdd, Nat.reduceLeDiff, List.length_map, z4, at4, BoxM.at, EvM.at, fillB, Int.reduceLT, Int.reduceLE, Int.reduceToNat, Int.toNat_zero, Int.le_refl, Int.reduceAdd, decide_true, decide_false, wr1, wr2, wr3, wr4, c0, c1, c2, c3, c4, Nat.reduceMul, Nat.reduceLT, Nat.lt_irrefl, true_and, and_self, ↓reduceIte]
 have hk' : k < (cutR r).length := by simpa using hc2
 have kup := up64 (show k < 1000000 by omega)
 have g2 := get_setC hk'
 have hxm := setD_mem hk'
 have hx := hcs _ hxm
 have hxo := cut_ok hok hxm
 have htell := fun p => in_tell (p := p) hok hxm (by omega) hins
 have pp := kPoints5 (l ++ [(cutR r).getD k noM]) (by simp; omega) (fun z hz => (List.mem_append.1 hz).elim (fun h => ⟨by have := (hf z h).1; omega, by have := (hf z h).2; omega⟩) (fun h => by rw [List.mem_singleton.1 h]; exact ⟨by omega, by omega⟩)) (fun z hz => (List.mem_append.1 hz).elim (hb z) (fun h => by rw [List.mem_singleton.1 h]; exact hxo.inb))
 have hplen := fun ps (h : PtsOf (l ++ [(cutR r).getD k noM]) ps) => h.len5 (fun z hz => (List.mem_append.1 hz).elim (fun h => ⟨by have := (hf z h).1; omega, by have := (hf z h).2; omega⟩) (fun h => by rw [List.mem_singleton.1 h]; exact ⟨by omega, by omega⟩))
 have phx := krefHas3 _ (by omega : ((cutR r).getD k noM).ints.length ≤ 1000000) (by omega)
 have phs := krefHas3 s (by omega) (by omega)
 have pin := kcIn _ s ⟨by omega, by omega⟩ hxo.inb ⟨by omega, by omega⟩
 generalize (cutR r).getD k noM = x at *
 rw [List.map_append, List.map_cons, List.map_nil] at pp
 have hxC : setC x = [.val (.bool x.absent), .sl none (x.ints.map encR), .val (.bool x.co), .sl none (x.strs.map encSt)] := rfl
 rw [hxC] at g2 pp phx pin
 rw [hsC] at phs pin
 simp only [nn0, Int.toNat_natCast, g2, go_sem, Nat.reduceEqDiff, Nat.reduceAdd, Nat.reduceLeDiff, List.length_map, z4, at4, BoxM.at, EvM.at, fillB, Int.reduceLT, Int.reduceLE, Int.reduceToNat, Int.toNat_zero, Int.le_refl, Int.reduceAdd, decide_true, decide_false, wr1, wr2, wr3, wr4, c0, c1, c2, c3, c4, Nat.reduceMul, Nat.reduceLT, Nat.lt_irrefl, true_and, and_self, ↓reduceIte]
 refine ⟨setC_len l, by omega, by omega, setC_len l, by rintro y rfl; rfl, by omega, by omega, ?_⟩
 refine callF_by rfl rfl pp ?_
 rintro es ⟨ps, rfl, hps⟩
 have hpl := hplen ps hps
 rw [List.length_append, List.length_singleton] at hpl
 simp only [go_sem, Nat.reduceEqDiff, Nat.reduceAdd, Nat.reduceLeDiff, List.length_map, z4, at4, BoxM.at, EvM.at, fillB, Int.reduceLT, Int.reduceLE, Int.reduceToNat, Int.toNat_zero, Int.le_refl, Int.reduceAdd, decide_true, decide_false, wr1, wr2, wr3, wr4, c0, c1, c2, c3, c4, Nat.reduceMul, Nat.reduceLT, Nat.lt_irrefl, true_and, and_self, ↓reduceIte]
 refine loop_N ps.length (fun _ => True) (stL3 l r s x ps i k) trivial (by simp only [stL3, setC, go_sem, Nat.reduceEqDiff, Nat.reduceAdd, Nat.reduceLeDiff, List.length_map]; try rfl) ?_
 rintro j hj -
 simp only [stL3]
 simp only [go_sem, Nat.reduceEqDiff, Nat.reduceAdd, Nat.reduceLeDiff, List.length_map, z4, at4, BoxM.at, EvM.at, fillB, Int.reduceLT, Int.reduceLE, Int.reduceToNat, Int.toNat_zero, Int.le_refl, Int.reduceAdd, decide_true, decide_false, wr1, wr2, wr3, wr4, c0, c1, c2, c3, c4, Nat.reduceMul, Nat.reduceLT, Nat.lt_irrefl, true_and, and_self, ↓reduceIte]
 refine condE_split (fun hc3 => ?_) (fun hc3 => ?_)
 rotate_left
 ·simp only [kup, go_sem, Nat.reduceEqDiff, Nat.reduceAdd, Nat.reduceLeDiff, List.length_map, z4, at4, BoxM.at, EvM.at, fillB, Int.reduceLT, Int.reduceLE, Int.reduceToNat, Int.toNat_zero, Int.le_refl, Int.reduceAdd, decide_true, decide_false, wr1, wr2, wr3, wr4, c0, c1, c2, c3, c4, Nat.reduceMul, Nat.reduceLT, Nat.lt_irrefl, true_and, and_self, ↓reduceIte]
  refine invN_next hk' trivial ?_
  simp only [stL2]
  simp only [setC, go_sem, Nat.reduceEqDiff, Nat.reduceAdd, Nat.reduceLeDiff, List.length_map, z4, at4, BoxM.at, EvM.at, fillB, Int.reduceLT, Int.reduceLE, Int.reduceToNat, Int.toNat_zero, Int.le_refl, Int.reduceAdd, decide_true, decide_false, wr1, wr2, wr3, wr4, c0, c1, c2, c3, c4, Nat.reduceMul, Nat.reduceLT, Nat.lt_irrefl, true_and, and_self, ↓reduceIte]
 have hj' : j < ps.length := by simpa using hc3
 have jup := up64 (show j < 1000000 by omega)
 have g3 : (ps.map valC)[j]? = some [.val (.int .i64 ps[j].kind), .val (.int .i64 ps[j].n), .val (.string ps[j].s)] := by simp [valC, hj']
 have htp := htell ps[j]
 have phx' := phx ps[j]
 have phs' := phs ps[j]
 unfold valC at phx' phs'
 simp only [nn0, Int.toNat_natCast, g3, setC, go_sem, Nat.reduceEqDiff, Nat.reduceAdd, Nat.reduceLeDiff, List.length_map, z4, at4, BoxM.at, EvM.at, fillB, Int.reduceLT, Int.reduceLE, Int.reduceToNat, Int.toNat_zero, Int.le_refl, Int.reduceAdd, decide_true, decide_false, wr1, wr2, wr3, wr4, c0, c1, c2, c3, c4, Nat.reduceMul, Nat.reduceLT, Nat.lt_irrefl, true_and, and_self, ↓reduceIte]
 refine callQ_by _ rfl rfl phx' ?_
 cases hh : hasM x ps[j]
 ·simp only [jup, go_sem, Nat.reduceEqDiff, Nat.reduceAdd, Nat.reduceLeDiff, List.length_map, z4, at4, BoxM.at, EvM.at, fillB, Int.reduceLT, Int.reduceLE, Int.reduceToNat, Int.toNat_zero, Int.le_refl, Int.reduceAdd, decide_true, decide_false, wr1, wr2, wr3, wr4, c0, c1, c2, c3, c4, Nat.reduceMul, Nat.reduceLT, Nat.lt_irrefl, true_and, and_self, ↓reduceIte]
  refine invN_next hj' trivial ?_
  simp only [stL3]
  simp only [setC, go_sem, Nat.reduceEqDiff, Nat.reduceAdd, Nat.reduceLeDiff, List.length_map, z4, at4, BoxM.at, EvM.at, fillB, Int.reduceLT, Int.reduceLE, Int.reduceToNat, Int.toNat_zero, Int.le_refl, Int.reduceAdd, decide_true, decide_false, wr1, wr2, wr3, wr4, c0, c1, c2, c3, c4, Nat.reduceMul, Nat.reduceLT, Nat.lt_irrefl, true_and, and_self, ↓reduceIte]
 ·rw [htp hh] at phs'
  simp only [go_sem, Nat.reduceEqDiff, Nat.reduceAdd, Nat.reduceLeDiff, List.length_map, z4, at4, BoxM.at, EvM.at, fillB, Int.reduceLT, Int.reduceLE, Int.reduceToNat, Int.toNat_zero, Int.le_refl, Int.reduceAdd, decide_true, decide_false, wr1, wr2, wr3, wr4, c0, c1, c2, c3, c4, Nat.reduceMul, Nat.reduceLT, Nat.lt_irrefl, true_and, and_self, ↓reduceIte]
  refine callQ_by _ rfl rfl phs' ?_
  simp only [go_sem, Nat.reduceEqDiff, Nat.reduceAdd, Nat.reduceLeDiff, List.length_map, z4, at4, BoxM.at, EvM.at, fillB, Int.reduceLT, Int.reduceLE, Int.reduceToNat, Int.toNat_zero, Int.le_refl, Int.reduceAdd, decide_true, decide_false, wr1, wr2, wr3, wr4, c0, c1, c2, c3, c4, Nat.reduceMul, Nat.reduceLT, Nat.lt_irrefl, true_and, and_self, ↓reduceIte]
  refine callQ_by _ rfl rfl pin ?_
  have hne : (inC x s != inC x s) = false := by simp
  have hne' : (inC x s == inC x s) = true := by simp
  simp only [hne, hne', Bool.not_true, jup, go_sem, Nat.reduceEqDiff, Nat.reduceAdd, Nat.reduceLeDiff, List.length_map, z4, at4, BoxM.at, EvM.at, fillB, Int.reduceLT, Int.reduceLE, Int.reduceToNat, Int.toNat_zero, Int.le_refl, Int.reduceAdd, decide_true, decide_false, wr1, wr2, wr3, wr4, c0, c1, c2, c3, c4, Nat.reduceMul, Nat.reduceLT, Nat.lt_irrefl, true_and, and_self, ↓reduceIte]
  refine invN_next hj' trivial ?_
  simp only [stL3]
  simp only [setC, go_sem, Nat.reduceEqDiff, Nat.reduceAdd, Nat.reduceLeDiff, List.length_map, z4, at4, BoxM.at, EvM.at, fillB, Int.reduceLT, Int.reduceLE, Int.reduceToNat, Int.toNat_zero, Int.le_refl, Int.reduceAdd, decide_true, decide_false, wr1, wr2, wr3, wr4, c0, c1, c2, c3, c4, Nat.reduceMul, Nat.reduceLT, Nat.lt_irrefl, true_and, and_self, ↓reduceIte]
end Go.Proofs

namespace Go.Proofs
open Go.Vm
set_option linter.unusedSimpArgs false
theorem strsN_app (a b : List SetM) : strsN (a ++ b) = strsN a + strsN b := by unfold strsN; simp
theorem intsN_app (a b : List SetM) : intsN (a ++ b) = intsN a + intsN b := by unfold intsN; simp
theorem strsN_cons (a : SetM) (b : List SetM) : strsN (a :: b) = a.strs.length + strsN b := by unfold strsN; simp
theorem intsN_cons (a : SetM) (b : List SetM) : intsN (a :: b) = a.ints.length + intsN b := by unfold intsN; simp
theorem cellsI_N : ∀ (E : List Int) (lo : Int), strsN (cellsI lo E) = 0 ∧ intsN (cellsI lo E) = E.length
 | [], lo => ⟨rfl, rfl⟩
 | e :: E, lo => by
  have := cellsI_N E (e + 1)
  rw [cellsI_cons, strsN_cons, intsN_cons, this.1, this.2]
  simp [cellN]; omega
theorem cellS_N : ∀ (L : List ByteArray), strsN (L.map cellS) = L.length ∧ intsN (L.map cellS) = 0
 | [] => ⟨rfl, rfl⟩
 | t :: L => by
  have := cellS_N L
  rw [List.map_cons, strsN_cons, intsN_cons, this.1, this.2]
  simp [cellS]; omega
theorem cut_N (r : List SetM) : strsN (cutR r) = 2 * (namesM r).length ∧ intsN (cutR r) = (endsM r).length := by
 unfold cutR
 rw [strsN_cons, intsN_cons, strsN_app, intsN_app, strsN_app, intsN_app, (cellsI_N _ _).1, (cellsI_N _ _).2, (cellS_N _).1, (cellS_N _).2, strsN_cons, intsN_cons]
 simp [strsN, intsN]; omega
theorem take_N (L : List SetM) (j : Nat) : strsN (L.take j) ≤ strsN L ∧ intsN (L.take j) ≤ intsN L := by
 have h1 := strsN_app (L.take j) (L.drop j)
 have h2 := intsN_app (L.take j) (L.drop j)
 rw [List.take_append_drop] at h1 h2
 omega
theorem at_N {L : List SetM} {j : Nat} (h : j < L.length) : strsN (L.take j) + (L.getD j noM).strs.length ≤ strsN L ∧ intsN (L.take j) + (L.getD j noM).ints.length ≤ intsN L := by
 have h1 := take_N L (j + 1)
 rw [take_get L j noM h, strsN_app, intsN_app, strsN_cons, intsN_cons] at h1
 have e1 : strsN [] = 0 := rfl
 have e2 : intsN [] = 0 := rfl
 omega
def sumO (r : List SetM) (s : SetM) (k : Nat) : SetM := orsM (((cutR r).take k).filter fun c => inC c s)
theorem sumO_next {r : List SetM} {s : SetM} {k : Nat} (h : k < (cutR r).length) : sumO r s (k + 1) = if inC ((cutR r).getD k noM) s = true then orM normR (sumO r s k) ((cutR r).getD k noM) else sumO r s k := by
 unfold sumO
 rw [take_get _ k noM h, List.filter_append]
 by_cases hi : inC ((cutR r).getD k noM) s = true
 ·rw [if_pos hi, List.filter_cons_of_pos (p := fun c => inC c s) hi, List.filter_nil, orsM_snoc]
 ·rw [if_neg hi, List.filter_cons_of_neg (p := fun c => inC c s) hi, List.filter_nil, List.append_nil]
theorem filter_N (p : SetM → Bool) : ∀ (L : List SetM), strsN (L.filter p) ≤ strsN L ∧ intsN (L.filter p) ≤ intsN L
 | [] => ⟨Nat.le_refl _, Nat.le_refl _⟩
 | a :: L => by
  have := filter_N p L
  rw [List.filter_cons]
  split
  ·rw [strsN_cons, intsN_cons, strsN_cons, intsN_cons]; omega
  ·rw [strsN_cons, intsN_cons]; omega
theorem sumO_sz (r : List SetM) (s : SetM) (k : Nat) : (sumO r s k).strs.length ≤ strsN (cutR r) ∧ (sumO r s k).ints.length ≤ intsN (cutR r) := by
 have h1 := filter_N (fun c => inC c s) ((cutR r).take k)
 have h2 := take_N (cutR r) k
 have h3 := orsM_strs (((cutR r).take k).filter fun c => inC c s)
 have h4 := orsM_ints (((cutR r).take k).filter fun c => inC c s)
 unfold sumO
 omega
def allO (r : List SetM) (i : Nat) : SetM := orsM ((cutR r).take i)
theorem allO_next {r : List SetM} {i : Nat} (h : i < (cutR r).length) : allO r (i + 1) = orM normR (allO r i) ((cutR r).getD i noM) := by
 unfold allO
 rw [take_get _ i noM h, orsM_snoc]
theorem allO_sz (r : List SetM) (i : Nat) : (allO r i).strs.length ≤ strsN (cutR r) ∧ (allO r i).ints.length ≤ intsN (cutR r) := by
 have h2 := take_N (cutR r) i
 have h3 := orsM_strs ((cutR r).take i)
 have h4 := orsM_ints ((cutR r).take i)
 unfold allO
 omega
theorem allO_apart {r : List SetM} (h : AllOK r) {i : Nat} (hi : i < (cutR r).length) (hl : strsN (cutR r) ≤ 1000) : andM normR (allO r i) ((cutR r).getD i noM) = noM := by
 have h1 := (at_N hi).1
 have e : (cutR r).getD i noM = (cutR r)[i] := by simp [hi]
 rw [e] at h1 ⊢
 exact apart_at h hi (by omega)
theorem noM_setC : setC noM = [.val (.bool false), .sl none [], .val (.bool false), .sl none []] := rfl
def stA1 (l r : List SetM) (i : Nat) : St := ⟨[(0, .sl none (l.map setC)), (3, .sl none ((cutR r).map setC)), (4, .ptr 4 0), (30, .sl none ((cutR r).map setC)), (31, .val (.int .i64 (cutR r).length)), (32, .val (.int .i64 i))], [(4, setC (allO r i))], []⟩
def stA2 (l r : List SetM) (i : Nat) : St := ⟨[(3, .sl none ((cutR r).map setC)), (4, .ptr 4 0), (57, .sl none (l.map setC)), (58, .val (.int .i64 l.length)), (59, .val (.int .i64 i))], [(4, setC allM)], []⟩
def stA3 (l r : List SetM) (s : SetM) (i k : Nat) : St := ⟨[(3, .sl none ((cutR r).map setC)), (4, .ptr 4 0), (8, .ptr 8 0), (9, .ptr 9 0), (57, .sl none (l.map setC)), (58, .val (.int .i64 l.length)), (59, .val (.int .i64 i)), (67, .sl none ((cutR r).map setC)), (68, .val (.int .i64 (cutR r).length)), (69, .val (.int .i64 k))], [(4, setC allM), (8, setC s), (9, setC (sumO r s k))], []⟩
set_option maxHeartbeats 8000000 in
theorem kCellsApart (l : List SetM) (hb : ∀ s ∈ l, Bnd s) (_ : l.length ≤ maxLen) : PureAt Tryz.prog 9 [.sl none (l.map setC)] (· = .val (.bool true)) := by
 refine pure_of r9 (by kernel_rfl) ?_
 unfold m9
 simp only [go_sem, Nat.reduceEqDiff, Nat.reduceAdd, Nat.reduceLeDiff, List.length_map, z4, at4, BoxM.at, EvM.at, fillB, Int.reduceLT, Int.reduceLE, Int.reduceToNat, Int.toNat_zero, Int.le_refl, Int.reduceAdd, decide_true, decide_false, wr1, wr2, wr3, wr4, c0, c1, c2, c3, c4, Nat.reduceMul, Nat.reduceLT, Nat.lt_irrefl, true_and, and_self, ↓reduceIte]
 refine callP_eq rfl rfl kawake09 ?_
 by_cases h1 : l.length ≤ 6
 rotate_left
 ·have d1 : decide ((l.length : Int) > 6) = true := by simp; omega
  simp only [d1, go_sem, Nat.reduceEqDiff, Nat.reduceAdd, Nat.reduceLeDiff, List.length_map, z4, at4, BoxM.at, EvM.at, fillB, Int.reduceLT, Int.reduceLE, Int.reduceToNat, Int.toNat_zero, Int.le_refl, Int.reduceAdd, decide_true, decide_false, wr1, wr2, wr3, wr4, c0, c1, c2, c3, c4, Nat.reduceMul, Nat.reduceLT, Nat.lt_irrefl, true_and, and_self, ↓reduceIte]
  refine callP_eq rfl rfl kawake09 ?_
  simp only [go_sem, Nat.reduceEqDiff, Nat.reduceAdd, Nat.reduceLeDiff, List.length_map, z4, at4, BoxM.at, EvM.at, fillB, Int.reduceLT, Int.reduceLE, Int.reduceToNat, Int.toNat_zero, Int.le_refl, Int.reduceAdd, decide_true, decide_false, wr1, wr2, wr3, wr4, c0, c1, c2, c3, c4, Nat.reduceMul, Nat.reduceLT, Nat.lt_irrefl, true_and, and_self, ↓reduceIte]
 have d1 : decide ((l.length : Int) > 6) = false := by simp; omega
 simp only [d1, go_sem, Nat.reduceEqDiff, Nat.reduceAdd, Nat.reduceLeDiff, List.length_map, z4, at4, BoxM.at, EvM.at, fillB, Int.reduceLT, Int.reduceLE, Int.reduceToNat, Int.toNat_zero, Int.le_refl, Int.reduceAdd, decide_true, decide_false, wr1, wr2, wr3, wr4, c0, c1, c2, c3, c4, Nat.reduceMul, Nat.reduceLT, Nat.lt_irrefl, true_and, and_self, ↓reduceIte]
 refine callP_by rfl rfl (krefFew3 l (by omega)) ?_
 rintro d ⟨bf, rfl, hf⟩
 cases bf
 ·simp only [go_sem, Nat.reduceEqDiff, Nat.reduceAdd, Nat.reduceLeDiff, List.length_map, z4, at4, BoxM.at, EvM.at, fillB, Int.reduceLT, Int.reduceLE, Int.reduceToNat, Int.toNat_zero, Int.le_refl, Int.reduceAdd, decide_true, decide_false, wr1, wr2, wr3, wr4, c0, c1, c2, c3, c4, Nat.reduceMul, Nat.reduceLT, Nat.lt_irrefl, true_and, and_self, ↓reduceIte]
  refine callP_eq rfl rfl kawake09 ?_
  simp only [go_sem, Nat.reduceEqDiff, Nat.reduceAdd, Nat.reduceLeDiff, List.length_map, z4, at4, BoxM.at, EvM.at, fillB, Int.reduceLT, Int.reduceLE, Int.reduceToNat, Int.toNat_zero, Int.le_refl, Int.reduceAdd, decide_true, decide_false, wr1, wr2, wr3, wr4, c0, c1, c2, c3, c4, Nat.reduceMul, Nat.reduceLT, Nat.lt_irrefl, true_and, and_self, ↓reduceIte]
 have hf := hf rfl
 have hok := rOf_ok hb
 have hrl : (rOf l).length ≤ 6 := Nat.le_trans (List.length_filter_le _ _) h1
 have hrs : ∀ s ∈ rOf l, s.ints.length ≤ 40 ∧ s.strs.length ≤ 40 := fun s h => hf s (rOf_mem h).1
 have pc := kCutA l hb (by omega) (few_up hf)
 have hcl := cut_length hrl hrs
 have hcs := fun x (hx : x ∈ cutR (rOf l)) => cut_sz hok hrl hrs hx
 have hin : ∀ s ∈ l, rightM s = true → s ∈ rOf l := fun s m h => List.mem_filter.2 ⟨m, h⟩
 have hN : strsN (cutR (rOf l)) ≤ 480 ∧ intsN (cutR (rOf l)) ≤ 481 := by
  have h1 := names_len (rOf l)
  have h2 := strsOf_len (r := rOf l) (k := 40) (fun s m => (hrs s m).2)
  have h3 := ends_len (rOf l)
  have h4 := rgsOf_len (r := rOf l) (k := 40) (fun s m => (hrs s m).1)
  have h5 := cut_N (rOf l)
  omega
 have hall := ors_all hok (by omega)
 have hors := fun s hs hs' => ors_in hok (by omega) (s := s) hs hs'
 generalize rOf l = r at *
 have h00 : allO r 0 = noM := rfl
 simp only [go_sem, Nat.reduceEqDiff, Nat.reduceAdd, Nat.reduceLeDiff, List.length_map, z4, at4, BoxM.at, EvM.at, fillB, Int.reduceLT, Int.reduceLE, Int.reduceToNat, Int.toNat_zero, Int.le_refl, Int.reduceAdd, decide_true, decide_false, wr1, wr2, wr3, wr4, c0, c1, c2, c3, c4, Nat.reduceMul, Nat.reduceLT, Nat.lt_irrefl, true_and, and_self, ↓reduceIte]
 refine ⟨setC_len l, by omega, by omega, ?_⟩
 refine callP_eq rfl rfl pc ?_
 simp only [go_sem, Nat.reduceEqDiff, Nat.reduceAdd, Nat.reduceLeDiff, List.length_map, z4, at4, BoxM.at, EvM.at, fillB, Int.reduceLT, Int.reduceLE, Int.reduceToNat, Int.toNat_zero, Int.le_refl, Int.reduceAdd, decide_true, decide_false, wr1, wr2, wr3, wr4, c0, c1, c2, c3, c4, Nat.reduceMul, Nat.reduceLT, Nat.lt_irrefl, true_and, and_self, ↓reduceIte]
 refine loop_N (cutR r).length (fun _ => True) (stA1 l r) trivial (by simp only [stA1, h00, noM_setC, go_sem, Nat.reduceEqDiff, Nat.reduceAdd, Nat.reduceLeDiff, List.length_map]; try rfl) ?_
 rintro i hi -
 simp only [stA1]
 simp only [go_sem, Nat.reduceEqDiff, Nat.reduceAdd, Nat.reduceLeDiff, List.length_map, z4, at4, BoxM.at, EvM.at, fillB, Int.reduceLT, Int.reduceLE, Int.reduceToNat, Int.toNat_zero, Int.le_refl, Int.reduceAdd, decide_true, decide_false, wr1, wr2, wr3, wr4, c0, c1, c2, c3, c4, Nat.reduceMul, Nat.reduceLT, Nat.lt_irrefl, true_and, and_self, ↓reduceIte]
 refine condE_split (fun hc => ?_) (fun hc => ?_)
 ·have hi' : i < (cutR r).length := by simpa using hc
  have iup := up64 (show i < 1000000 by omega)
  have g1 := get_setC hi'
  have hm := setD_mem hi'
  have hx := hcs _ hm
  have hxo := cut_ok hok hm
  have hap := allO_apart hok hi' (by omega)
  have hasz := allO_sz r i
  have hnx := allO_next hi'
  have pa := kAnd (allO r i) _ (by omega) (by omega : ((cutR r).getD i noM).ints.length ≤ 900) (by omega) (by omega)
  rw [hap] at pa
  have pe := kEmpty' noM
  have po := kOr (allO r i) _ (by omega) (by omega : ((cutR r).getD i noM).ints.length ≤ 1000) (by omega) (by omega)
  rw [← hnx] at po
  have pr := krefRight3 _ (by omega : ((cutR r).getD i noM).ints.length ≤ 1000000) (by omega)
  rw [hxo.right] at pr
  rw [show emptyM noM = true from rfl] at pe
  generalize (cutR r).getD i noM = x at *
  have hxC : setC x = [.val (.bool x.absent), .sl none (x.ints.map encR), .val (.bool x.co), .sl none (x.strs.map encSt)] := rfl
  have haC : setC (allO r i) = [.val (.bool (allO r i).absent), .sl none ((allO r i).ints.map encR), .val (.bool (allO r i).co), .sl none ((allO r i).strs.map encSt)] := rfl
  have hbC : setC (allO r (i + 1)) = [.val (.bool (allO r (i + 1)).absent), .sl none ((allO r (i + 1)).ints.map encR), .val (.bool (allO r (i + 1)).co), .sl none ((allO r (i + 1)).strs.map encSt)] := rfl
  rw [hxC] at g1 pa po pr
  rw [haC] at pa po
  rw [hbC] at po
  simp only [nn0, Int.toNat_natCast, g1, haC, go_sem, Nat.reduceEqDiff, Nat.reduceAdd, Nat.reduceLeDiff, List.length_map, z4, at4, BoxM.at, EvM.at, fillB, Int.reduceLT, Int.reduceLE, Int.reduceToNat, Int.toNat_zero, Int.le_refl, Int.reduceAdd, decide_true, decide_false, wr1, wr2, wr3, wr4, c0, c1, c2, c3, c4, Nat.reduceMul, Nat.reduceLT, Nat.lt_irrefl, true_and, and_self, ↓reduceIte]
  refine callP_eq rfl rfl pa ?_
  simp only [noM_setC, go_sem, Nat.reduceEqDiff, Nat.reduceAdd, Nat.reduceLeDiff, List.length_map, z4, at4, BoxM.at, EvM.at, fillB, Int.reduceLT, Int.reduceLE, Int.reduceToNat, Int.toNat_zero, Int.le_refl, Int.reduceAdd, decide_true, decide_false, wr1, wr2, wr3, wr4, c0, c1, c2, c3, c4, Nat.reduceMul, Nat.reduceLT, Nat.lt_irrefl, true_and, and_self, ↓reduceIte]
  refine callP_eq rfl rfl pe ?_
  simp only [go_sem, Nat.reduceEqDiff, Nat.reduceAdd, Nat.reduceLeDiff, List.length_map, z4, at4, BoxM.at, EvM.at, fillB, Int.reduceLT, Int.reduceLE, Int.reduceToNat, Int.toNat_zero, Int.le_refl, Int.reduceAdd, decide_true, decide_false, wr1, wr2, wr3, wr4, c0, c1, c2, c3, c4, Nat.reduceMul, Nat.reduceLT, Nat.lt_irrefl, true_and, and_self, ↓reduceIte]
  refine callP_eq rfl rfl pr ?_
  by_cases h2 : i ≤ 200
  ·have d2 : decide ((i : Int) > 200) = false := by simp; omega
   simp only [d2, go_sem, Nat.reduceEqDiff, Nat.reduceAdd, Nat.reduceLeDiff, List.length_map, z4, at4, BoxM.at, EvM.at, fillB, Int.reduceLT, Int.reduceLE, Int.reduceToNat, Int.toNat_zero, Int.le_refl, Int.reduceAdd, decide_true, decide_false, wr1, wr2, wr3, wr4, c0, c1, c2, c3, c4, Nat.reduceMul, Nat.reduceLT, Nat.lt_irrefl, true_and, and_self, ↓reduceIte]
   refine callP_eq rfl rfl po ?_
   simp only [iup, go_sem, Nat.reduceEqDiff, Nat.reduceAdd, Nat.reduceLeDiff, List.length_map, z4, at4, BoxM.at, EvM.at, fillB, Int.reduceLT, Int.reduceLE, Int.reduceToNat, Int.toNat_zero, Int.le_refl, Int.reduceAdd, decide_true, decide_false, wr1, wr2, wr3, wr4, c0, c1, c2, c3, c4, Nat.reduceMul, Nat.reduceLT, Nat.lt_irrefl, true_and, and_self, ↓reduceIte]
   refine invN_next hi' trivial ?_
   simp only [stA1]
   simp only [hbC, go_sem, Nat.reduceEqDiff, Nat.reduceAdd, Nat.reduceLeDiff, List.length_map, z4, at4, BoxM.at, EvM.at, fillB, Int.reduceLT, Int.reduceLE, Int.reduceToNat, Int.toNat_zero, Int.le_refl, Int.reduceAdd, decide_true, decide_false, wr1, wr2, wr3, wr4, c0, c1, c2, c3, c4, Nat.reduceMul, Nat.reduceLT, Nat.lt_irrefl, true_and, and_self, ↓reduceIte]
  ·have d2 : decide ((i : Int) > 200) = true := by simp; omega
   simp only [d2, go_sem, Nat.reduceEqDiff, Nat.reduceAdd, Nat.reduceLeDiff, List.length_map, z4, at4, BoxM.at, EvM.at, fillB, Int.reduceLT, Int.reduceLE, Int.reduceToNat, Int.toNat_zero, Int.le_refl, Int.reduceAdd, decide_true, decide_false, wr1, wr2, wr3, wr4, c0, c1, c2, c3, c4, Nat.reduceMul, Nat.reduceLT, Nat.lt_irrefl, true_and, and_self, ↓reduceIte]
 have : i = (cutR r).length := by simp at hc; omega
 subst this
 have hal : allO r (cutR r).length = allM := by unfold allO; rw [List.take_length]; exact hall
 rw [hal]
 simp only [go_sem, Nat.reduceEqDiff, Nat.reduceAdd, Nat.reduceLeDiff, List.length_map, z4, at4, BoxM.at, EvM.at, fillB, Int.reduceLT, Int.reduceLE, Int.reduceToNat, Int.toNat_zero, Int.le_refl, Int.reduceAdd, decide_true, decide_false, wr1, wr2, wr3, wr4, c0, c1, c2, c3, c4, Nat.reduceMul, Nat.reduceLT, Nat.lt_irrefl, true_and, and_self, ↓reduceIte]
 have hA : setC allM = [.val (.bool true), .sl none (([(-9223372036854775808, 9223372036854775807)] : List Rg).map encR), .val (.bool true), .sl none (([] : List ByteArray).map encSt)] := rfl
 refine loop_N l.length (fun _ => True) (stA2 l r) trivial (by simp only [stA2, hA, go_sem, Nat.reduceEqDiff, Nat.reduceAdd, Nat.reduceLeDiff, List.length_map]; try rfl) ?_
 rintro i hi -
 simp only [stA2]
 simp only [hA, go_sem, Nat.reduceEqDiff, Nat.reduceAdd, Nat.reduceLeDiff, List.length_map, z4, at4, BoxM.at, EvM.at, fillB, Int.reduceLT, Int.reduceLE, Int.reduceToNat, Int.toNat_zero, Int.le_refl, Int.reduceAdd, decide_true, decide_false, wr1, wr2, wr3, wr4, c0, c1, c2, c3, c4, Nat.reduceMul, Nat.reduceLT, Nat.lt_irrefl, true_and, and_self, ↓reduceIte]
 refine condE_split (fun hc => ?_) (fun hc => ?_)
 rotate_left
 ·have pal := kAll'
  have psm := kSame' (rfl : allM = allM) (by simp [allM]) (by simp [allM])
  rw [hA] at pal psm
  simp only [go_sem, Nat.reduceEqDiff, Nat.reduceAdd, Nat.reduceLeDiff, List.length_map, z4, at4, BoxM.at, EvM.at, fillB, Int.reduceLT, Int.reduceLE, Int.reduceToNat, Int.toNat_zero, Int.le_refl, Int.reduceAdd, decide_true, decide_false, wr1, wr2, wr3, wr4, c0, c1, c2, c3, c4, Nat.reduceMul, Nat.reduceLT, Nat.lt_irrefl, true_and, and_self, ↓reduceIte]
  refine callQ_by _ rfl rfl pal ?_
  simp only [go_sem, Nat.reduceEqDiff, Nat.reduceAdd, Nat.reduceLeDiff, List.length_map, z4, at4, BoxM.at, EvM.at, fillB, Int.reduceLT, Int.reduceLE, Int.reduceToNat, Int.toNat_zero, Int.le_refl, Int.reduceAdd, decide_true, decide_false, wr1, wr2, wr3, wr4, c0, c1, c2, c3, c4, Nat.reduceMul, Nat.reduceLT, Nat.lt_irrefl, true_and, and_self, ↓reduceIte]
  refine callQ_by _ rfl rfl psm ?_
  simp only [go_sem, Nat.reduceEqDiff, Nat.reduceAdd, Nat.reduceLeDiff, List.length_map, z4, at4, BoxM.at, EvM.at, fillB, Int.reduceLT, Int.reduceLE, Int.reduceToNat, Int.toNat_zero, Int.le_refl, Int.reduceAdd, decide_true, decide_false, wr1, wr2, wr3, wr4, c0, c1, c2, c3, c4, Nat.reduceMul, Nat.reduceLT, Nat.lt_irrefl, true_and, and_self, ↓reduceIte]
 have hi' : i < l.length := by simpa using hc
 have iup := up64 (show i < 1000000 by omega)
 have g1 := get_setC hi'
 have hm := setD_mem hi'
 have hs := hf _ hm
 have pr := krefRight3 _ (by omega : (l.getD i noM).ints.length ≤ 1000000) (by omega)
 have hins := hin _ hm
 generalize l.getD i noM = s at *
 have hsC : setC s = [.val (.bool s.absent), .sl none (s.ints.map encR), .val (.bool s.co), .sl none (s.strs.map encSt)] := rfl
 rw [hsC] at g1 pr
 simp only [nn0, Int.toNat_natCast, g1, go_sem, Nat.reduceEqDiff, Nat.reduceAdd, Nat.reduceLeDiff, List.length_map, z4, at4, BoxM.at, EvM.at, fillB, Int.reduceLT, Int.reduceLE, Int.reduceToNat, Int.toNat_zero, Int.le_refl, Int.reduceAdd, decide_true, decide_false, wr1, wr2, wr3, wr4, c0, c1, c2, c3, c4, Nat.reduceMul, Nat.reduceLT, Nat.lt_irrefl, true_and, and_self, ↓reduceIte]
 refine callP_eq rfl rfl pr ?_
 cases hrr : rightM s
 ·simp only [iup, go_sem, Nat.reduceEqDiff, Nat.reduceAdd, Nat.reduceLeDiff, List.length_map, z4, at4, BoxM.at, EvM.at, fillB, Int.reduceLT, Int.reduceLE, Int.reduceToNat, Int.toNat_zero, Int.le_refl, Int.reduceAdd, decide_true, decide_false, wr1, wr2, wr3, wr4, c0, c1, c2, c3, c4, Nat.reduceMul, Nat.reduceLT, Nat.lt_irrefl, true_and, and_self, ↓reduceIte]
  refine invN_next hi' trivial ?_
  simp only [stA2]
  simp only [hA, go_sem, Nat.reduceEqDiff, Nat.reduceAdd, Nat.reduceLeDiff, List.length_map, z4, at4, BoxM.at, EvM.at, fillB, Int.reduceLT, Int.reduceLE, Int.reduceToNat, Int.toNat_zero, Int.le_refl, Int.reduceAdd, decide_true, decide_false, wr1, wr2, wr3, wr4, c0, c1, c2, c3, c4, Nat.reduceMul, Nat.reduceLT, Nat.lt_irrefl, true_and, and_self, ↓reduceIte]
 have hins := hins hrr
 have hs0 : sumO r s 0 = noM := rfl
 have hsE := hors s hins (by omega)
 simp only [go_sem, Nat.reduceEqDiff, Nat.reduceAdd, Nat.reduceLeDiff, List.length_map, z4, at4, BoxM.at, EvM.at, fillB, Int.reduceLT, Int.reduceLE, Int.reduceToNat, Int.toNat_zero, Int.le_refl, Int.reduceAdd, decide_true, decide_false, wr1, wr2, wr3, wr4, c0, c1, c2, c3, c4, Nat.reduceMul, Nat.reduceLT, Nat.lt_irrefl, true_and, and_self, ↓reduceIte]
 refine loop_N (cutR r).length (fun _ => True) (stA3 l r s i) trivial (by simp only [stA3, hsC, hs0, noM_setC, hA, go_sem, Nat.reduceEqDiff, Nat.reduceAdd, Nat.reduceLeDiff, List.length_map]; try rfl) ?_
 rintro k hk -
 have hssz := sumO_sz r s k
 have haC : setC (sumO r s k) = [.val (.bool (sumO r s k).absent), .sl none ((sumO r s k).ints.map encR), .val (.bool (sumO r s k).co), .sl none ((sumO r s k).strs.map encSt)] := rfl
 simp only [stA3]
 simp only [hA, hsC, haC, go_sem, Nat.reduceEqDiff, Nat.reduceAdd, Nat.reduceLeDiff, List.length_map, z4, at4, BoxM.at, EvM.at, fillB, Int.reduceLT, Int.reduceLE, Int.reduceToNat, Int.toNat_zero, Int.le_refl, Int.reduceAdd, decide_true, decide_false, wr1, wr2, wr3, wr4, c0, c1, c2, c3, c4, Nat.reduceMul, Nat.reduceLT, Nat.lt_irrefl, true_and, and_self, ↓reduceIte]
 refine condE_split (fun hc2 => ?_) (fun hc2 => ?_)
 rotate_left
 ·have : k = (cutR r).length := by simp at hc2; omega
  subst this
  have hfin : sumO r s (cutR r).length = s := by unfold sumO; rw [List.take_length]; exact hsE
  have psm := kSame' (rfl : s = s) (by omega) (by omega)
  rw [hfin] at haC ⊢
  rw [hsC] at psm
  simp only [go_sem, Nat.reduceEqDiff, Nat.reduceAdd, Nat.reduceLeDiff, List.length_map, z4, at4, BoxM.at, EvM.at, fillB, Int.reduceLT, Int.reduceLE, Int.reduceToNat, Int.toNat_zero, Int.le_refl, Int.reduceAdd, decide_true, decide_false, wr1, wr2, wr3, wr4, c0, c1, c2, c3, c4, Nat.reduceMul, Nat.reduceLT, Nat.lt_irrefl, true_and, and_self, ↓reduceIte]
  refine callP_eq rfl rfl psm ?_
  simp only [iup, go_sem, Nat.reduceEqDiff, Nat.reduceAdd, Nat.reduceLeDiff, List.length_map, z4, at4, BoxM.at, EvM.at, fillB, Int.reduceLT, Int.reduceLE, Int.reduceToNat, Int.toNat_zero, Int.le_refl, Int.reduceAdd, decide_true, decide_false, wr1, wr2, wr3, wr4, c0, c1, c2, c3, c4, Nat.reduceMul, Nat.reduceLT, Nat.lt_irrefl, true_and, and_self, ↓reduceIte]
  refine invN_next hi' trivial ?_
  simp only [stA2]
  simp only [hA, go_sem, Nat.reduceEqDiff, Nat.reduceAdd, Nat.reduceLeDiff, List.length_map, z4, at4, BoxM.at, EvM.at, fillB, Int.reduceLT, Int.reduceLE, Int.reduceToNat, Int.toNat_zero, Int.le_refl, Int.reduceAdd, decide_true, decide_false, wr1, wr2, wr3, wr4, c0, c1, c2, c3, c4, Nat.reduceMul, Nat.reduceLT, Nat.lt_irrefl, true_and, and_self, ↓reduceIte]
 have hk' : k < (cutR r).length := by simpa using hc2
 have kup := up64 (show k < 1000000 by omega)
 have g2 := get_setC hk'
 have hxm := setD_mem hk'
 have hx := hcs _ hxm
 have hxo := cut_ok hok hxm
 have hnx := sumO_next (s := s) hk'
 have po := kOr (sumO r s k) _ (by omega) (by omega : ((cutR r).getD k noM).ints.length ≤ 1000) (by omega) (by omega)
 have pin := kcIn _ s ⟨by omega, by omega⟩ hxo.inb ⟨by omega, by omega⟩
 generalize (cutR r).getD k noM = x at *
 have hxC : setC x = [.val (.bool x.absent), .sl none (x.ints.map encR), .val (.bool x.co), .sl none (x.strs.map encSt)] := rfl
 rw [hxC] at g2 pin po
 rw [hsC] at pin
 simp only [nn0, Int.toNat_natCast, g2, hsC, go_sem, Nat.reduceEqDiff, Nat.reduceAdd, Nat.reduceLeDiff, List.length_map, z4, at4, BoxM.at, EvM.at, fillB, Int.reduceLT, Int.reduceLE, Int.reduceToNat, Int.toNat_zero, Int.le_refl, Int.reduceAdd, decide_true, decide_false, wr1, wr2, wr3, wr4, c0, c1, c2, c3, c4, Nat.reduceMul, Nat.reduceLT, Nat.lt_irrefl, true_and, and_self, ↓reduceIte]
 refine callP_eq rfl rfl pin ?_
 cases hic : inC x s
 ·rw [hic] at hnx
  simp only [kup, go_sem, Nat.reduceEqDiff, Nat.reduceAdd, Nat.reduceLeDiff, List.length_map, z4, at4, BoxM.at, EvM.at, fillB, Int.reduceLT, Int.reduceLE, Int.reduceToNat, Int.toNat_zero, Int.le_refl, Int.reduceAdd, decide_true, decide_false, wr1, wr2, wr3, wr4, c0, c1, c2, c3, c4, Nat.reduceMul, Nat.reduceLT, Nat.lt_irrefl, true_and, and_self, ↓reduceIte]
  refine invN_next hk' trivial ?_
  simp only [stA3, hnx, Bool.false_eq_true, if_false]
  simp only [hsC, hA, haC, go_sem, Nat.reduceEqDiff, Nat.reduceAdd, Nat.reduceLeDiff, List.length_map, z4, at4, BoxM.at, EvM.at, fillB, Int.reduceLT, Int.reduceLE, Int.reduceToNat, Int.toNat_zero, Int.le_refl, Int.reduceAdd, decide_true, decide_false, wr1, wr2, wr3, wr4, c0, c1, c2, c3, c4, Nat.reduceMul, Nat.reduceLT, Nat.lt_irrefl, true_and, and_self, ↓reduceIte]
 ·rw [hic, if_pos rfl] at hnx
  rw [← hnx] at po
  have hbC : setC (sumO r s (k + 1)) = [.val (.bool (sumO r s (k + 1)).absent), .sl none ((sumO r s (k + 1)).ints.map encR), .val (.bool (sumO r s (k + 1)).co), .sl none ((sumO r s (k + 1)).strs.map encSt)] := rfl
  rw [haC, hbC] at po
  simp only [go_sem, Nat.reduceEqDiff, Nat.reduceAdd, Nat.reduceLeDiff, List.length_map, z4, at4, BoxM.at, EvM.at, fillB, Int.reduceLT, Int.reduceLE, Int.reduceToNat, Int.toNat_zero, Int.le_refl, Int.reduceAdd, decide_true, decide_false, wr1, wr2, wr3, wr4, c0, c1, c2, c3, c4, Nat.reduceMul, Nat.reduceLT, Nat.lt_irrefl, true_and, and_self, ↓reduceIte]
  refine callP_eq rfl rfl po ?_
  simp only [kup, go_sem, Nat.reduceEqDiff, Nat.reduceAdd, Nat.reduceLeDiff, List.length_map, z4, at4, BoxM.at, EvM.at, fillB, Int.reduceLT, Int.reduceLE, Int.reduceToNat, Int.toNat_zero, Int.le_refl, Int.reduceAdd, decide_true, decide_false, wr1, wr2, wr3, wr4, c0, c1, c2, c3, c4, Nat.reduceMul, Nat.reduceLT, Nat.lt_irrefl, true_and, and_self, ↓reduceIte]
  refine invN_next hk' trivial ?_
  simp only [stA3]
  simp only [hsC, hbC, hA, go_sem, Nat.reduceEqDiff, Nat.reduceAdd, Nat.reduceLeDiff, List.length_map, z4, at4, BoxM.at, EvM.at, fillB, Int.reduceLT, Int.reduceLE, Int.reduceToNat, Int.toNat_zero, Int.le_refl, Int.reduceAdd, decide_true, decide_false, wr1, wr2, wr3, wr4, c0, c1, c2, c3, c4, Nat.reduceMul, Nat.reduceLT, Nat.lt_irrefl, true_and, and_self, ↓reduceIte]
end Go.Proofs
