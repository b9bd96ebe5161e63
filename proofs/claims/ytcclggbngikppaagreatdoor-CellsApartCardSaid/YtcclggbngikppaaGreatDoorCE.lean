/- A part of the proof; what is proved stands in the last text. -/
import Derived.Test.YtcclggbngikppaaGreatDoorT224
import Derived.Test.YtcclggbngikppaaGreatDoorCA
import Derived.Test.YtcclggbngikppaaGreatDoorLB
import Derived.Test.YtcclggbngikppaaGreatDoorCC
set_option linter.unusedVariables false
set_option maxRecDepth 2000
namespace Go.Proofs
open Go.Vm
set_option linter.unusedSimpArgs false
def gridF (fs : List (List BoxM)) : List D := gridB fs 0 0 [] [] [] []
def gridL (fs : List (List BoxM)) : List D := gridB fs 1 0 (attrM fs.flatten 0) (attrM fs.flatten 1) (attrM fs.flatten 2) (attrM fs.flatten 3)
theorem kOnceF (fs : List (List BoxM)) (h : GridOK fs) : ObjAt Tryz.prog 83 ⟨[(0, .ptr 1000000 1), (1, .fn 84 [.ptr 1000000 0] [])], [(1000000, gridF fs)], []⟩ 2 (fun r hp tg => r = .tup [] ∧ hp = [(1000000, gridL fs)] ∧ tg = []) :=
 once_first (off := 1) (cs := gridF fs) (cs1 := gridB fs 0 1 (attrM fs.flatten 0) (attrM fs.flatten 1) (attrM fs.flatten 2) (attrM fs.flatten 3)) ⟨_, Tryz.func83, by kernel_rfl, by kernel_rfl⟩ do_gridLay rfl rfl (kLay fs h) rfl rfl rfl
theorem kOnceL (fs : List (List BoxM)) (d : D) : ObjAt Tryz.prog 83 ⟨[(0, .ptr 1000000 1), (1, d)], [(1000000, gridL fs)], []⟩ 2 (fun r hp tg => r = .tup [] ∧ hp = [(1000000, gridL fs)] ∧ tg = []) :=
 once_again (off := 1) ⟨_, Tryz.func83, by kernel_rfl, by kernel_rfl⟩ do_done rfl
theorem kLaidF (fs : List (List BoxM)) (h : GridOK fs) : ObjAt Tryz.prog 59 ⟨[(0, .ptr 1000000 0)], [(1000000, gridF fs)], []⟩ 1 (fun r hp tg => r = .ptr 1000000 0 ∧ hp = [(1000000, gridL fs)] ∧ tg = []) := by
 refine obj_of [1000000] [] r59 (by kernel_rfl) ?_
 unfold m59
 simp only [go_sem, Nat.reduceEqDiff, Nat.reduceAdd, Nat.reduceLeDiff, List.length_map, z4, at4, BoxM.at, EvM.at, fillB, Int.reduceLT, Int.reduceLE, Int.reduceToNat, Int.toNat_zero, Int.le_refl, Int.reduceAdd, decide_true, decide_false, wr1, wr2, wr3, wr4, c0, c1, c2, c3, c4, Nat.reduceMul, Nat.reduceLT, Nat.lt_irrefl, true_and, and_self, ↓reduceIte]
 refine callO_eq rfl rfl rfl rfl rfl (kOnceF fs h) ?_
 simp only [go_sem, Nat.reduceEqDiff, Nat.reduceAdd, Nat.reduceLeDiff, List.length_map, z4, at4, BoxM.at, EvM.at, fillB, Int.reduceLT, Int.reduceLE, Int.reduceToNat, Int.toNat_zero, Int.le_refl, Int.reduceAdd, decide_true, decide_false, wr1, wr2, wr3, wr4, c0, c1, c2, c3, c4, Nat.reduceMul, Nat.reduceLT, Nat.lt_irrefl, true_and, and_self, ↓reduceIte]
 rfl
theorem kLaidL (fs : List (List BoxM)) (_ : GridOK fs) : ObjAt Tryz.prog 59 ⟨[(0, .ptr 1000000 0)], [(1000000, gridL fs)], []⟩ 1 (fun r hp tg => r = .ptr 1000000 0 ∧ hp = [(1000000, gridL fs)] ∧ tg = []) := by
 refine obj_of [1000000] [] r59 (by kernel_rfl) ?_
 unfold m59
 simp only [go_sem, Nat.reduceEqDiff, Nat.reduceAdd, Nat.reduceLeDiff, List.length_map, z4, at4, BoxM.at, EvM.at, fillB, Int.reduceLT, Int.reduceLE, Int.reduceToNat, Int.toNat_zero, Int.le_refl, Int.reduceAdd, decide_true, decide_false, wr1, wr2, wr3, wr4, c0, c1, c2, c3, c4, Nat.reduceMul, Nat.reduceLT, Nat.lt_irrefl, true_and, and_self, ↓reduceIte]
 refine callO_eq rfl rfl rfl rfl rfl (kOnceL fs _) ?_
 simp only [go_sem, Nat.reduceEqDiff, Nat.reduceAdd, Nat.reduceLeDiff, List.length_map, z4, at4, BoxM.at, EvM.at, fillB, Int.reduceLT, Int.reduceLE, Int.reduceToNat, Int.toNat_zero, Int.le_refl, Int.reduceAdd, decide_true, decide_false, wr1, wr2, wr3, wr4, c0, c1, c2, c3, c4, Nat.reduceMul, Nat.reduceLT, Nat.lt_irrefl, true_and, and_self, ↓reduceIte]
 rfl
end Go.Proofs

namespace Go.Proofs
open Go.Vm
set_option linter.unusedSimpArgs false
theorem dec_digL (n : Nat) : Lib.decDigits n = digL n := by
 induction n using Nat.strongRecOn with
 | ind n ih =>
  by_cases h : n < 10
  ·rw [digL_lt h, Lib.decDigits, dif_pos h]
  ·rw [digL_ge h, Lib.decDigits, dif_neg h, ih (n / 10) (by omega)]
theorem tab_is {F : Reg} {w : World} (h : FB F w) : Lib.TabIs Tryz.prog w "internal/strconv.uint64pow10" .u64 Lib.pow10Tab := by
 have ht := fun i => (h.2 0 _ (List.mem_singleton.2 rfl) i).2
 have hg : Tryz.prog.globalNamed "internal/strconv.uint64pow10" = some 0 := by kernel_rfl
 have e0 : ((List.range 20).map fun i => Value.int .u64 ((10 ^ i : Nat) : Int)) = Lib.pow10Tab.map fun z => Value.int .u64 z := by
  unfold Lib.pow10Tab; rw [List.map_map]; rfl
 rw [e0] at ht
 unfold Lib.TabIs World.var?
 rw [hg]
 simp only [Option.bind_some]
 have h0 := ht 0
 unfold World.cell? at ht h0
 cases hb : w.heap[0]? with
 | none => simp [hb, Lib.pow10Tab] at h0
 | some o =>
  cases o with
  | cells cs e f =>
   simp only [hb] at ht ⊢
   congr 1
   refine Array.ext_getElem? fun i => ?_
   have := ht i
   simpa using this
  | _ => simp [hb, Lib.pow10Tab] at h0
theorem keep_grow (w : World) (k : Nat) (os : Array Obj) : Keep (fun _ _ => False) w (Go.Sort.grow (w.drewN k) os) := by
 refine ⟨rfl, rfl, rfl, ?_, ?_, fun b o h => .inl ?_⟩
 ·simp [Go.Sort.grow]
 ·show w.drawn ≤ (w.drewN k).drawn
  exact Nat.le_add_right _ _
 ·show (w.heap ++ os)[b]? = some o
  rw [Array.getElem?_append_left (Array.getElem?_eq_some_iff.1 h).1]; exact h
theorem kItoa (n : Nat) (hn : n < 1000000) : PureAt Tryz.prog 49 [.val (.int .i64 n)] (· = .val (.string (lb (digL n)))) := by
 refine ⟨⟨_, Tryz.func49, rfl, rfl⟩, fun F w vs hF hs hrep => ?_⟩
 obtain ⟨v0, rfl⟩ : ∃ v0, vs = #[v0] := by
  rcases vs with ⟨_ | ⟨a, _ | ⟨b, l⟩⟩⟩
  ·simp at hs
  ·exact ⟨a, rfl⟩
  ·simp at hs
 have h0 : v0 = .int .i64 n := by cases hrep 0 _ v0 rfl rfl; rfl
 subst h0
 have h := Any.strconv_Itoa Tryz.Itoa n (by omega) (by omega) w (tab_is hF)
 change Calls Tryz.prog 49 _ _ _ at h
 refine h.mono ?_
 rintro e w' ⟨rfl, k, os, rfl⟩
 have e1 : Lib.itoa (n : Int) = digL n := by
  unfold Lib.itoa
  rw [if_neg (by omega), Int.toNat_natCast, dec_digL]
 rw [e1]
 exact ⟨_, _, rfl, rfl, .val _, keep_grow _ _ _⟩
theorem kWhichF (s : SetM) (hi : s.ints.length ≤ 1000000) (hs : s.strs.length ≤ 1000000) (v : ValM) : PureAt Tryz.prog 53 [.agg (setC s), .rp none (valC v) 0] (· = .val (.bool (hasM s v))) := by
 have p := kHas s hi hs v
 refine pure_of r53 (by kernel_rfl) ?_
 unfold m53
 simp only [setC, valC, go_sem, Nat.reduceEqDiff, Nat.reduceAdd, Nat.reduceLeDiff, List.length_map]
 unfold setC valC at p
 refine callP_eq rfl rfl p ?_
 simp only [go_sem, Nat.reduceEqDiff, Nat.reduceAdd, Nat.reduceLeDiff, List.length_map]
theorem kWhich (l : List SetM) (hl : l.length ≤ 1000000) (hs : ∀ s ∈ l, s.ints.length ≤ 1000000 ∧ s.strs.length ≤ 1000000) (v : ValM) : PureAt Tryz.prog 16 [.sl none (l.map setC), .agg (valC v)] (· = .val (.int .i64 (idxOf (fun c => hasM c v) l))) := by
 have p := kIndexFuncSet 53 [.rp none (valC v) 0] rfl rfl l hl (fun c => hasM c v) (fun s h => kWhichF s (hs s h).1 (hs s h).2 v)
 refine pure_of r16 (by kernel_rfl) ?_
 unfold m16
 unfold valC at p
 simp only [valC, go_sem, Nat.reduceEqDiff, Nat.reduceAdd, Nat.reduceLeDiff, List.length_map]
 refine callP_eq rfl rfl p ?_
 simp only [go_sem, Nat.reduceEqDiff, Nat.reduceAdd, Nat.reduceLeDiff, List.length_map]
def smpV (k : Nat) : ValM := match k with
 | 0 => ⟨2, 0, ⟨#[]⟩⟩
 | k + 1 => ptS (nthS k)
theorem smp_has {L : List ByteArray} {k : Nat} (hk : k < 1000000) : hasM ⟨false, [], true, L⟩ (ptS (nthS k)) = true ↔ nthS k ∉ L := by
 have hz := nthS_size hk
 rw [has2 (rightS hz) rfl]
 simp [StrIn, ptS]
theorem smpV_b (k : Nat) : valC (smpV k) = [.val (.int .i64 2), .val (.int .i64 0), .val (.string (smpV k).s)] := by cases k <;> rfl
def smpM (s : SetM) : ValM × Bool := if s.absent = true then (⟨0, 0, ⟨#[]⟩⟩, true)
 else match s.ints, s.strs with
  | r :: _, _ => (ptI r.1, true)
  | [], t => if s.co = true then (ptS (nthS (freeN t)), true) else match t with | u :: _ => (ptS u, true) | [] => (⟨0, 0, ⟨#[]⟩⟩, true)
theorem sample_smp {s : SetM} (hr : rightM s = true) (he : emptyM s = false) : sampleM s = smpM s := by
 unfold sampleM
 rw [if_neg (by rw [hr, he]; simp)]
 rfl
theorem z00 : ((0 : Int) ≤ 0) = True := by simp
theorem zgt : decide (((0 : Nat) : Int) > 0) = false := rfl
set_option maxHeartbeats 4000000 in
theorem kSample (s : SetM) (hi : s.ints.length ≤ 100000) (hs : s.strs.length ≤ 100000) (hb : Bnd s) : PureAt Tryz.prog 14 [.agg (setC s)] (· = .tup [.agg (valC (sampleM s).1), .val (.bool (sampleM s).2)]) := by
 have p1 := ksetRight s hi (by omega) hb
 have p2 := kEmpty s
 have p3 := fun v => kHas s (by omega) (by omega) v
 refine pure_of r14 (by kernel_rfl) ?_
 unfold m14
 unfold setC at p1 p2 p3
 obtain ⟨ab, is, co, L⟩ := s
 simp only at p1 p2 p3 hi hs
 simp only [setC, go_sem, Nat.reduceEqDiff, Nat.reduceAdd, Nat.reduceLeDiff, List.length_map]
 refine callP_eq rfl rfl p1 ?_
 simp only [go_sem, Nat.reduceEqDiff, Nat.reduceAdd, Nat.reduceLeDiff, List.length_map]
 cases hr : rightM ⟨ab, is, co, L⟩
 ·rw [sample_none (.inl hr)]
  simp only [go_sem, Nat.reduceEqDiff, Nat.reduceAdd, Nat.reduceLeDiff, List.length_map]
  rfl
 ·simp only [hr, go_sem, Nat.reduceEqDiff, Nat.reduceAdd, Nat.reduceLeDiff, List.length_map]
  refine callP_eq rfl rfl p2 ?_
  cases he : emptyM ⟨ab, is, co, L⟩
  ·have he' : (!ab && is.isEmpty && !co && L.isEmpty) = false := he
   rw [sample_smp hr he, he']
   simp only [go_sem, Nat.reduceEqDiff, Nat.reduceAdd, Nat.reduceLeDiff, List.length_map]
   cases ab
   ·simp only [go_sem, Nat.reduceEqDiff, Nat.reduceAdd, Nat.reduceLeDiff, List.length_map]
    cases is with
    | cons g is =>
     simp only [List.map_cons, encR, List.length_cons, go_sem, Nat.reduceEqDiff, Nat.reduceAdd, Nat.reduceLeDiff, List.length_map]
     refine condE_split (fun h => ?_) (fun h => ?_)
     ·simp only [z00, if_true, Int.toNat_zero, List.getElem?_cons_zero, go_sem, Nat.reduceEqDiff, Nat.reduceAdd, Nat.reduceLeDiff, List.length_map]
      rfl
     ·simp at h
    | nil =>
     simp only [List.map_nil, List.length_nil, zgt, go_sem, Nat.reduceEqDiff, Nat.reduceAdd, Nat.reduceLeDiff, List.length_map]
     cases co
     ·cases L with
      | nil => cases he'
      | cons u L =>
       simp only [List.map_cons, encSt, z00, if_true, Int.toNat_zero, List.getElem?_cons_zero, go_sem, Nat.reduceEqDiff, Nat.reduceAdd, Nat.reduceLeDiff, List.length_map]
       rfl
     ·have f0 := freeN_spec L
      simp only [go_sem, Nat.reduceEqDiff, Nat.reduceAdd, Nat.reduceLeDiff, List.length_map]
      refine loop_N (freeN L + 1) (fun _ => True) (fun k => ⟨[(1, .ptr 1 0), (2, .ptr 2 0), (4, .val (.int .i64 k))], [(1, [.val (.bool false), .sl none [], .val (.bool true), .sl none (L.map encSt)]), (2, [.val (.int .i64 2), .val (.int .i64 0), .val (.string (smpV k).s)])], []⟩) trivial (by simp only [go_sem, Nat.reduceEqDiff, Nat.reduceAdd, Nat.reduceLeDiff, List.length_map]; rfl) ?_
      rintro k hk -
      have hup := up64 (show k < 1000000 by omega)
      have hsz : #[(126 : UInt8)].size + (lb (digL k)).size ≤ 9223372036854775807 := by
       have := digL_len k 6 (by omega) (by omega)
       rw [lb_size]
       have e1 : #[(126 : UInt8)].size = 1 := rfl
       omega
      have p4 := p3 (smpV k)
      rw [smpV_b] at p4
      simp only [go_sem, Nat.reduceEqDiff, Nat.reduceAdd, Nat.reduceLeDiff, List.length_map]
      refine callP_eq rfl rfl p4 ?_
      by_cases hgo : hasM ⟨false, [], true, L⟩ (smpV k) = true ∧ k ≠ 0
      ·have e0 : ((k : Int) == 0) = false := by simp; exact hgo.2
       rw [hgo.1]
       simp only [e0, go_sem, Nat.reduceEqDiff, Nat.reduceAdd, Nat.reduceLeDiff, List.length_map]
       obtain ⟨k, rfl⟩ : ∃ j, k = j + 1 := ⟨k - 1, by have := hgo.2; omega⟩
       have hm := hgo.1
       rw [show smpV (k + 1) = ptS (nthS k) from rfl, smp_has (by omega)] at hm
       have : k = freeN L := Classical.byContradiction fun e => hm (f0.2.2 k (by omega))
       subst this
       rfl
      ·have hk' : k < freeN L + 1 := by
         rcases k with _ | k
         ·omega
         ·have : ¬ hasM ⟨false, [], true, L⟩ (smpV (k + 1)) = true := fun h => hgo ⟨h, by omega⟩
          rw [show smpV (k + 1) = ptS (nthS k) from rfl, smp_has (by omega)] at this
          have hm : nthS k ∈ L := Classical.not_not.1 this
          have : k ≠ freeN L := fun e => f0.1 (by rw [← e]; exact hm)
          omega
       cases hh : hasM ⟨false, [], true, L⟩ (smpV k)
       ·simp only [go_sem, Nat.reduceEqDiff, Nat.reduceAdd, Nat.reduceLeDiff, List.length_map]
        refine callP_eq rfl rfl (kItoa k (by omega)) ?_
        simp only [go_sem, Nat.reduceEqDiff, Nat.reduceAdd, Nat.reduceLeDiff, List.length_map]
        rw [if_pos hsz]
        simp only [hup, go_sem, Nat.reduceEqDiff, Nat.reduceAdd, Nat.reduceLeDiff, List.length_map]
        refine invN_next hk' trivial ?_
        rfl
       ·have hk0 : k = 0 := Classical.byContradiction fun h => hgo ⟨hh, h⟩
        subst hk0
        have e0 : (((0 : Nat) : Int) == 0) = true := rfl
        simp only [e0, go_sem, Nat.reduceEqDiff, Nat.reduceAdd, Nat.reduceLeDiff, List.length_map]
        refine callP_eq rfl rfl (kItoa 0 (by omega)) ?_
        simp only [go_sem, Nat.reduceEqDiff, Nat.reduceAdd, Nat.reduceLeDiff, List.length_map]
        rw [if_pos hsz]
        simp only [hup, go_sem, Nat.reduceEqDiff, Nat.reduceAdd, Nat.reduceLeDiff, List.length_map]
        refine invN_next hk' trivial ?_
        rfl
   ·simp only [go_sem, Nat.reduceEqDiff, Nat.reduceAdd, Nat.reduceLeDiff, List.length_map]
    rfl
  ·have he' : (!ab && is.isEmpty && !co && L.isEmpty) = true := he
   rw [sample_none (.inr he), he']
   simp only [go_sem, Nat.reduceEqDiff, Nat.reduceAdd, Nat.reduceLeDiff, List.length_map]
   rfl
end Go.Proofs

namespace Go.Proofs
open Go.Vm
set_option linter.unusedSimpArgs false
theorem filC_len (fs : List (List BoxM)) : ∀ e ∈ filC fs, e.length = 1 := fun e he => by obtain ⟨n, -, rfl⟩ := List.mem_map.1 he; rfl
theorem filC_len' (fs : List (List BoxM)) : (filC fs).length = fs.length := by unfold filC; rw [List.length_map]
theorem kCloneF (es : List (List D)) (h2 : ∀ e ∈ es, e.length = 1) (hl : es.length ≤ 1000000) : PureAt Tryz.prog 58 [.sl none es] (· = .sl none es) := by
 refine pure_of r58 (by kernel_rfl) ?_
 unfold m58
 simp only [go_sem, Nat.reduceEqDiff, Nat.reduceAdd, Nat.reduceLeDiff, List.length_map]
 intro b hb
 refine condE_split (fun h => ?_) (fun h => ?_)
 ·simp only [go_sem, Nat.reduceEqDiff, Nat.reduceAdd, Nat.reduceLeDiff, List.length_map]
  simp_all
 ·simp only [List.length_append, List.nil_append, go_sem, Nat.reduceEqDiff, Nat.reduceAdd, Nat.reduceLeDiff, List.length_map]
  simp only [Nat.zero_add]
  refine ⟨h2, by omega, by omega⟩
theorem kNew (fs : List (List BoxM)) (hl : fs.length ≤ 1000000) : ObjAt Tryz.prog 19 ⟨[(0, .sl none (filC fs))], [], []⟩ 1 (fun r hp tg => r = .ptr 6 0 ∧ hp = [(6, gridF fs)] ∧ tg = []) := by
 have p := kCloneF (filC fs) (filC_len fs) (by rw [filC_len']; omega)
 refine obj_of [6] [] r19 (by kernel_rfl) ?_
 unfold m19
 simp only [go_sem, Nat.reduceEqDiff, Nat.reduceAdd, Nat.reduceLeDiff, List.length_map]
 refine callP_eq rfl rfl p ?_
 simp only [finO, go_sem, Nat.reduceEqDiff, Nat.reduceAdd, Nat.reduceLeDiff, List.length_map]
 rfl
theorem attr_len {fs : List (List BoxM)} (h : GridOK fs) {i : Nat} (hi : i < 4) : (attrM fs.flatten i).length ≤ 10000 ∧ (namesM (setsAt fs.flatten i)).length ≤ 3200 := by
 obtain ⟨h1, h2, h3⟩ := h.all
 rw [attr_cut h1 hi, cut_len]
 have hs : ∀ s ∈ setsAt fs.flatten i, s.ints.length ≤ 40 ∧ s.strs.length ≤ 40 := fun s hs => by
  obtain ⟨b, hb, rfl⟩ := List.mem_map.1 hs
  exact h2 b hb i hi
 have hl : (setsAt fs.flatten i).length ≤ 80 := by unfold setsAt; rw [List.length_map]; exact h3
 have e1 := ends_len (setsAt fs.flatten i)
 have e2 := names_len (setsAt fs.flatten i)
 have e3 := strsOf_len (r := setsAt fs.flatten i) (k := 40) (fun s h => (hs s h).2)
 have e4 := rgsOf_len (r := setsAt fs.flatten i) (k := 40) (fun s h => (hs s h).1)
 omega
theorem cnt_big (C : Nat → List SetM) (k : Nat) : cntC C k ≤ 1099511627776 := by
 cases k with
 | zero => show 1 ≤ 1099511627776; decide
 | succ k => exact Nat.min_le_right _ _
theorem cnt_step (C : Nat → List SetM) (k : Nat) (h : (C k).length ≤ 10000) : IntKind.i64.wrap ((cntC C k : Int) * ((C k).length : Int)) = ((cntC C k * (C k).length : Nat) : Int) := by
 have h1 := cnt_big C k
 have h2 : cntC C k * (C k).length ≤ 1099511627776 * 10000 := Nat.mul_le_mul h1 h
 have h3 : ((cntC C k * (C k).length : Nat) : Int) = (cntC C k : Int) * ((C k).length : Int) := Int.natCast_mul _ _
 rw [← h3, wrap64 (by omega) (by omega)]
theorem cnt_if (C : Nat → List SetM) (k : Nat) : (if (1099511627776 : Int) < ((cntC C k * (C k).length : Nat) : Int) then 1099511627776 else ((cntC C k * (C k).length : Nat) : Int)) = ((cntC C (k + 1) : Nat) : Int) := by
 show _ = ((min (cntC C k * (C k).length) 1099511627776 : Nat) : Int)
 split <;> omega
set_option maxHeartbeats 4000000 in
theorem kCountF (fs : List (List BoxM)) (h : GridOK fs) :
    ObjAt Tryz.prog 21 ⟨[(0, .ptr 1000000 0)], [(1000000, gridF fs)], []⟩ 1 (fun r hp tg => r = .val (.int .i64 (cntC (attrM fs.flatten) 4)) ∧ hp = [(1000000, gridL fs)] ∧ tg = []) := by
 refine obj_of [1000000] [] r21 (by kernel_rfl) ?_
 unfold m21
 simp only [go_sem, Nat.reduceEqDiff, Nat.reduceAdd, Nat.reduceLeDiff, List.length_map, z4, at4, BoxM.at, EvM.at, fillB, Int.reduceLT, Int.reduceLE, Int.reduceToNat, Int.toNat_zero, Int.le_refl, Int.reduceAdd, decide_true, decide_false, wr1, wr2, wr3, wr4, c0, c1, c2, c3, c4, Nat.reduceMul, Nat.reduceLT, Nat.lt_irrefl, true_and, and_self, ↓reduceIte]
 refine callO_eq rfl rfl rfl rfl rfl (kLaidF fs h) ?_
 have e0 := cnt_step (attrM fs.flatten) 0 (attr_len h (by omega)).1
 have e1 := cnt_step (attrM fs.flatten) 1 (attr_len h (by omega)).1
 have e2 := cnt_step (attrM fs.flatten) 2 (attr_len h (by omega)).1
 have e3 := cnt_step (attrM fs.flatten) 3 (attr_len h (by omega)).1
 simp only [gridL, gridB, go_sem, Nat.reduceEqDiff, Nat.reduceAdd, Nat.reduceLeDiff, List.length_map, z4, at4, BoxM.at, EvM.at, fillB, Int.reduceLT, Int.reduceLE, Int.reduceToNat, Int.toNat_zero, Int.le_refl, Int.reduceAdd, decide_true, decide_false, wr1, wr2, wr3, wr4, c0, c1, c2, c3, c4, Nat.reduceMul, Nat.reduceLT, Nat.lt_irrefl, true_and, and_self, ↓reduceIte]
 refine loop_N 4 (fun _ => True) (fun k => ⟨[(3, .val (.int .i64 (cntC (attrM fs.flatten) k))), (10, .agg [.sl none ((attrM fs.flatten 0).map setC), .sl none ((attrM fs.flatten 1).map setC), .sl none ((attrM fs.flatten 2).map setC), .sl none ((attrM fs.flatten 3).map setC)]), (11, .val (.int .i64 (z4 k)))], [(1000000, gridL fs)], []⟩) trivial rfl ?_
 rintro k hk -
 have hk5 : k = 0 ∨ k = 1 ∨ k = 2 ∨ k = 3 ∨ k = 4 := by omega
 rcases hk5 with rfl | rfl | rfl | rfl | rfl
 ·simp only [e0, cnt_if, go_sem, Nat.reduceEqDiff, Nat.reduceAdd, Nat.reduceLeDiff, List.length_map, z4, at4, BoxM.at, EvM.at, fillB, Int.reduceLT, Int.reduceLE, Int.reduceToNat, Int.toNat_zero, Int.le_refl, Int.reduceAdd, decide_true, decide_false, wr1, wr2, wr3, wr4, c0, c1, c2, c3, c4, Nat.reduceMul, Nat.reduceLT, Nat.lt_irrefl, true_and, and_self, ↓reduceIte]
  refine invN_next (show 0 < 4 by omega) trivial ?_
  rfl
 ·simp only [e1, cnt_if, go_sem, Nat.reduceEqDiff, Nat.reduceAdd, Nat.reduceLeDiff, List.length_map, z4, at4, BoxM.at, EvM.at, fillB, Int.reduceLT, Int.reduceLE, Int.reduceToNat, Int.toNat_zero, Int.le_refl, Int.reduceAdd, decide_true, decide_false, wr1, wr2, wr3, wr4, c0, c1, c2, c3, c4, Nat.reduceMul, Nat.reduceLT, Nat.lt_irrefl, true_and, and_self, ↓reduceIte]
  refine invN_next (show 1 < 4 by omega) trivial ?_
  rfl
 ·simp only [e2, cnt_if, go_sem, Nat.reduceEqDiff, Nat.reduceAdd, Nat.reduceLeDiff, List.length_map, z4, at4, BoxM.at, EvM.at, fillB, Int.reduceLT, Int.reduceLE, Int.reduceToNat, Int.toNat_zero, Int.le_refl, Int.reduceAdd, decide_true, decide_false, wr1, wr2, wr3, wr4, c0, c1, c2, c3, c4, Nat.reduceMul, Nat.reduceLT, Nat.lt_irrefl, true_and, and_self, ↓reduceIte]
  refine invN_next (show 2 < 4 by omega) trivial ?_
  rfl
 ·simp only [e3, cnt_if, go_sem, Nat.reduceEqDiff, Nat.reduceAdd, Nat.reduceLeDiff, List.length_map, z4, at4, BoxM.at, EvM.at, fillB, Int.reduceLT, Int.reduceLE, Int.reduceToNat, Int.toNat_zero, Int.le_refl, Int.reduceAdd, decide_true, decide_false, wr1, wr2, wr3, wr4, c0, c1, c2, c3, c4, Nat.reduceMul, Nat.reduceLT, Nat.lt_irrefl, true_and, and_self, ↓reduceIte]
  refine invN_next (show 3 < 4 by omega) trivial ?_
  rfl
 ·simp only [finO, go_sem, Nat.reduceEqDiff, Nat.reduceAdd, Nat.reduceLeDiff, List.length_map, z4, at4, BoxM.at, EvM.at, fillB, Int.reduceLT, Int.reduceLE, Int.reduceToNat, Int.toNat_zero, Int.le_refl, Int.reduceAdd, decide_true, decide_false, wr1, wr2, wr3, wr4, c0, c1, c2, c3, c4, Nat.reduceMul, Nat.reduceLT, Nat.lt_irrefl, true_and, and_self, ↓reduceIte]
  rfl
theorem kAttrL0 (fs : List (List BoxM)) (h : GridOK fs) :
    ObjAt Tryz.prog 20 ⟨[(0, .ptr 1000000 0), (1, .val (.int .i64 0))], [(1000000, gridL fs)], []⟩ 2 (fun r hp tg => r = .sl none ((attrM fs.flatten 0).map setC) ∧ hp = [(1000000, gridL fs)] ∧ tg = []) := by
 have hl := (attr_len h (i := 0) (by omega)).1
 have p := kCloneSet ((attrM fs.flatten 0).map setC) (setC_len _) (by rw [List.length_map]; omega)
 have c1 : decide ((0 : Int) < 0) = false := rfl
 have c2 : decide ((0 : Int) ≥ 4) = false := rfl
 refine obj_of [1000000] [] r20 (by kernel_rfl) ?_
 unfold m20
 simp only [c1, c2, go_sem, Nat.reduceEqDiff, Nat.reduceAdd, Nat.reduceLeDiff, List.length_map, z4, at4, BoxM.at, EvM.at, fillB, Int.reduceLT, Int.reduceLE, Int.reduceToNat, Int.toNat_zero, Int.le_refl, Int.reduceAdd, decide_true, decide_false, wr1, wr2, wr3, wr4, c0, c1, c2, c3, c4, Nat.reduceMul, Nat.reduceLT, Nat.lt_irrefl, true_and, and_self, ↓reduceIte]
 refine callO_eq rfl rfl rfl rfl rfl (kLaidL fs h) ?_
 simp only [gridL, gridB, go_sem, Nat.reduceEqDiff, Nat.reduceAdd, Nat.reduceLeDiff, List.length_map, z4, at4, BoxM.at, EvM.at, fillB, Int.reduceLT, Int.reduceLE, Int.reduceToNat, Int.toNat_zero, Int.le_refl, Int.reduceAdd, decide_true, decide_false, wr1, wr2, wr3, wr4, c0, c1, c2, c3, c4, Nat.reduceMul, Nat.reduceLT, Nat.lt_irrefl, true_and, and_self, ↓reduceIte]
 refine callP_eq rfl rfl p ?_
 simp only [finO, go_sem, Nat.reduceEqDiff, Nat.reduceAdd, Nat.reduceLeDiff, List.length_map, z4, at4, BoxM.at, EvM.at, fillB, Int.reduceLT, Int.reduceLE, Int.reduceToNat, Int.toNat_zero, Int.le_refl, Int.reduceAdd, decide_true, decide_false, wr1, wr2, wr3, wr4, c0, c1, c2, c3, c4, Nat.reduceMul, Nat.reduceLT, Nat.lt_irrefl, true_and, and_self, ↓reduceIte]
 rfl
end Go.Proofs

namespace Go.Proofs
open Go.Vm
set_option linter.unusedSimpArgs false
set_option maxHeartbeats 4000000 in
theorem kSample9 (s : SetM) (hi : s.ints.length ≤ 100000) (hs : s.strs.length ≤ 100000) : PureAt Tryz.prog 15 [.agg (setC s)] (· = .tup [.agg (valC (sampleM s).1), .val (.bool (sampleM s).2)]) := by
 have p1 := krefRight3 s (by omega) (by omega)
 have p2 := kref3Empty s
 have p3 := fun t => kInStrs s.strs (by omega) t
 refine pure_of r15 (by kernel_rfl) ?_
 unfold m15
 unfold setC at p1 p2
 obtain ⟨ab, is, co, L⟩ := s
 simp only at p1 p2 p3 hi hs
 simp only [setC, go_sem, Nat.reduceEqDiff, Nat.reduceAdd, Nat.reduceLeDiff, List.length_map]
 refine callP_eq rfl rfl p1 ?_
 simp only [go_sem, Nat.reduceEqDiff, Nat.reduceAdd, Nat.reduceLeDiff, List.length_map]
 cases hr : rightM ⟨ab, is, co, L⟩
 ·rw [sample_none (.inl hr)]
  simp only [go_sem, Nat.reduceEqDiff, Nat.reduceAdd, Nat.reduceLeDiff, List.length_map]
  rfl
 ·simp only [hr, go_sem, Nat.reduceEqDiff, Nat.reduceAdd, Nat.reduceLeDiff, List.length_map]
  refine callP_eq rfl rfl p2 ?_
  cases he : emptyM ⟨ab, is, co, L⟩
  ·have he' : (!ab && is.isEmpty && !co && L.isEmpty) = false := he
   rw [sample_smp hr he]
   simp only [go_sem, Nat.reduceEqDiff, Nat.reduceAdd, Nat.reduceLeDiff, List.length_map]
   cases ab
   ·simp only [go_sem, Nat.reduceEqDiff, Nat.reduceAdd, Nat.reduceLeDiff, List.length_map]
    cases is with
    | cons g is =>
     simp only [List.map_cons, encR, List.length_cons, go_sem, Nat.reduceEqDiff, Nat.reduceAdd, Nat.reduceLeDiff, List.length_map]
     refine condE_split (fun h => ?_) (fun h => ?_)
     ·simp only [z00, if_true, Int.toNat_zero, List.getElem?_cons_zero, go_sem, Nat.reduceEqDiff, Nat.reduceAdd, Nat.reduceLeDiff, List.length_map]
      rfl
     ·simp at h
    | nil =>
     simp only [List.map_nil, List.length_nil, zgt, go_sem, Nat.reduceEqDiff, Nat.reduceAdd, Nat.reduceLeDiff, List.length_map]
     cases co
     ·cases L with
      | nil => cases he'
      | cons u L =>
       simp only [List.map_cons, encSt, z00, if_true, Int.toNat_zero, List.getElem?_cons_zero, go_sem, Nat.reduceEqDiff, Nat.reduceAdd, Nat.reduceLeDiff, List.length_map]
       rfl
     ·have f0 := freeN_spec L
      simp only [go_sem, Nat.reduceEqDiff, Nat.reduceAdd, Nat.reduceLeDiff, List.length_map]
      refine loop_N (freeN L) (fun _ => True) (fun k => ⟨[(1, .ptr 1 0), (2, .ptr 2 0), (4, .val (.int .i64 k))], [(1, [.val (.bool false), .sl none [], .val (.bool true), .sl none (L.map encSt)]), (2, [.val (.int .i64 0), .val (.int .i64 0), .val (.string ⟨#[]⟩)])], []⟩) trivial (by simp only [go_sem, Nat.reduceEqDiff, Nat.reduceAdd, Nat.reduceLeDiff, List.length_map]; rfl) ?_
      rintro k hk -
      have hup := up64 (show k < 1000000 by omega)
      have hsz : #[(126 : UInt8)].size + (lb (digL k)).size ≤ 9223372036854775807 := by
       have := digL_len k 6 (by omega) (by omega)
       rw [lb_size]
       have e1 : #[(126 : UInt8)].size = 1 := rfl
       omega
      simp only [go_sem, Nat.reduceEqDiff, Nat.reduceAdd, Nat.reduceLeDiff, List.length_map]
      refine callQ_by _ rfl rfl (kDecimal k (by omega)) ?_
      simp only [go_sem, Nat.reduceEqDiff, Nat.reduceAdd, Nat.reduceLeDiff, List.length_map]
      rw [if_pos hsz]
      simp only [go_sem, Nat.reduceEqDiff, Nat.reduceAdd, Nat.reduceLeDiff, List.length_map]
      refine callQ_by _ rfl rfl (p3 (nthS k)) ?_
      simp only [go_sem, Nat.reduceEqDiff, Nat.reduceAdd, Nat.reduceLeDiff, List.length_map]
      refine condE_split (fun hc => ?_) (fun hc => ?_)
      ·have hm : nthS k ∈ L := any_eq.1 hc
       have hk' : k < freeN L := by
        have : k ≠ freeN L := fun e => f0.1 (by rw [← e]; exact hm)
        omega
       simp only [hup, go_sem, Nat.reduceEqDiff, Nat.reduceAdd, Nat.reduceLeDiff, List.length_map]
       refine invN_next hk' trivial ?_
       rfl
      ·have hm : nthS k ∉ L := fun hm => by rw [any_eq.2 hm] at hc; cases hc
       have : k = freeN L := Classical.byContradiction fun e => hm (f0.2.2 k (by omega))
       subst this
       simp only [go_sem, Nat.reduceEqDiff, Nat.reduceAdd, Nat.reduceLeDiff, List.length_map]
       refine callP_eq rfl rfl (kDecimal _ (by omega)) ?_
       simp only [go_sem, Nat.reduceEqDiff, Nat.reduceAdd, Nat.reduceLeDiff, List.length_map]
       rw [if_pos hsz]
       simp only [go_sem, Nat.reduceEqDiff, Nat.reduceAdd, Nat.reduceLeDiff, List.length_map]
       rfl
   ·simp only [go_sem, Nat.reduceEqDiff, Nat.reduceAdd, Nat.reduceLeDiff, List.length_map]
    rfl
  ·rw [sample_none (.inr he)]
   simp only [go_sem, Nat.reduceEqDiff, Nat.reduceAdd, Nat.reduceLeDiff, List.length_map]
   rfl
end Go.Proofs

namespace Go.Proofs
open Go.Vm
set_option linter.unusedSimpArgs false
def aw1 : SetM := ⟨false, [(1, 5)], false, []⟩
def aw2 : SetM := ⟨false, [], true, [⟨#[126, 48]⟩]⟩
theorem ends_aw1 : endsM [aw1] = [0, 5, maxI] := by
 refine Incr_unique (endsM_incr _) (by unfold Incr maxI; decide) fun t => ?_
 rw [mem_endsM]
 constructor
 ·rintro (h | ⟨s, hs, r, hr, h⟩)
  ·simp [h]
  ·simp [aw1] at hs; subst hs
   simp at hr; subst hr
   simp at h
   rcases h with h | ⟨-, h⟩ <;> simp [h]
 ·intro h
  simp at h
  rcases h with h | h | h
  ·exact .inr ⟨aw1, by simp, (1, 5), by simp [aw1], .inr ⟨by unfold minI; decide, h⟩⟩
  ·exact .inr ⟨aw1, by simp, (1, 5), by simp [aw1], .inl h⟩
  ·exact .inl h
theorem names_aw1 : namesM [aw1] = [] := by
 refine List.eq_nil_iff_forall_not_mem.2 fun t ht => ?_
 obtain ⟨s, hs, h⟩ := mem_namesM.1 ht
 simp at hs; subst hs; cases h
theorem ends_nil : endsM [] = [maxI] := by
 refine Incr_unique (endsM_incr _) (by unfold Incr maxI; simp) fun t => ?_
 rw [mem_endsM]
 simp
theorem names_nil : namesM [] = [] := by
 refine List.eq_nil_iff_forall_not_mem.2 fun t ht => ?_
 obtain ⟨s, hs, h⟩ := mem_namesM.1 ht
 cases hs
theorem cut_aw1 : cutR [aw1] = [⟨true, [], false, []⟩, cellN minI 0, cellN 1 5, cellN 6 maxI, ⟨false, [], true, []⟩] := by
 unfold cutR; rw [ends_aw1, names_aw1]; rfl
theorem nth0 : nthS 0 = ⟨#[126, 48]⟩ := by unfold nthS; rw [digL_lt (by omega)]; rfl
theorem nth1 : nthS 1 = ⟨#[126, 49]⟩ := by unfold nthS; rw [digL_lt (by omega)]; rfl
theorem aw2_smp : sampleM aw2 = (ptS ⟨#[126, 49]⟩, true) := by
 rw [sample_smp rfl rfl]
 have : freeN [⟨#[126, 48]⟩] = 1 := by
  unfold freeN
  simp only [List.length_cons, List.length_nil, freeS, nth0]
  rfl
 unfold smpM aw2
 simp only [this, nth1]
 rfl
theorem gridOK_nil : GridOK [] := ⟨by simp, by simp, by simp, by simp⟩
theorem attr_nil (i : Nat) (hi : i < 4) : (attrM ([] : List (List BoxM)).flatten i).length = 3 := by
 rw [attr_cut (by simp) hi, cut_len]
 show (endsM []).length + (namesM []).length + 2 = 3
 rw [ends_nil, names_nil]; rfl
theorem cnt_nil : cntC (attrM ([] : List (List BoxM)).flatten) 4 = 81 := by
 simp only [cntC, attr_nil 0 (by omega), attr_nil 1 (by omega), attr_nil 2 (by omega), attr_nil 3 (by omega)]
 rfl
theorem w6 : idxOf (fun c => hasM c ⟨1, 6, ⟨#[]⟩⟩) (cutR [aw1]) = 3 := by
 rw [cut_aw1, show (fun c => hasM c ⟨1, 6, ⟨#[]⟩⟩) = fun c : SetM => inI c.ints 6 from funext fun c => has1 (rightI 6) rfl]
 decide
theorem w7 : idxOf (fun c => hasM c ⟨7, 0, ⟨#[]⟩⟩) (cutR [aw1]) = -1 := by
 rw [show (fun c => hasM c ⟨7, 0, ⟨#[]⟩⟩) = fun c : SetM => false from funext fun c => by simp [hasM, rightV]]
 simp [idxOf]
set_option maxHeartbeats 8000000 in
theorem kawake09 : PureAt Tryz.prog 10 [] (· = .val (.bool true)) := by
 have hb1 : Bnd aw1 := fun r hr => by simp [aw1] at hr; subst hr; exact ⟨⟨by decide, by decide⟩, ⟨by decide, by decide⟩⟩
 have p1 := kCut [aw1] (fun s hs => by simp at hs; subst hs; exact Few1.ok hb1 rfl) (by simp) (fun s hs => by simp at hs; subst hs; simp [aw1])
 have p2 := kSample aw2 (by simp [aw2]) (by simp [aw2]) (fun r hr => by simp [aw2] at hr)
 have p3 := fun v => kWhich (cutR [aw1]) (by rw [cut_aw1]; simp) (fun s hs => by rw [cut_aw1] at hs; simp at hs; rcases hs with rfl | rfl | rfl | rfl | rfl <;> simp [cellN]) v
 have p4 := p3 ⟨1, 6, ⟨#[]⟩⟩
 have p5 := p3 ⟨7, 0, ⟨#[]⟩⟩
 have p6 := kCountF [] gridOK_nil
 have p7 := kAttrL0 [] gridOK_nil
 have hl := attr_nil 0 (by omega)
 rw [aw2_smp] at p2
 rw [w6] at p4
 rw [w7] at p5
 rw [cnt_nil] at p6
 rw [cut_aw1] at p1 p4 p5
 refine pure_of r10 (by kernel_rfl) ?_
 unfold m10
 simp only [go_sem, Nat.reduceEqDiff, Nat.reduceAdd, Nat.reduceLeDiff, List.length_map]
 refine callP_eq rfl rfl p1 ?_
 simp only [go_sem, Nat.reduceEqDiff, Nat.reduceAdd, Nat.reduceLeDiff, List.length_map]
 refine callP_eq rfl rfl p2 ?_
 simp only [valC, ptS, go_sem, Nat.reduceEqDiff, Nat.reduceAdd, Nat.reduceLeDiff, List.length_map]
 refine callO_eq rfl rfl rfl rfl rfl (kNew [] (by simp)) ?_
 simp only [cellN, setC, encR, valC, ptS, List.map_cons, List.map_nil, go_sem, Nat.reduceEqDiff, Nat.reduceAdd, Nat.reduceLeDiff, List.length_map]
 have e1 : (((1 : Nat) : Int) == 1) = true := rfl
 have e5 : (((5 : Nat) : Int) == 5) = true := rfl
 have q1 : ((1 : Int) == 1) = true := rfl
 have q5 : ((5 : Int) == 5) = true := rfl
 have q3 : ((3 : Int) == 3) = true := rfl
 have qm : ((-1 : Int) == -1) = true := rfl
 have q81 : (((81 : Nat) : Int) == 81) = true := rfl
 have sq : ((⟨#[126, 49]⟩ : ByteArray).toList == (⟨#[126, 49]⟩ : ByteArray).toList) = true := BEq.rfl
 have l2 : ((0 : Int) ≤ 2) = True := by simp
 have l4 : ((0 : Int) ≤ 4) = True := by simp
 have i2 : Int.toNat 2 = 2 := rfl
 have i4 : Int.toNat 4 = 4 := rfl
 simp only [e1, e5, l2, l4, i2, i4, z00, Int.toNat_zero, List.getElem?_cons_succ, List.getElem?_cons_zero, if_true, q1, q5, q3, qm, q81, sq, go_sem, Nat.reduceEqDiff, Nat.reduceAdd, Nat.reduceLeDiff, List.length_map]
 refine callP_eq rfl rfl p4 ?_
 simp only [q3, go_sem, Nat.reduceEqDiff, Nat.reduceAdd, Nat.reduceLeDiff, List.length_map]
 refine callP_eq rfl rfl p5 ?_
 simp only [qm, go_sem, Nat.reduceEqDiff, Nat.reduceAdd, Nat.reduceLeDiff, List.length_map]
 refine callO_eq rfl rfl rfl rfl rfl p6 ?_
 simp only [q81, go_sem, Nat.reduceEqDiff, Nat.reduceAdd, Nat.reduceLeDiff, List.length_map]
 refine callO_eq rfl rfl rfl rfl rfl p7 ?_
 simp only [hl, q3, go_sem, Nat.reduceEqDiff, Nat.reduceAdd, Nat.reduceLeDiff, List.length_map]
 rfl
end Go.Proofs
