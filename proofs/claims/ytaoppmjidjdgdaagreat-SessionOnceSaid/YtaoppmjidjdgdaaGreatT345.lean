/- A part of the proof; what is proved stands in the last text. -/
import Derived.Test.YtaoppmjidjdgdaaGreatT344
import Derived.Test.YtaoppmjidjdgdaaGreatMQ
set_option linter.unusedVariables false
set_option maxRecDepth 2000
namespace Go.Proofs
open Go.Vm
set_option linter.unusedSimpArgs false
def bxO (n : Int) (L : List SEnt) (G : List Int) : List D := [.val (.int .i64 n), .sl (some (22, 44, 3)) (L.map entS), .mh 10502201, .sl (some (502201, 3, 1)) (G.map intS)]
def hpO (n : Int) (L : List SEnt) (G : List Int) (W : List (Int × Bool)) : List (Nat × List D) := [(22, bxO n L G), (10000023, [.mpc (gotR W), .undef, .undef]), (10502201, [.mpc (seenR G), .undef, .undef])]
def tgO : List (Tag × Bool) := [((22, 44, 3), true), ((502201, 3, 1), true)]
def stO (ops : List OpM) (n : Int) (L : List SEnt) (G : List Int) (W : List (Int × Bool)) (i : Nat) : St := ⟨[(3, .ptr 22 0), (4, .mh 10000023), (24, .sl none (ops.map opC)), (25, .val (.int .i64 ops.length)), (26, .val (.int .i64 i))], hpO n L G W, tgO⟩
structure OnceOk (n : Int) (L : List SEnt) (G : List Int) (W : List (Int × Bool)) (i : Nat) : Prop where
 n0 : 0 ≤ n
 n1 : n ≤ i
 len : L.length ≤ 6
 few : FewE L
 gl : G.length ≤ i
 gn : G.Nodup
 wl : W.length ≤ i
 wn : (keysG W).Nodup
 wg : ∀ k, gotV W k = decide (k ∈ G)
theorem OnceOk.up {n : Int} {L : List SEnt} {G : List Int} {W : List (Int × Bool)} {i : Nat} (h : OnceOk n L G W i) : OnceOk n L G W (i + 1) :=
 ⟨h.n0, by have := h.n1; omega, h.len, h.few, by have := h.gl; omega, h.gn, by have := h.wl; omega, h.wn, h.wg⟩
theorem OnceOk.rem {n : Int} {L : List SEnt} {G : List Int} {W : List (Int × Bool)} {i : Nat} (h : OnceOk n L G W i) (k : Int) : OnceOk n (remL L k) G W (i + 1) := by
 unfold remL
 split
 ·have hs : (L.eraseIdx (L.findIdx fun x => x.id == k)).Sublist L := List.eraseIdx_sublist L _
  have h := h.up
  exact ⟨h.n0, h.n1, Nat.le_trans hs.length_le h.len, fun x hx => h.few x (hs.subset hx), h.gl, h.gn, h.wl, h.wn, h.wg⟩
 ·exact h.up
theorem OnceOk.add {n : Int} {L : List SEnt} {G : List Int} {W : List (Int × Bool)} {i : Nat} (h : OnceOk n L G W i) (f : List BoxM) (hf : f.length ≤ 10000 ∧ (∀ b ∈ f, FewB 900 b) ∧ ∀ b ∈ f, BndB b) : OnceOk (if (addN n L f).2 = 0 then n + 1 else n) (addL n L f) G W (i + 1) := by
 have h0 := h.n0
 have h1 := h.n1
 have h := h.up
 unfold addL addN
 by_cases hr : rightF f = true
 ·rw [if_pos hr]
  by_cases h6 : L.length ≥ 6
  ·rw [if_pos h6]
   exact ⟨h.n0, h.n1, h.len, h.few, h.gl, h.gn, h.wl, h.wn, h.wg⟩
  ·rw [if_neg h6]
   refine ⟨by simp; omega, by simp; omega, by simp; omega, fun x hx => ?_, h.gl, h.gn, h.wl, h.wn, h.wg⟩
   rw [if_pos rfl] at hx
   rcases List.mem_append.1 hx with hx | hx
   ·exact h.few x hx
   ·rw [List.mem_singleton.1 hx]; exact hf
 ·rw [if_neg hr]
  exact ⟨h.n0, h.n1, h.len, h.few, h.gl, h.gn, h.wl, h.wn, h.wg⟩
theorem gput_len (k : Int) (b : Bool) : ∀ (W : List (Int × Bool)), (gput k b W).length ≤ W.length + 1
 | [] => by simp [gput]
 | p :: W => by
  unfold gput
  split
  ·simp
  ·have := gput_len k b W
   simp only [List.length_cons]; omega
theorem OnceOk.dlv {n : Int} {L : List SEnt} {G : List Int} {W : List (Int × Bool)} {i : Nat} (h : OnceOk n L G W i) (k : Int) (e : EvM) : OnceOk n L (if dlv L G k e = true then G ++ [k] else G) (gput k (gotV W k || hasL L e) W) (i + 1) := by
 have h0 := h.wl
 have h1 := h.gl
 have h := h.up
 refine ⟨h.n0, h.n1, h.len, h.few, ?_, ?_, ?_, gput_nodup _ _ _ h.wn, fun k' => ?_⟩
 ·split
  ·simp; omega
  ·omega
 ·split
  ·rename_i hd
   unfold Proofs.dlv at hd
   simp only [Bool.and_eq_true, Bool.not_eq_true', decide_eq_false_iff_not] at hd
   rw [List.nodup_append]
   refine ⟨h.gn, by simp, fun a ha b hb => ?_⟩
   rw [List.mem_singleton.1 hb]
   rintro rfl
   exact hd.1 ha
  ·exact h.gn
 ·have := gput_len k (gotV W k || hasL L e) W
  omega
 ·rw [gotV_put, h.wg k, h.wg k']
  unfold Proofs.dlv
  by_cases hk : k = k'
  ·subst hk
   rw [if_pos rfl]
   by_cases hm : k ∈ G
   ·simp [hm]
   ·cases hasL L e <;> simp [hm]
  ·rw [if_neg hk]
   have hk' : ¬ k' = k := fun e => hk e.symm
   split <;> simp [hk']
def invO (ops : List OpM) (S : St) (m : Nat) : Prop := ∃ (i : Nat) (n : Int) (L : List SEnt) (G : List Int) (W : List (Int × Bool)), i ≤ ops.length ∧ m = ops.length - i ∧ OnceOk n L G W i ∧ S.trim [3, 4, 24, 25, 26] [22, 10000023, 10502201] [(22, 44, 3), (502201, 3, 1)] = stO ops n L G W i
theorem hasL_take {L : List SEnt} (e : EvM) {j : Nat} (hj : j < L.length) : hasL (L.take (j + 1)) e = (hasL (L.take j) e || hasF (L.getD j ent0).f e) := by
 unfold hasL
 rw [List.take_add_one, List.getElem?_eq_getElem hj, List.any_append, eget hj]
 simp
theorem few_901 {b : BoxM} (h : FewB 40 b) : FewB 900 b := fun i hi => ⟨by have := (h i hi).1; omega, by have := (h i hi).2; omega⟩
def invM (W : List (Int × Bool)) (st : List Nat) (c g : Nat) (S : St) (m : Nat) : Prop := ∃ vis : List Nat, vis.Nodup ∧ (∀ j ∈ vis, j < W.length) ∧ m = W.length - vis.length ∧
 S.trim [10, 102] [10000023, 20000102] [] = ⟨[(10, .val (.int .i64 ((g : Int) - ((vis.filter fun j => (W.getD j (0, false)).2).length : Nat)))), (102, .mh 20000102)], [(10000023, [.mpc (gotR W), stD st, .val (.int .i64 c)]), (20000102, [.mh 10000023, stD (vis.map fun j => st.getD j 0), .val (.int .i64 c), .val (.int .i64 c)])], []⟩
set_option maxHeartbeats 8000000 in
set_option maxRecDepth 4000 in
theorem kSessionOnce (ops : List OpM) (hl : ops.length ≤ maxLen) (ho : ∀ x ∈ ops, OpIn x) : PureAt Tryz.prog 3 [.sl none (ops.map opC)] (· = .val (.bool true)) := by
 refine pure_of r3 (by kernel_rfl) ?_
 unfold m3
 simp only [go_sem, Nat.reduceEqDiff, Nat.reduceAdd, Nat.reduceLeDiff, List.length_map, Int.reduceLT, Int.reduceLE, Int.reduceToNat, Int.toNat_zero, Int.le_refl, Int.reduceAdd, decide_true, decide_false, Nat.reduceMul, Nat.reduceLT, Nat.lt_irrefl, true_and, and_self, ↓reduceIte]
 refine callP_eq rfl rfl kawake18 ?_
 simp only [go_sem, Nat.reduceEqDiff, Nat.reduceAdd, Nat.reduceLeDiff, List.length_map, Int.reduceLT, Int.reduceLE, Int.reduceToNat, Int.toNat_zero, Int.le_refl, Int.reduceAdd, decide_true, decide_false, Nat.reduceMul, Nat.reduceLT, Nat.lt_irrefl, true_and, and_self, ↓reduceIte]
 refine callP_eq rfl rfl (kLong ops hl ho) ?_
 cases hlong : longS ops
 rotate_left
 ·simp only [go_sem, Nat.reduceEqDiff, Nat.reduceAdd, Nat.reduceLeDiff, List.length_map, Int.reduceLT, Int.reduceLE, Int.reduceToNat, Int.toNat_zero, Int.le_refl, Int.reduceAdd, decide_true, decide_false, Nat.reduceMul, Nat.reduceLT, Nat.lt_irrefl, true_and, and_self, ↓reduceIte]
  refine callP_eq rfl rfl kawake18 ?_
  simp only [go_sem, Nat.reduceEqDiff, Nat.reduceAdd, Nat.reduceLeDiff, List.length_map, Int.reduceLT, Int.reduceLE, Int.reduceToNat, Int.toNat_zero, Int.le_refl, Int.reduceAdd, decide_true, decide_false, Nat.reduceMul, Nat.reduceLT, Nat.lt_irrefl, true_and, and_self, ↓reduceIte]
 have hl2 : ops.length ≤ 200 ∧ ∀ x ∈ ops, few6 x.f = true := by
  unfold longS at hlong
  simp only [Bool.or_eq_false_iff, Bool.not_eq_false', decide_eq_false_iff_not, List.all_eq_true] at hlong
  exact ⟨by omega, hlong.1⟩
 simp only [go_sem, Nat.reduceEqDiff, Nat.reduceAdd, Nat.reduceLeDiff, List.length_map, Int.reduceLT, Int.reduceLE, Int.reduceToNat, Int.toNat_zero, Int.le_refl, Int.reduceAdd, decide_true, decide_false, Nat.reduceMul, Nat.reduceLT, Nat.lt_irrefl, true_and, and_self, ↓reduceIte]
 refine callO_eq rfl rfl rfl rfl rfl kNew ?_
 simp only [go_sem, Nat.reduceEqDiff, Nat.reduceAdd, Nat.reduceLeDiff, List.length_map, Int.reduceLT, Int.reduceLE, Int.reduceToNat, Int.toNat_zero, Int.le_refl, Int.reduceAdd, decide_true, decide_false, Nat.reduceMul, Nat.reduceLT, Nat.lt_irrefl, true_and, and_self, ↓reduceIte]
 refine ev_loop_by (invO ops) ops.length ⟨0, 0, [], [], [], by omega, by omega, ⟨by decide, by decide, by decide, by simp [FewE], by simp, by simp, by simp, by simp [keysG], fun k => by simp [gotV, gfind]⟩, by simp only [stO, hpO, bxO, tgO, go_sem, Nat.reduceEqDiff, Nat.reduceAdd, Nat.reduceLeDiff, List.length_map, Int.reduceLT, Int.reduceLE, Int.reduceToNat, Int.toNat_zero, Int.le_refl, Int.reduceAdd, decide_true, decide_false, Nat.reduceMul, Nat.reduceLT, Nat.lt_irrefl, true_and, and_self, ↓reduceIte]; rfl⟩ ?_
 rintro m0 S ⟨i, n, L, G, W, hi, hk, h, hS⟩
 rw [ev_trim, hS]
 subst hk
 simp only [stO, hpO, bxO, tgO, go_sem, Nat.reduceEqDiff, Nat.reduceAdd, Nat.reduceLeDiff, List.length_map, Int.reduceLT, Int.reduceLE, Int.reduceToNat, Int.toNat_zero, Int.le_refl, Int.reduceAdd, decide_true, decide_false, Nat.reduceMul, Nat.reduceLT, Nat.lt_irrefl, true_and, and_self, ↓reduceIte]
 refine condE_split (fun hc => ?_) (fun hc => ?_)
 ·have hi' : i < ops.length := by simpa using hc
  have hup := up64 (show i < 1000000 by omega)
  have hin := ho _ (ogetm hi')
  have hf6 := hl2.2 _ (ogetm hi')
  have hlen := h.len
  have hn0 := h.n0
  have hn1 := h.n1
  have hgl := h.gl
  simp only [nn0, Int.toNat_natCast, get_opC hi', opC, evC, go_sem, Nat.reduceEqDiff, Nat.reduceAdd, Nat.reduceLeDiff, List.length_map, Int.reduceLT, Int.reduceLE, Int.reduceToNat, Int.toNat_zero, Int.le_refl, Int.reduceAdd, decide_true, decide_false, Nat.reduceMul, Nat.reduceLT, Nat.lt_irrefl, true_and, and_self, ↓reduceIte]
  generalize ops.getD i op0 = x at *
  have hfin : x.f.length ≤ 10000 ∧ (∀ b ∈ x.f, FewB 900 b) ∧ ∀ b ∈ x.f, BndB b := by
   unfold few6 at hf6
   simp only [Bool.and_eq_true, decide_eq_true_eq] at hf6
   exact ⟨by omega, fun b hb => few_901 (few4_of hf6.2 b hb), hin.1⟩
  have fin : ∀ (n' : Int) (L' : List SEnt) (G' : List Int) (W' : List (Int × Bool)), OnceOk n' L' G' W' (i + 1) → ∀ S', S'.trim [3, 4, 24, 25, 26] [22, 10000023, 10502201] [(22, 44, 3), (502201, 3, 1)] = stO ops n' L' G' W' (i + 1) → ∃ k, k < ops.length - i ∧ invO ops S' k := fun n' L' G' W' hok S' hS' =>
   ⟨ops.length - (i + 1), by omega, i + 1, n', L', G', W', by omega, rfl, hok, hS'⟩
  cases hk1 : (x.kind == 1)
  ·simp only [go_sem, Nat.reduceEqDiff, Nat.reduceAdd, Nat.reduceLeDiff, List.length_map, Int.reduceLT, Int.reduceLE, Int.reduceToNat, Int.toNat_zero, Int.le_refl, Int.reduceAdd, decide_true, decide_false, Nat.reduceMul, Nat.reduceLT, Nat.lt_irrefl, true_and, and_self, ↓reduceIte]
   cases hk2 : (x.kind == 2)
   ·simp only [go_sem, Nat.reduceEqDiff, Nat.reduceAdd, Nat.reduceLeDiff, List.length_map, Int.reduceLT, Int.reduceLE, Int.reduceToNat, Int.toNat_zero, Int.le_refl, Int.reduceAdd, decide_true, decide_false, Nat.reduceMul, Nat.reduceLT, Nat.lt_irrefl, true_and, and_self, ↓reduceIte]
    refine callO_eq rfl rfl rfl rfl rfl (ksActive n L G (by omega)) ?_
    simp only [hpS, sBox, tE, tInt, tgS, go_sem, Nat.reduceEqDiff, Nat.reduceAdd, Nat.reduceLeDiff, List.length_map, Int.reduceLT, Int.reduceLE, Int.reduceToNat, Int.toNat_zero, Int.le_refl, Int.reduceAdd, decide_true, decide_false, Nat.reduceMul, Nat.reduceLT, Nat.lt_irrefl, true_and, and_self, ↓reduceIte]
    refine loop_N L.length (fun _ => True) (fun j => ⟨[(3, .ptr 22 0), (4, .mh 10000023), (6, .rp none (opC x) 0), (7, .val (.bool (hasL (L.take j) x.e))), (24, .sl none (ops.map opC)), (25, .val (.int .i64 ops.length)), (26, .val (.int .i64 i)), (33, .sl none (L.map entS)), (34, .val (.int .i64 L.length)), (35, .val (.int .i64 j))], hpO n L G W, tgO⟩) trivial (by simp only [hpO, bxO, tgO, opC, evC, go_sem, Nat.reduceEqDiff, Nat.reduceAdd, Nat.reduceLeDiff, List.length_map, Int.reduceLT, Int.reduceLE, Int.reduceToNat, Int.toNat_zero, Int.le_refl, Int.reduceAdd, decide_true, decide_false, Nat.reduceMul, Nat.reduceLT, Nat.lt_irrefl, true_and, and_self, ↓reduceIte]; rfl) ?_
    intro j hj _
    simp only [hpO, bxO, tgO, opC, evC, go_sem, Nat.reduceEqDiff, Nat.reduceAdd, Nat.reduceLeDiff, List.length_map, Int.reduceLT, Int.reduceLE, Int.reduceToNat, Int.toNat_zero, Int.le_refl, Int.reduceAdd, decide_true, decide_false, Nat.reduceMul, Nat.reduceLT, Nat.lt_irrefl, true_and, and_self, ↓reduceIte]
    refine condE_split (fun hc2 => ?_) (fun hc2 => ?_)
    ·have hj' : j < L.length := by simpa using hc2
     have hup2 := up64 (show j < 1000000 by omega)
     have hm := h.few _ (egetm hj')
     have htk := hasL_take x.e hj'
     simp only [nn0, Int.toNat_natCast, get_entS hj', entS, go_sem, Nat.reduceEqDiff, Nat.reduceAdd, Nat.reduceLeDiff, List.length_map, Int.reduceLT, Int.reduceLE, Int.reduceToNat, Int.toNat_zero, Int.le_refl, Int.reduceAdd, decide_true, decide_false, Nat.reduceMul, Nat.reduceLT, Nat.lt_irrefl, true_and, and_self, ↓reduceIte]
     cases h7 : hasL (L.take j) x.e
     ·simp only [go_sem, Nat.reduceEqDiff, Nat.reduceAdd, Nat.reduceLeDiff, List.length_map, Int.reduceLT, Int.reduceLE, Int.reduceToNat, Int.toNat_zero, Int.le_refl, Int.reduceAdd, decide_true, decide_false, Nat.reduceMul, Nat.reduceLT, Nat.lt_irrefl, true_and, and_self, ↓reduceIte]
      refine callP_eq rfl rfl (kref6Has _ x.e hm.1 (fun b hb => few_of (hm.2.1 b hb))) ?_
      rw [h7, Bool.false_or] at htk
      simp only [hup2, go_sem, Nat.reduceEqDiff, Nat.reduceAdd, Nat.reduceLeDiff, List.length_map, Int.reduceLT, Int.reduceLE, Int.reduceToNat, Int.toNat_zero, Int.le_refl, Int.reduceAdd, decide_true, decide_false, Nat.reduceMul, Nat.reduceLT, Nat.lt_irrefl, true_and, and_self, ↓reduceIte]
      exact invN_next hj' trivial (by simp only [hpO, bxO, tgO, opC, evC, htk, go_sem, Nat.reduceEqDiff, Nat.reduceAdd, Nat.reduceLeDiff, List.length_map, Int.reduceLT, Int.reduceLE, Int.reduceToNat, Int.toNat_zero, Int.le_refl, Int.reduceAdd, decide_true, decide_false, Nat.reduceMul, Nat.reduceLT, Nat.lt_irrefl, true_and, and_self, ↓reduceIte])
     ·rw [h7, Bool.true_or] at htk
      simp only [hup2, go_sem, Nat.reduceEqDiff, Nat.reduceAdd, Nat.reduceLeDiff, List.length_map, Int.reduceLT, Int.reduceLE, Int.reduceToNat, Int.toNat_zero, Int.le_refl, Int.reduceAdd, decide_true, decide_false, Nat.reduceMul, Nat.reduceLT, Nat.lt_irrefl, true_and, and_self, ↓reduceIte]
      exact invN_next hj' trivial (by simp only [hpO, bxO, tgO, opC, evC, htk, go_sem, Nat.reduceEqDiff, Nat.reduceAdd, Nat.reduceLeDiff, List.length_map, Int.reduceLT, Int.reduceLE, Int.reduceToNat, Int.toNat_zero, Int.le_refl, Int.reduceAdd, decide_true, decide_false, Nat.reduceMul, Nat.reduceLT, Nat.lt_irrefl, true_and, and_self, ↓reduceIte])
    ·have hj' : j = L.length := by simp at hc2; omega
     subst hj'
     have hde := kDeliver n L G x.n 0 x.e (by omega) (by omega) h.few
     unfold pubC evC at hde
     have hdv : dlv L G x.n x.e = (hasL L x.e && !gotV W x.n) := by rw [h.wg]; unfold dlv; cases hasL L x.e <;> cases decide (x.n ∈ G) <;> rfl
     have hok := h.dlv x.n x.e
     have hfe := findE_got x.n W 0
     have hput := put_got x.n (gotV W x.n || hasL L x.e) W
     have hres := mres_got W x.n
     rw [List.take_length]
     simp only [hpO, bxO, tgO, opC, evC, go_sem, Nat.reduceEqDiff, Nat.reduceAdd, Nat.reduceLeDiff, List.length_map, Int.reduceLT, Int.reduceLE, Int.reduceToNat, Int.toNat_zero, Int.le_refl, Int.reduceAdd, decide_true, decide_false, Nat.reduceMul, Nat.reduceLT, Nat.lt_irrefl, true_and, and_self, ↓reduceIte]
     refine callO_eq rfl rfl rfl rfl rfl hde ?_
     cases hw : hasL L x.e
     ·cases hg : gotV W x.n
      ·simp only [hw, hg, Bool.not_false, Bool.not_true, Bool.and_false, Bool.and_true, Bool.false_or, Bool.true_or, Bool.or_false, Bool.or_true, Bool.false_eq_true, if_false, if_true, Bool.and_self, Bool.or_self] at hdv hput hok hres
       rw [hdv] at hok
       simp only [Bool.false_eq_true, if_false, if_true] at hok
       simp only [hpS, sBox, tE, tInt, tgS, hpO, bxO, tgO, hfe, hput, hres, hdv, beq_self_eq_true, Bool.not_true, Bool.not_false, bne_self_eq_false, bne, hup, go_sem, Nat.reduceEqDiff, Nat.reduceAdd, Nat.reduceLeDiff, List.length_map, Int.reduceLT, Int.reduceLE, Int.reduceToNat, Int.toNat_zero, Int.le_refl, Int.reduceAdd, decide_true, decide_false, Nat.reduceMul, Nat.reduceLT, Nat.lt_irrefl, true_and, and_self, ↓reduceIte]
       exact fin n L _ _ hok _ (by simp only [stO, hpO, bxO, tgO, go_sem, Nat.reduceEqDiff, Nat.reduceAdd, Nat.reduceLeDiff, List.length_map, Int.reduceLT, Int.reduceLE, Int.reduceToNat, Int.toNat_zero, Int.le_refl, Int.reduceAdd, decide_true, decide_false, Nat.reduceMul, Nat.reduceLT, Nat.lt_irrefl, true_and, and_self, ↓reduceIte])
      ·simp only [hw, hg, Bool.not_false, Bool.not_true, Bool.and_false, Bool.and_true, Bool.false_or, Bool.true_or, Bool.or_false, Bool.or_true, Bool.false_eq_true, if_false, if_true, Bool.and_self, Bool.or_self] at hdv hput hok hres
       rw [hdv] at hok
       simp only [Bool.false_eq_true, if_false, if_true] at hok
       simp only [hpS, sBox, tE, tInt, tgS, hpO, bxO, tgO, hfe, hput, hres, hdv, beq_self_eq_true, Bool.not_true, Bool.not_false, bne_self_eq_false, bne, hup, go_sem, Nat.reduceEqDiff, Nat.reduceAdd, Nat.reduceLeDiff, List.length_map, Int.reduceLT, Int.reduceLE, Int.reduceToNat, Int.toNat_zero, Int.le_refl, Int.reduceAdd, decide_true, decide_false, Nat.reduceMul, Nat.reduceLT, Nat.lt_irrefl, true_and, and_self, ↓reduceIte]
       exact fin n L _ _ hok _ (by simp only [stO, hpO, bxO, tgO, go_sem, Nat.reduceEqDiff, Nat.reduceAdd, Nat.reduceLeDiff, List.length_map, Int.reduceLT, Int.reduceLE, Int.reduceToNat, Int.toNat_zero, Int.le_refl, Int.reduceAdd, decide_true, decide_false, Nat.reduceMul, Nat.reduceLT, Nat.lt_irrefl, true_and, and_self, ↓reduceIte])
     ·cases hg : gotV W x.n
      ·simp only [hw, hg, Bool.not_false, Bool.not_true, Bool.and_false, Bool.and_true, Bool.false_or, Bool.true_or, Bool.or_false, Bool.or_true, Bool.false_eq_true, if_false, if_true, Bool.and_self, Bool.or_self] at hdv hput hok hres
       rw [hdv] at hok
       simp only [Bool.false_eq_true, if_false, if_true] at hok
       simp only [hpS, sBox, tE, tInt, tgS, hpO, bxO, tgO, hfe, hput, hres, hdv, beq_self_eq_true, Bool.not_true, Bool.not_false, bne_self_eq_false, bne, hup, go_sem, Nat.reduceEqDiff, Nat.reduceAdd, Nat.reduceLeDiff, List.length_map, Int.reduceLT, Int.reduceLE, Int.reduceToNat, Int.toNat_zero, Int.le_refl, Int.reduceAdd, decide_true, decide_false, Nat.reduceMul, Nat.reduceLT, Nat.lt_irrefl, true_and, and_self, ↓reduceIte]
       exact fin n L _ _ hok _ (by simp only [stO, hpO, bxO, tgO, go_sem, Nat.reduceEqDiff, Nat.reduceAdd, Nat.reduceLeDiff, List.length_map, Int.reduceLT, Int.reduceLE, Int.reduceToNat, Int.toNat_zero, Int.le_refl, Int.reduceAdd, decide_true, decide_false, Nat.reduceMul, Nat.reduceLT, Nat.lt_irrefl, true_and, and_self, ↓reduceIte])
      ·simp only [hw, hg, Bool.not_false, Bool.not_true, Bool.and_false, Bool.and_true, Bool.false_or, Bool.true_or, Bool.or_false, Bool.or_true, Bool.false_eq_true, if_false, if_true, Bool.and_self, Bool.or_self] at hdv hput hok hres
       rw [hdv] at hok
       simp only [Bool.false_eq_true, if_false, if_true] at hok
       simp only [hpS, sBox, tE, tInt, tgS, hpO, bxO, tgO, hfe, hput, hres, hdv, beq_self_eq_true, Bool.not_true, Bool.not_false, bne_self_eq_false, bne, hup, go_sem, Nat.reduceEqDiff, Nat.reduceAdd, Nat.reduceLeDiff, List.length_map, Int.reduceLT, Int.reduceLE, Int.reduceToNat, Int.toNat_zero, Int.le_refl, Int.reduceAdd, decide_true, decide_false, Nat.reduceMul, Nat.reduceLT, Nat.lt_irrefl, true_and, and_self, ↓reduceIte]
       exact fin n L _ _ hok _ (by simp only [stO, hpO, bxO, tgO, go_sem, Nat.reduceEqDiff, Nat.reduceAdd, Nat.reduceLeDiff, List.length_map, Int.reduceLT, Int.reduceLE, Int.reduceToNat, Int.toNat_zero, Int.le_refl, Int.reduceAdd, decide_true, decide_false, Nat.reduceMul, Nat.reduceLT, Nat.lt_irrefl, true_and, and_self, ↓reduceIte])
   ·simp only [go_sem, Nat.reduceEqDiff, Nat.reduceAdd, Nat.reduceLeDiff, List.length_map, Int.reduceLT, Int.reduceLE, Int.reduceToNat, Int.toNat_zero, Int.le_refl, Int.reduceAdd, decide_true, decide_false, Nat.reduceMul, Nat.reduceLT, Nat.lt_irrefl, true_and, and_self, ↓reduceIte]
    refine callO_eq rfl rfl rfl rfl rfl (ksRemove n L G x.n (by omega)) ?_
    simp only [hpS, sBox, tE, tInt, tgS, hup, go_sem, Nat.reduceEqDiff, Nat.reduceAdd, Nat.reduceLeDiff, List.length_map, Int.reduceLT, Int.reduceLE, Int.reduceToNat, Int.toNat_zero, Int.le_refl, Int.reduceAdd, decide_true, decide_false, Nat.reduceMul, Nat.reduceLT, Nat.lt_irrefl, true_and, and_self, ↓reduceIte]
    exact fin n (remL L x.n) G W (h.rem x.n) _ (by simp only [stO, hpO, bxO, tgO, go_sem, Nat.reduceEqDiff, Nat.reduceAdd, Nat.reduceLeDiff, List.length_map, Int.reduceLT, Int.reduceLE, Int.reduceToNat, Int.toNat_zero, Int.le_refl, Int.reduceAdd, decide_true, decide_false, Nat.reduceMul, Nat.reduceLT, Nat.lt_irrefl, true_and, and_self, ↓reduceIte])
  ·simp only [go_sem, Nat.reduceEqDiff, Nat.reduceAdd, Nat.reduceLeDiff, List.length_map, Int.reduceLT, Int.reduceLE, Int.reduceToNat, Int.toNat_zero, Int.le_refl, Int.reduceAdd, decide_true, decide_false, Nat.reduceMul, Nat.reduceLT, Nat.lt_irrefl, true_and, and_self, ↓reduceIte]
   refine callO_eq rfl rfl rfl rfl rfl (ksAdd n L G x.f (by omega) (by omega) hfin.1 hfin.2.1 hfin.2.2) ?_
   simp only [hpS, sBox, tE, tInt, tgS, hup, go_sem, Nat.reduceEqDiff, Nat.reduceAdd, Nat.reduceLeDiff, List.length_map, Int.reduceLT, Int.reduceLE, Int.reduceToNat, Int.toNat_zero, Int.le_refl, Int.reduceAdd, decide_true, decide_false, Nat.reduceMul, Nat.reduceLT, Nat.lt_irrefl, true_and, and_self, ↓reduceIte]
   exact fin _ (addL n L x.f) G W (h.add x.f hfin) _ (by simp only [stO, hpO, bxO, tgO, go_sem, Nat.reduceEqDiff, Nat.reduceAdd, Nat.reduceLeDiff, List.length_map, Int.reduceLT, Int.reduceLE, Int.reduceToNat, Int.toNat_zero, Int.le_refl, Int.reduceAdd, decide_true, decide_false, Nat.reduceMul, Nat.reduceLT, Nat.lt_irrefl, true_and, and_self, ↓reduceIte])
 ·have hi' : i = ops.length := by simp at hc; omega
  subst hi'
  have hgl := h.gl
  have hwl := h.wl
  have hcg := count_got h.wn h.gn h.wg
  simp only [go_sem, Nat.reduceEqDiff, Nat.reduceAdd, Nat.reduceLeDiff, List.length_map, Int.reduceLT, Int.reduceLE, Int.reduceToNat, Int.toNat_zero, Int.le_refl, Int.reduceAdd, decide_true, decide_false, Nat.reduceMul, Nat.reduceLT, Nat.lt_irrefl, true_and, and_self, ↓reduceIte]
  refine callO_eq rfl rfl rfl rfl rfl (ksGot n L G (by omega)) ?_
  simp only [hpS, sBox, tE, tInt, tgS, go_sem, Nat.reduceEqDiff, Nat.reduceAdd, Nat.reduceLeDiff, List.length_map, Int.reduceLT, Int.reduceLE, Int.reduceToNat, Int.toNat_zero, Int.le_refl, Int.reduceAdd, decide_true, decide_false, Nat.reduceMul, Nat.reduceLT, Nat.lt_irrefl, true_and, and_self, ↓reduceIte]
  refine loop_N G.length (fun _ => True) (fun j => ⟨[(4, .mh 10000023), (10, .val (.int .i64 j)), (88, .sl none (G.map intS)), (89, .val (.int .i64 G.length)), (90, .val (.int .i64 j))], [(10000023, [.mpc (gotR W), .undef, .undef])], []⟩) trivial (by simp only [go_sem, Nat.reduceEqDiff, Nat.reduceAdd, Nat.reduceLeDiff, List.length_map, Int.reduceLT, Int.reduceLE, Int.reduceToNat, Int.toNat_zero, Int.le_refl, Int.reduceAdd, decide_true, decide_false, Nat.reduceMul, Nat.reduceLT, Nat.lt_irrefl, true_and, and_self, ↓reduceIte]; rfl) ?_
  intro j hj _
  simp only [go_sem, Nat.reduceEqDiff, Nat.reduceAdd, Nat.reduceLeDiff, List.length_map, Int.reduceLT, Int.reduceLE, Int.reduceToNat, Int.toNat_zero, Int.le_refl, Int.reduceAdd, decide_true, decide_false, Nat.reduceMul, Nat.reduceLT, Nat.lt_irrefl, true_and, and_self, ↓reduceIte]
  refine condE_split (fun hc2 => ?_) (fun hc2 => ?_)
  ·have hj' : j < G.length := by simpa using hc2
   have hup2 := up64 (show j < 1000000 by omega)
   have hm : G.getD j 0 ∈ G := by rw [List.getD_eq_getElem?_getD, List.getElem?_eq_getElem hj']; exact List.getElem_mem hj'
   have hfe := findE_got (G.getD j 0) W 0
   have hres := mres_got W (G.getD j 0)
   have hg : gotV W (G.getD j 0) = true := by rw [h.wg]; exact decide_eq_true hm
   rw [hg] at hres
   simp only [nn0, Int.toNat_natCast, get_intS hj', hfe, hres, hup2, go_sem, Nat.reduceEqDiff, Nat.reduceAdd, Nat.reduceLeDiff, List.length_map, Int.reduceLT, Int.reduceLE, Int.reduceToNat, Int.toNat_zero, Int.le_refl, Int.reduceAdd, decide_true, decide_false, Nat.reduceMul, Nat.reduceLT, Nat.lt_irrefl, true_and, and_self, ↓reduceIte]
   exact invN_next hj' trivial (by simp only [go_sem, Nat.reduceEqDiff, Nat.reduceAdd, Nat.reduceLeDiff, List.length_map, Int.reduceLT, Int.reduceLE, Int.reduceToNat, Int.toNat_zero, Int.le_refl, Int.reduceAdd, decide_true, decide_false, Nat.reduceMul, Nat.reduceLT, Nat.lt_irrefl, true_and, and_self, ↓reduceIte])
  ·have hj' : j = G.length := by simp at hc2; omega
   subst hj'
   simp only [go_sem, Nat.reduceEqDiff, Nat.reduceAdd, Nat.reduceLeDiff, List.length_map, Int.reduceLT, Int.reduceLE, Int.reduceToNat, Int.toNat_zero, Int.le_refl, Int.reduceAdd, decide_true, decide_false, Nat.reduceMul, Nat.reduceLT, Nat.lt_irrefl, true_and, and_self, ↓reduceIte]
   intro st c hst hnd
   rw [len_gotR] at hst
   refine ev_loop_by (invM W st c G.length) W.length ⟨[], by simp, by simp, by simp, by simp only [List.filter_nil, List.length_nil, List.map_nil, Int.sub_zero, go_sem, Nat.reduceEqDiff, Nat.reduceAdd, Nat.reduceLeDiff, List.length_map, Int.reduceLT, Int.reduceLE, Int.reduceToNat, Int.toNat_zero, Int.le_refl, Int.reduceAdd, decide_true, decide_false, Nat.reduceMul, Nat.reduceLT, Nat.lt_irrefl, true_and, and_self, ↓reduceIte]; rfl⟩ ?_
   rintro m0 S2 ⟨vis, v1, v2, v3, hS2⟩
   rw [ev_trim, hS2]
   subst v3
   have hvl := vis_le v1 v2
   have hcl : (vis.filter fun j => (W.getD j (0, false)).2).length ≤ vis.length := List.length_filter_le _ _
   simp only [go_sem, Nat.reduceEqDiff, Nat.reduceAdd, Nat.reduceLeDiff, List.length_map, Int.reduceLT, Int.reduceLE, Int.reduceToNat, Int.toNat_zero, Int.le_refl, Int.reduceAdd, decide_true, decide_false, Nat.reduceMul, Nat.reduceLT, Nat.lt_irrefl, true_and, and_self, ↓reduceIte]
   refine v_mnext_by (i := 20000102) (o := 10000023) rfl (by decide) (by decide) rfl rfl (fun hend => ?_) (fun j s hj hsj hns => ?_)
   ·have hall : ∀ j, j < W.length → j ∈ vis := fun j hj => by
      have hj2 : j < st.length := by omega
      obtain ⟨j', h1, h2⟩ := List.mem_map.1 (hend st[j] (List.getElem_mem hj2))
      have h3 := v2 j' h1
      have h4 : j' < st.length := by omega
      rw [List.getD_eq_getElem?_getD, List.getElem?_eq_getElem h4] at h2
      have := (List.getElem_inj hnd).1 (show st[j'] = st[j] from h2)
      rw [← this]; exact h1
    have hz : (G.length : Int) - ((vis.filter fun j => (W.getD j (0, false)).2).length : Nat) = 0 := by rw [count_seen v1 v2 hall, hcg]; omega
    simp only [hz, beq_self_eq_true, go_sem, Nat.reduceEqDiff, Nat.reduceAdd, Nat.reduceLeDiff, List.length_map, Int.reduceLT, Int.reduceLE, Int.reduceToNat, Int.toNat_zero, Int.le_refl, Int.reduceAdd, decide_true, decide_false, Nat.reduceMul, Nat.reduceLT, Nat.lt_irrefl, true_and, and_self, ↓reduceIte]
   ·rw [len_gotR] at hj
    have hjs : st.getD j 0 = s := by rw [List.getD_eq_getElem?_getD, hsj]; rfl
    have hjn : j ∉ vis := fun hm => hns (List.mem_map.2 ⟨j, hm, hjs⟩)
    have hn2 : (vis ++ [j]).Nodup := by
     rw [List.nodup_append]
     exact ⟨v1, by simp, fun a ha b hb => by rw [List.mem_singleton.1 hb]; rintro rfl; exact hjn ha⟩
    have hl2' : ∀ a ∈ vis ++ [j], a < W.length := fun a ha => by
     rcases List.mem_append.1 ha with ha | ha
     ·exact v2 a ha
     ·rw [List.mem_singleton.1 ha]; exact hj
    have hvl2 := vis_le hn2 hl2'
    rw [List.length_append, List.length_singleton] at hvl2
    simp only [go_sem, Nat.reduceEqDiff, Nat.reduceAdd, Nat.reduceLeDiff, List.length_map, Int.reduceLT, Int.reduceLE, Int.reduceToNat, Int.toNat_zero, Int.le_refl, Int.reduceAdd, decide_true, decide_false, Nat.reduceMul, Nat.reduceLT, Nat.lt_irrefl, true_and, and_self, ↓reduceIte]
    refine v_mentry_by (i := 20000102) (o := 10000023) rfl (by decide) (by decide) rfl rfl hsj (get_gotR hj) hnd ?_
    simp only [go_sem, Nat.reduceEqDiff, Nat.reduceAdd, Nat.reduceLeDiff, List.length_map, Int.reduceLT, Int.reduceLE, Int.reduceToNat, Int.toNat_zero, Int.le_refl, Int.reduceAdd, decide_true, decide_false, Nat.reduceMul, Nat.reduceLT, Nat.lt_irrefl, true_and, and_self, ↓reduceIte]
    cases hb : (W.getD j (0, false)).2
    ·simp only [go_sem, Nat.reduceEqDiff, Nat.reduceAdd, Nat.reduceLeDiff, List.length_map, Int.reduceLT, Int.reduceLE, Int.reduceToNat, Int.toNat_zero, Int.le_refl, Int.reduceAdd, decide_true, decide_false, Nat.reduceMul, Nat.reduceLT, Nat.lt_irrefl, true_and, and_self, ↓reduceIte]
     refine ⟨W.length - (vis ++ [j]).length, by rw [List.length_append, List.length_singleton]; omega, vis ++ [j], hn2, hl2', rfl, ?_⟩
     simp only [List.filter_append, List.filter_cons, List.filter_nil, hb, Bool.false_eq_true, if_false, List.append_nil, List.map_append, List.map_cons, List.map_nil, hjs, go_sem, Nat.reduceEqDiff, Nat.reduceAdd, Nat.reduceLeDiff, List.length_map, Int.reduceLT, Int.reduceLE, Int.reduceToNat, Int.toNat_zero, Int.le_refl, Int.reduceAdd, decide_true, decide_false, Nat.reduceMul, Nat.reduceLT, Nat.lt_irrefl, true_and, and_self, ↓reduceIte]
    ·have hw : IntKind.i64.wrap ((G.length : Int) - ((vis.filter fun j => (W.getD j (0, false)).2).length : Nat) - 1) = (G.length : Int) - ((vis.filter fun j => (W.getD j (0, false)).2).length + 1 : Nat) := by rw [wrap64 (by omega) (by omega)]; omega
     simp only [hw, go_sem, Nat.reduceEqDiff, Nat.reduceAdd, Nat.reduceLeDiff, List.length_map, Int.reduceLT, Int.reduceLE, Int.reduceToNat, Int.toNat_zero, Int.le_refl, Int.reduceAdd, decide_true, decide_false, Nat.reduceMul, Nat.reduceLT, Nat.lt_irrefl, true_and, and_self, ↓reduceIte]
     refine ⟨W.length - (vis ++ [j]).length, by rw [List.length_append, List.length_singleton]; omega, vis ++ [j], hn2, hl2', rfl, ?_⟩
     simp only [List.filter_append, List.filter_cons, List.filter_nil, hb, if_true, List.length_append, List.length_cons, List.length_nil, List.map_append, List.map_cons, List.map_nil, hjs, go_sem, Nat.reduceEqDiff, Nat.reduceAdd, Nat.reduceLeDiff, List.length_map, Int.reduceLT, Int.reduceLE, Int.reduceToNat, Int.toNat_zero, Int.le_refl, Int.reduceAdd, decide_true, decide_false, Nat.reduceMul, Nat.reduceLT, Nat.lt_irrefl, true_and, and_self, ↓reduceIte]
end Go.Proofs
