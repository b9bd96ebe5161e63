/- A part of the proof; what is proved stands in the last text. -/
import Derived.Test.YtdfpmolkpkpboaaDoorHA
set_option linter.unusedVariables false
set_option maxRecDepth 2000
namespace Go.Vm
open Go.RowKit
set_option linter.unusedVariables false
variable {P : Program} {w0 w w' : World} {W F0 : Reg} {V : Pins} {N : Nat} {g g' : Gh} {S S' : St} {a a' : Act} {ops : Array Oper} {σ : Type} {H : HidT σ} {B0 : Nat → Prop} {s s' : σ} {K : St → Prop}
theorem count_ge (q : Nat) : ∀ n, (List.range n).countP (fun k => decide (q ≤ k)) = n - q := by
 intro n
 induction n with
 | zero => simp
 | succ n ih =>
  rw [List.range_succ, List.countP_append, ih]
  by_cases h : q ≤ n
  ·simp [h]; omega
  ·simp [h]; omega
theorem draw_lead {Q : Exit → Act → World → Prop} {ms : List MO} {q : Nat} {ds : Nat → D} (hc : compOps P ops ops.toList = some (ms.map MO.strip)) (hok : DrawOk ops ms q) (hd : ms.all (dstOk N) = true)
    (hds : ∀ (i : Nat) (m : MO), i < q → ms[i]? = some m → (want (stE S (fun k => (ms[k]?).bind (·.dst)) ds (fun _ => true) i) m.guard = some true ∧ QV P m.op (stE S (fun k => (ms[k]?).bind (·.dst)) ds (fun _ => true) i) (ds i)) ∨
     (want (stE S (fun k => (ms[k]?).bind (·.dst)) ds (fun _ => true) i) m.guard = some false ∧ ds i = .val undef))
    (htail : ∀ (listed : Array Bool) (g : Gh) (a : Act) (w : World), listed.size = ops.size → (∀ i, listed.getD i false = true ↔ i < q) → SR w0 W F0 V N g (stE S (fun k => (ms[k]?).bind (·.dst)) ds (fun _ => true) q) a w → wpAny P .any ops Q (ops.size - q) listed a w) : ∀ (fuel : Nat) (listed : Array Bool) (a : Act) (w : World), listed.size = ops.size → (List.range ops.size).countP (fun k => !listed.getD k false) = fuel →
    Closed ops (fun i => listed.getD i false) → (∀ j, q ≤ j → listed.getD j false = false) → (∃ g, SR w0 W F0 V N g (stE S (fun k => (ms[k]?).bind (·.dst)) ds (fun i => listed.getD i false) q) a w) →
    wpAny P .any ops Q fuel listed a w := by
 obtain ⟨hlen, hget⟩ := compOps_get hc
 have hml : ms.length = ops.size := by simpa using hlen
 have full : ∀ (fuel : Nat) (listed : Array Bool) (a : Act) (w : World), listed.size = ops.size → (List.range ops.size).countP (fun k => !listed.getD k false) = fuel → (∀ j, q ≤ j → listed.getD j false = false) → (∀ i, i < q → listed.getD i false = true) → (∃ g, SR w0 W F0 V N g (stE S (fun k => (ms[k]?).bind (·.dst)) ds (fun i => listed.getD i false) q) a w) → wpAny P .any ops Q fuel listed a w := by
  intro fuel listed a w hsz hcnt hA1 hall ⟨g, hA2⟩
  have hiff : ∀ i, listed.getD i false = true ↔ i < q := fun i => by
   constructor
   ·intro h
    rcases Nat.lt_or_ge i q with h' | h'
    ·exact h'
    ·rw [hA1 i h'] at h; cases h
   ·exact hall i
  have e1 : (fun k => !listed.getD k false) = fun k => decide (q ≤ k) := by
   funext k
   by_cases hk : q ≤ k
   ·rw [hA1 k hk]; simp [hk]
   ·rw [hall k (by omega)]; simp [hk]
  rw [e1, count_ge] at hcnt
  subst hcnt
  rw [stE_congr (E' := fun _ => true) q (fun k hk => hall k hk)] at hA2
  exact htail listed g a w hsz hiff hA2
 intro fuel
 induction fuel with
 | zero =>
  intro listed a w hsz hcnt hclosed hA1 hA
  refine full 0 listed a w hsz hcnt hA1 (fun i hi => ?_) hA
  have := List.countP_eq_zero.1 hcnt i (List.mem_range.2 (Nat.lt_of_lt_of_le hi hok.qle))
  simpa using this
 | succ fuel ih =>
  intro listed a w hsz hcnt hclosed hA1 hA
  by_cases hlead : ∀ i, i < q → listed.getD i false = true
  ·exact full _ listed a w hsz hcnt hA1 hlead hA
  obtain ⟨g, hA2⟩ := hA
  refine ⟨fun hr => ?_, fun i hi => ?_⟩
  ·exfalso
   have hall : ∀ n i, i < n → i < ops.size → listed.getD i false = true := by
    intro n
    induction n with
    | zero => intro i hi; omega
    | succ n ihn =>
     intro i hi hlt
     by_cases hin : i < n
     ·exact ihn i hin hlt
     ·have hin : i = n := by omega
      subst hin
      cases hli : listed.getD i false with
      | true => rfl
      | false =>
       exfalso
       have : i ∈ Region.ready .any ops listed := by
        refine mem_ready.2 ⟨?_, ops[i], Array.getElem?_eq_getElem hlt, fun e he hb => ?_⟩
        ·rw [Array.getD_eq_getD_getElem?, Array.getElem?_eq_getElem (by omega)] at hli ⊢
         exact hli
        ·have hdn := hok.down i ops[i] e (Array.getElem?_eq_getElem hlt) he hb
         exact ihn e.on hdn (by omega)
       rw [hr] at this; simp at this
   have : (List.range ops.size).countP (fun k => !listed.getD k false) = 0 := List.countP_eq_zero.2 (fun i hi => by
    have := hall (i + 1) i (by omega) (List.mem_range.1 hi)
    simp [this])
   omega
  ·obtain ⟨h1, o, ho, hedges⟩ := mem_ready.1 hi
   have hlt : i < ops.size := (Array.getElem?_eq_some_iff.1 ho).1
   have hli : listed.getD i false = false := by
    rw [Array.getD_eq_getD_getElem?, Array.getElem?_eq_getElem (by omega)] at h1 ⊢
    exact h1
   have hgd : ∀ k, (listed.setIfInBounds i true).getD k false = if k = i then true else listed.getD k false := fun k => by
    simp only [Array.getD_eq_getD_getElem?, Array.getElem?_setIfInBounds]
    by_cases hk : k = i
    ·subst hk; simp [hsz, hlt]
    ·simp [hk, Ne.symm hk]
   have hcnt' : (List.range ops.size).countP (fun k => !(listed.setIfInBounds i true).getD k false) = fuel := by
    have := (count_set listed i (by omega) hli (List.range ops.size) List.nodup_range).1 (List.mem_range.2 hlt)
    omega
   have hclosed' : Closed ops (fun k => (listed.setIfInBounds i true).getD k false) := fun k o' e hk ho' he hb => by
    simp only [hgd] at hk ⊢
    split
    ·rfl
    ·split at hk
     ·rename_i hki; subst hki
      rw [ho] at ho'; injection ho' with ho'; subst ho'
      exact hedges e he hb
     ·exact hclosed k o' e hk ho' he hb
   have hbef : ∀ k, Bef ops i k → listed.getD k false = true := fun k hb => hb.ready (E := fun k => listed.getD k false) hclosed (fun o' e ho' he hbb => by
    rw [ho] at ho'; injection ho' with ho'; subst ho'
    exact hedges e he hbb)
   have hm : ms[i]? = some (ms[i]'(by omega)) := List.getElem?_eq_getElem (by omega)
   have hcm := hget i o _ (by simpa using ho) hm
   have hdm := List.all_eq_true.1 hd _ (List.getElem_mem (by omega : i < ms.length))
   generalize ms[i]'(by omega) = m at hm hcm hdm
   by_cases hiq : i < q
   ·-- a quiet one
    let dst : Nat → Option Nat := fun k => (ms[k]?).bind (·.dst)
    have hdst : ∀ k t, dst k = some t → ∃ n, ms[k]? = some n ∧ n.dst = some t := fun k t hk => by
     simp only [dst] at hk
     obtain ⟨n, h1, h2⟩ := Option.bind_eq_some_iff.1 hk
     exact ⟨n, h1, h2⟩
    have huniq : ∀ k k' t, k < q → k' < q → dst k = some t → dst k' = some t → k = k' := fun k k' t hk hk' h1 h2 => by
     obtain ⟨n, h3, h4⟩ := hdst k t h1
     obtain ⟨n', h5, h6⟩ := hdst k' t h2
     exact hok.uniq k k' n n' t hk hk' h3 h5 h4 h6
    have hsame : ∀ t ∈ m.readT, (stE S dst ds (fun _ => true) i).get t = (stE S dst ds (fun k => listed.getD k false) q).get t := fun t ht => by
     by_cases hex : ∃ k, k < q ∧ dst k = some t
     ·obtain ⟨k, hkq, hk⟩ := hex
      obtain ⟨n, hn1, hn2⟩ := hdst k t hk
      obtain ⟨hw1, hw2⟩ := hok.wait i k m n t hiq hkq hm hn1 ht hn2
      rcases Nat.lt_trichotomy k i with hki | hki | hki
      ·rw [stE_some hk rfl i hki (fun x hx hxt => huniq x k t (by omega) hkq hxt hk), stE_some hk (hbef k (hw1 hki)) q hkq (fun x hx hxt => huniq x k t hx hkq hxt hk)]
      ·subst hki
       rw [stE_none k (fun x hx _ hxt => by have := huniq x k t (by omega) hkq hxt hk; omega), stE_none q (fun x hx hE hxt => by
        have := huniq x k t hx hkq hxt hk; subst this; rw [hli] at hE; cases hE)]
      ·have hEk : listed.getD k false = false := by
         cases hEk : listed.getD k false with
         | false => rfl
         | true =>
          have := (hw2 hki).listed (E := fun k => listed.getD k false) hclosed hEk
          rw [hli] at this; cases this
       rw [stE_none i (fun x hx _ hxt => by have := huniq x k t (by omega) hkq hxt hk; omega), stE_none q (fun x hx hE hxt => by
        have := huniq x k t hx hkq hxt hk; subst this; rw [hEk] at hE; cases hE)]
     ·rw [stE_none i (fun x hx _ hxt => hex ⟨x, by omega, hxt⟩), stE_none q (fun x hx _ hxt => hex ⟨x, hx, hxt⟩)]
    obtain ⟨hal, hwant⟩ := alike_of (m := m) hsame (by rw [stE_hp, stE_hp]) (by rw [stE_tg, stE_tg])
    have hput : ∀ {g' : Gh} {a' : Act} {w' : World}, SR w0 W F0 V N g' ((stE S dst ds (fun k => listed.getD k false) q).put m.dst (ds i)) a' w' → SR w0 W F0 V N g' (stE S dst ds (fun k => (listed.setIfInBounds i true).getD k false) q) a' w' := fun hsr => by
     refine hsr.alike (fun t => ?_) ?_ ?_
     ·have hdi : dst i = m.dst := by simp only [dst, hm]; rfl
      rw [put_get']
      by_cases hmt : m.dst = some t
      ·rw [if_pos hmt, stE_some (k := i) (by rw [hdi]; exact hmt) (by simp only [hgd, if_pos]) q hiq (fun x hx hxt => huniq x i t hx hiq hxt (by rw [hdi]; exact hmt))]
      ·rw [if_neg hmt]
       by_cases hex : ∃ k, k < q ∧ dst k = some t ∧ listed.getD k false = true
       ·obtain ⟨k, hkq, hk, hEk⟩ := hex
        have hki : k ≠ i := fun e => hmt (by rw [← hdi, ← e]; exact hk)
        rw [stE_some hk (by simp only [hgd, if_neg hki]; exact hEk) q hkq (fun x hx hxt => huniq x k t hx hkq hxt hk), stE_some hk hEk q hkq (fun x hx hxt => huniq x k t hx hkq hxt hk)]
       ·rw [stE_none q (fun x hx hE hxt => by
          simp only [hgd] at hE
          split at hE
          ·rename_i e; subst e; exact hmt (by rw [← hdi]; exact hxt)
          ·exact hex ⟨x, hx, hxt, hE⟩), stE_none q (fun x hx hE hxt => hex ⟨x, hx, hxt, hE⟩)]
     ·rw [stE_hp]; cases m.dst <;> simp only [St.put] <;> rw [stE_hp]
     ·rw [stE_tg]; cases m.dst <;> simp only [St.put] <;> rw [stE_tg]
    have next : ∀ a' w', (∃ g', SR w0 W F0 V N g' ((stE S dst ds (fun k => listed.getD k false) q).put m.dst (ds i)) a' w') → wpAny P .any ops Q fuel (listed.setIfInBounds i true) a' w' := fun a' w' ⟨g', hsr⟩ => by
     refine ih _ a' w' (by simpa using hsz) hcnt' hclosed' (fun j hj => ?_) ⟨g', hput hsr⟩
     rw [hgd, if_neg (by omega)]; exact hA1 j hj
    obtain ⟨c1, c2, c3⟩ := compO_spec hcm
    replace c2 : m.dst = o.dst := c2
    obtain ⟨d1, d2⟩ := dst_ok hdm
    unfold wpOp
    simp only [ho]
    rcases hds i m hiq hm with ⟨hw, hqv⟩ | ⟨hw, hu⟩
    ·have hwt := want_sound (m := m.strip) hA2.core hcm (hwant ▸ hw)
     simp only [hwt, if_true]
     left
     rw [c2] at next d1
     exact Oper.wp_mono (fun a' w' hh => next a' w' hh) (q_sound hA2 c1 d1 (hqv.alike hal))
    ·have hwt := want_sound (m := m.strip) hA2.core hcm (hwant ▸ hw)
     simp only [hwt, Bool.false_eq_true, if_false]
     rw [c2] at next d1
     exact next _ _ ⟨g, hA2.put d1 (by rw [hu]; exact .fz _ _ (.val _))⟩
   ·exact (hlead fun k hk => hbef k (hok.tail k i (by omega) hlt (by omega))).elim
theorem stE_dst {dst dst' : Nat → Option Nat} {ds : Nat → D} {E : Nat → Bool} : ∀ n, (∀ i, i < n → dst i = dst' i) → stE S dst ds E n = stE S dst' ds E n
 | 0, _ => rfl
 | n + 1, h => by
  simp only [stE]
  rw [stE_dst n (fun i hi => h i (by omega)), h n (by omega)]
theorem hdraw_sound {id : Nat} {Q : Exit → Act → World → Prop} {lead : List MO} {d : Option Nat} {k : FuncId} {args : List Operand} {J : St → σ → Prop} (hm : P.follows .mixedOrders = true) (hc : compOps P ops ops.toList = some ((lead ++ [(⟨d, MOp.call (.func k) args .pure, none⟩ : MO)]).map MO.strip)) (hd : (lead ++ [(⟨d, MOp.call (.func k) args .pure, none⟩ : MO)]).all (dstOk N) = true)
    (hB : drawB ops ((lead ++ [(⟨d, MOp.call (.func k) args .pure, none⟩ : MO)]).map MO.strip) lead.length = true) (hS : HR H w0 B0 F0 V N s g S a w) (hv : evDraw P lead.length lead S fun S' => hcall P H d k args S' s J)
    (hQ : ∀ g' S' s' a' w', HR H w0 B0 F0 V N s' g' S' a' w' → J S' s' → Q .normal a' w') : (Code.region id ops true).wp P Q a w := by
 obtain ⟨ds, h1, h2⟩ := draw_values lead.length lead S (Nat.le_refl _) hv
 rw [List.drop_length] at h2
 replace h2 : hcall P H d k args (stE S (fun k => (lead[k]?).bind (·.dst)) ds (fun _ => true) lead.length) s J := h2
 have hok := drawB_ok hc hB
 have hsize : ops.size = lead.length + 1 := by rw [← hok.len]; simp
 have hlk : ∀ i, i < lead.length → (lead ++ [(⟨d, MOp.call (.func k) args .pure, none⟩ : MO)])[i]? = lead[i]? := fun i hi => List.getElem?_append_left hi
 have hst : ∀ n, n ≤ lead.length → ∀ E, stE S (fun j => ((lead ++ [(⟨d, MOp.call (.func k) args .pure, none⟩ : MO)])[j]?).bind (·.dst)) ds E n = stE S (fun j => (lead[j]?).bind (·.dst)) ds E n := fun n hn E =>
  stE_dst n (fun i hi => by rw [hlk i (by omega)])
 obtain ⟨hlen, hget⟩ := compOps_get hc
 refine wp_region_any hm ?_
 have hf : ∀ j, (Array.replicate ops.size false).getD j false = false := fun j => by
  rw [Array.getD_eq_getD_getElem?]
  by_cases hj : j < ops.size
  ·simp [hj]
  ·simp [hj]
 refine draw_lead (w0 := w) (W := OwnW g S) (F0 := g.F) (V := V) (S := S) (ds := ds) hc hok hd (fun i m hi hm' => ?_) (fun listed g' a' w' hsz' hiff hsr => ?_) ops.size _ a _ (by simp) ?_ (fun i o e hi => ?_) (fun j _ => hf j) ⟨g, ?_⟩
 ·rw [hst i (by omega)]
  rw [hlk i hi] at hm'
  exact h1 i m hi hm'
 ·rw [hst _ (Nat.le_refl _)] at hsr
  have hr := hS.step hsr
  have hlt : lead.length < ops.size := by omega
  have hone : ops.size - lead.length = 1 := by omega
  rw [hone]
  have getD_tf : ∀ i, i < ops.size → listed.getD i true = listed.getD i false := fun i hi => by
   rw [Array.getD_eq_getD_getElem?, Array.getD_eq_getD_getElem?, Array.getElem?_eq_getElem (by omega)]; rfl
  have hq0 : listed.getD lead.length false = false := by
   cases h : listed.getD lead.length false
   ·rfl
   ·have := (hiff lead.length).1 h; omega
  refine ⟨fun hre => ?_, fun i hi => ?_⟩
  ·exfalso
   have : lead.length ∈ Region.ready .any ops listed := mem_ready.2 ⟨by rw [getD_tf _ hlt]; exact hq0, ops[lead.length], Array.getElem?_eq_getElem hlt, fun e he hb => (hiff e.on).2 (hok.down lead.length ops[lead.length] e (Array.getElem?_eq_getElem hlt) he hb)⟩
   rw [hre] at this; simp at this
  ·obtain ⟨q1, o, ho, hedges⟩ := mem_ready.1 hi
   have hil : i < ops.size := (Array.getElem?_eq_some_iff.1 ho).1
   have hiq : i = lead.length := by
    rw [getD_tf i hil] at q1
    rcases Nat.lt_or_ge i lead.length with h | h
    ·rw [(hiff i).2 h] at q1; cases q1
    ·omega
   subst hiq
   have hms : (lead ++ [(⟨d, MOp.call (.func k) args .pure, none⟩ : MO)])[lead.length]? = some ⟨d, .call (.func k) args .pure, none⟩ := by simp
   have hcm := hget lead.length o _ (by simpa using ho) hms
   have hdm := List.all_eq_true.1 hd _ (List.mem_of_getElem? hms)
   refine wpOp_mono (fun a'' w'' ⟨g'', S'', s'', r1, r2⟩ => ⟨?_, hQ g'' S'' s'' a'' w'' r1 r2⟩) (hcall_sound hr ho hcm hdm h2)
   cases hre : Region.ready .any ops (listed.setIfInBounds lead.length true) with
   | nil => rfl
   | cons j l =>
    exfalso
    have hj : j ∈ Region.ready .any ops (listed.setIfInBounds lead.length true) := by rw [hre]; simp
    obtain ⟨u1, o', ho', -⟩ := mem_ready.1 hj
    have hjl : j < ops.size := (Array.getElem?_eq_some_iff.1 ho').1
    rw [Array.getD_eq_getD_getElem?, Array.getElem?_setIfInBounds] at u1
    split at u1
    ·rw [if_pos (by omega)] at u1
     simp at u1
    ·have hjq : j < lead.length := by omega
     have := (hiff j).2 hjq
     rw [← getD_tf j hjl, Array.getD_eq_getD_getElem?] at this
     rw [this] at u1; cases u1
 ·rw [List.countP_eq_length.2 (fun k _ => by rw [hf]; rfl)]; simp
 ·replace hi : (Array.replicate ops.size false).getD i false = true := hi
  rw [hf] at hi; cases hi
 ·have : stE S (fun j => ((lead ++ [(⟨d, MOp.call (.func k) args .pure, none⟩ : MO)])[j]?).bind (·.dst)) ds (fun i => (Array.replicate ops.size false).getD i false) lead.length = S := by
    rw [stE_congr (E' := fun _ => false) lead.length (fun i _ => hf i)]
    have : ∀ n, stE S (fun j => ((lead ++ [(⟨d, MOp.call (.func k) args .pure, none⟩ : MO)])[j]?).bind (·.dst)) ds (fun _ => false) n = S := fun n => by
     induction n with
     | zero => rfl
     | succ n ih => simp [stE, ih]
    exact this _
  rw [this]
  exact hS.sr.drew _ (Nat.le_succ _)
end Go.Vm

namespace Go.Vm
open Go.RowKit
set_option linter.unusedVariables false
variable {P : Program} {w0 w w' : World} {W F0 : Reg} {V : Pins} {N : Nat} {g g' : Gh} {S S' : St} {a a' : Act} {σ : Type} {H : HidT σ} {B0 : Nat → Prop} {s s' : σ}
theorem evH_sound (hm : P.follows .mixedOrders = true) : ∀ (m : MH) (c : Code) (g : Gh) (S : St) (s : σ) (a : Act) (w : World) (K : Ex → St → σ → Prop) (Q : Exit → Act → World → Prop), comp P N c m.flat.strip = some m.flat.strip → HR H w0 B0 F0 V N s g S a w → evH P H m S s K →
    (∀ e g' S' s' a' w', HR H w0 B0 F0 V N s' g' S' a' w' → K e S' s' → Q e.up a' w') → c.wp P Q a w := by
 intro m
 induction m with
 | pure m =>
  intro c g S s a w K Q hc hS hv hQ
  exact ev_sound hm m c g S a w _ Q hc hS.sr hv (fun e g' S' a' w' h1 h2 => hQ e g' S' s a' w' (hS.step h1) h2)
 | reg segs last =>
  intro c g S s a w K Q hc hS hv hQ
  cases c <;> simp only [MH.flat, MC.strip] at hc <;> try (simp only [comp] at hc; (repeat' (split at hc)) <;> cases hc; done)
  obtain ⟨ms0, h1, h2, ⟨rfl, h3⟩ | ⟨rfl, q, k, h3, h4, h5⟩ | ⟨rfl, ks, h3, h4, h5⟩ | ⟨rfl, ks, h3, h5⟩⟩ := comp_region hc
  ·injection h3 with h3; subst h3
   refine wp_region ?_
   rw [List.range_eq_range']
   exact segs_sound h1 (allOk_strip h2) (fun g' S' s' a' w' h1 h2 => hQ .normal g' S' s' a' w' h1 h2) segs last 0 g S s a w (by omega) (by simp) hS hv
  all_goals cases h5
 | dreg q lead d k args =>
  intro c g S s a w K Q hc hS hv hQ
  obtain ⟨rfl, hv⟩ := hv
  cases c <;> simp only [MH.flat, MC.strip] at hc <;> try (simp only [comp] at hc; (repeat' (split at hc)) <;> cases hc; done)
  obtain ⟨ms0, h1, h2, ⟨rfl, h3⟩ | ⟨rfl, q', k', h3, h4, h5⟩ | ⟨rfl, ks, h3, h4, h5⟩ | ⟨rfl, ks, h3, h5⟩⟩ := comp_region hc
  ·cases h3
  ·injection h5 with h5 h6; subst h5; subst h6
   exact hdraw_sound hm h1 (allOk_strip h2) h4 hS hv (fun g' S' s' a' w' h1 h2 => hQ .normal g' S' s' a' w' h1 h2)
  all_goals cases h5
 | seq x y ihx ihy =>
  intro c g S s a w K Q hc hS hv hQ
  cases c <;> simp only [MH.flat, comp, MC.strip] at hc <;> (repeat' (split at hc)) <;> (try (cases hc; done))
  rename_i hx hy
  injection hc with hc; injection hc with hc1 hc2; subst hc1; subst hc2
  refine wp_seq (ihx _ g S s a w _ _ hx hS hv (fun e g' S' s' a' w' h1 h2 => ?_))
  cases e with
  | normal => exact ihy _ g' S' s' a' w' K Q hy h1 h2 hQ
  | exit id => exact hQ _ _ _ _ _ _ h1 h2
  | ret => exact hQ _ _ _ _ _ _ h1 h2
 | cond o x y ihx ihy =>
  intro c g S s a w K Q hc hS hv hQ
  cases c <;> simp only [MH.flat, comp, MC.strip] at hc <;> (repeat' (split at hc)) <;> (try (cases hc; done))
  rename_i hx hy
  injection hc with hc; injection hc with hc0 hc1 hc2; subst hc0; subst hc1; subst hc2
  simp only [evH] at hv
  split at hv
  ·rename_i t hl
   exact wp_cond_split (t := t) ((hS.sr.core.look hl).val_inv) (fun ht => ihx _ g S s a w K Q hx hS (hv.1 ht) hQ) (fun ht => ihy _ g S s a w K Q hy hS (hv.2 ht) hQ)
  ·exact hv.elim
 | block id x ih =>
  intro c g S s a w K Q hc hS hv hQ
  cases c <;> simp only [MH.flat, comp, MC.strip] at hc <;> (repeat' (split at hc)) <;> (try (cases hc; done))
  rename_i hx
  injection hc with hc; injection hc with hc0 hc1; subst hc0; subst hc1
  refine wp_block (ih _ g S s a w _ _ hx hS hv (fun e g' S' s' a' w' h1 h2 => ?_))
  cases e with
  | normal => exact hQ _ _ _ _ _ _ h1 h2
  | exit id' =>
   simp only [Ex.up, Exit.inBlock]
   simp only at h2
   split
   ·rename_i he; rw [if_pos he] at h2; exact hQ .normal _ _ _ _ _ h1 h2
   ·rename_i he; rw [if_neg he] at h2; exact hQ (.exit id') _ _ _ _ _ h1 h2
  | ret => exact hQ .ret _ _ _ _ _ h1 h2
 | loop x ih =>
  intro c g S s a w K Q hc hS hv hQ
  cases c <;> simp only [MH.flat, comp, MC.strip] at hc <;> (repeat' (split at hc)) <;> (try (cases hc; done))
  rename_i body _ hx
  injection hc with hc; injection hc with hc0; subst hc0
  obtain ⟨n, hn⟩ := hv
  refine wp_loop_rounds n ?_
  induction n generalizing g S s a w with
  | zero => exact hn.elim
  | succ n ihn =>
   rw [rounds_succ]
   simp only [iterH] at hn
   refine ih _ g S s a w _ _ hx hS hn (fun e g' S' s' a' w' h1 h2 => ?_)
   cases e with
   | normal => exact ihn g' S' s' a' w' h1 h2
   | exit id => exact hQ _ _ _ _ _ _ h1 h2
   | ret => exact hQ _ _ _ _ _ _ h1 h2
 | trim ts os gs x ih =>
  intro c g S s a w K Q hc hS hv hQ
  exact ih c g _ s a w K Q hc (hS.step (hS.sr.trim ts os gs)) hv hQ
 | fzb o x ih =>
  intro c g S s a w K Q hc hS hv hQ
  simp only [evH] at hv
  split at hv
  ·rename_i S' hf
   obtain ⟨g', h'⟩ := hS.sr.fzB hf
   exact ih c g' S' s a w K Q hc (hS.step h') hv hQ
  ·exact hv.elim
def finH (rs : List MOp) (R : D → σ → Prop) (e : Ex) (S : St) (s : σ) : Prop := fin rs (fun r => R r s) e S
theorem hid_run {k : FuncId} {m : MH} {rs : List MOp} {ds : List D} {R : D → σ → Prop} (h : Runs P k m.flat.strip rs N) (hl : Nat.ble ds.length N = true) (hv : evH P H m (S0 ds) s (finH rs R)) :
    (∃ fn, P.funcs[k]? = some fn ∧ (fn.name == "runtime.NumGoroutine") = false ∧ fn.body.isNone = false) ∧ ∀ (F : Reg) (w : World) (B : Nat → Prop) (vs : Array Value), FB F w → H.holds s B w → (∀ b j, F b j → ¬ B b) → vs.size = ds.length → (∀ (i : Nat) (d : D) (v : Value), ds[i]? = some d → vs[i]? = some v → RepF F w d v) →
     Calls P k vs w fun e w' => ∃ r v s' B', e = .returned v ∧ R r s' ∧ H.holds s' B' w' ∧ (∀ b, B' b → B b ∨ w.heap.size ≤ b) ∧
      RepF (fun b j => F b j ∨ (w.heap.size ≤ b ∧ b < w'.heap.size ∧ ¬ B' b)) w' r v ∧ KeepX B w w' := by
 obtain ⟨hm, hcap, fn, c, hf, hn, hb, rfl, hc, hr⟩ := h
 refine ⟨⟨fn, hf, hn, by rw [hb]; rfl⟩, fun F w B vs hF hB hFB hs hrep => ?_⟩
 refine calls_of_wp hf hb ?_
 have hS := start_SR (N := fn.ntmps) hF hs (Nat.le_of_ble_eq_true hl) (Nat.le_of_ble_eq_true hcap) hrep
 have hown : ∀ b k, ¬ OwnW ⟨fun _ => none, fun _ => none, F⟩ (S0 ds) b k := fun b k ho => by
  rcases ho with ⟨o, cs, k0, i, h1, h2, -⟩ | ⟨t, x, ti, h1, h2, -⟩
  ·cases h2
  ·cases h2
 have hR : HR H w B F (fun _ => none, fun _ => none) fn.ntmps s _ (S0 ds) _ w := ⟨hS.self, ⟨B, hB, fun b k hFk => hFB b k hFk, fun b k ho => (hown b k ho).elim, fun b hb => .inl hb⟩, fun b k ho => (hown b k ho).elim, KeepX.refl _ _, fun _ _ h => h, fun _ _ h => .inl h⟩
 refine evH_sound hm m c _ _ _ _ _ _ _ hc hR hv (fun e g' S' s' a' w' hS' hK => ?_)
 have done : fin rs (fun r => R r s') .normal S' → a'.defers = [] ∧ ∃ v, (results fn a'.tmps).run P w' = .ok v w' ∧ ∃ r u s' B', Ending.returned v = .returned u ∧ R r s' ∧ H.holds s' B' w' ∧ (∀ b, B' b → B b ∨ w.heap.size ≤ b) ∧
     RepF (fun b j => F b j ∨ (w.heap.size ≤ b ∧ b < w'.heap.size ∧ ¬ B' b)) w' r u ∧ KeepX B w w' := by
  intro hK
  refine ⟨hS'.sr.defers, ?_⟩
  simp only [fin] at hK
  split at hK
  ·rename_i es hes
   split at hK
   ·rename_i r hfr
    obtain ⟨v, h1, h2⟩ := results_sound hS'.sr.core hr hes
    have h3 := frz_sound hS'.sr.core (live_all hK.1) _ h2 (fun t ht => ht) hfr
    have hsh := hS'.step (hS'.sr.share (oneD es).tags)
    obtain ⟨B', b1, b2, b3, b4⟩ := hsh.ex
    refine ⟨v, h1, r, v, s', B', rfl, hK.2, b1, b4, h3.mono (fun b j hbj => ?_) (fun _ _ _ => rfl), hsh.keep⟩
    rcases hsh.fnew b j hbj with h4 | h4
    ·exact .inl h4
    ·exact .inr ⟨h4, hsh.sr.core.frz.1 b j hbj, b2 b j hbj⟩
   ·exact hK.elim
  ·exact hK.elim
 cases e with
 | normal => exact done hK
 | exit id => exact hK.elim
 | ret => exact done hK
theorem pure_of_hid {k : FuncId} {m : MH} {rs : List MOp} {ds : List D} {R : D → Prop} (h : Runs P k m.flat.strip rs N) (hl : Nat.ble ds.length N = true) (h0 : ∀ w, H.holds s (fun _ => False) w) (hv : evH P H m (S0 ds) s (finH rs fun r _ => R r)) : PureAt P k ds R := by
 obtain ⟨h1, h2⟩ := hid_run h hl hv
 refine ⟨h1, fun F w vs hF hs hrep => (h2 F w (fun _ => False) vs hF (h0 w) (fun _ _ _ h => h) hs hrep).mono ?_⟩
 rintro e w' ⟨r, v, s', B', he, hR, -, -, hr, hk⟩
 exact ⟨r, v, he, hR, hr.mono (fun b j hb => hb.imp id fun h => ⟨h.1, h.2.1⟩) (fun _ _ _ => rfl), hk.keep⟩
end Go.Vm
