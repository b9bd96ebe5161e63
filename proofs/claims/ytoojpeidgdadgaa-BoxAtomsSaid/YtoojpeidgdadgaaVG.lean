/- A part of the proof; what is proved stands in the last text. -/
import Derived.Test.YtoojpeidgdadgaaVm19c
import Derived.LoopN
import Derived.Attr
namespace Go.Vm
open Go.RowKit
variable {P : Program} {w0 w w' : World} {W F0 : Reg} {V : Tag → Option Value} {N : Nat} {g g' : Gh} {S S' : St} {a : Act} {ops : Array Oper}

inductive Ex
  | normal | exit (id : Nat) | ret

def Ex.up : Ex → Exit
  | .normal => .normal
  | .exit id => .exit id
  | .ret => .ret

inductive MC
  | skip
  | reg (ms : List MO)
  | dreg (q : Nat) (ms : List MO)
  | dreg2 (ms : List (MO × DK))
  | seq (x y : MC)
  | cond (c : Operand) (x y : MC)
  | block (id : Nat) (x : MC)
  | loop (x : MC)
  | exit (id : Nat)
  | ret
  | trim (ts os : List Nat) (gs : List Tag) (x : MC)
  | fz (ts : List Nat) (x : MC)
  | fzb (o : Nat) (x : MC)
  deriving Inhabited

def MC.strip : MC → MC
  | .reg ms => .reg (ms.map MO.strip)
  | .dreg q ms => .dreg q (ms.map MO.strip)
  | .dreg2 ms => .dreg2 (ms.map fun x => (x.1.strip, x.2))
  | .seq x y => .seq x.strip y.strip
  | .cond c x y => .cond c x.strip y.strip
  | .block id x => .block id x.strip
  | .loop x => .loop x.strip
  | .trim _ _ _ x => x.strip
  | .fz _ x => x.strip
  | .fzb _ x => x.strip
  | m => m

/-- Could an operation be one of the quiet ones? -/
def MOp.quiet : MOp → Bool
  | .alloc .. | .box .. | .store .. | .append .. | .isnil .. => false
  | _ => true

def lead : List MO → Nat
  | [] => 0
  | m :: ms => if m.op.quiet then lead ms + 1 else 0

/-- What kind each operation is: as an operation looks at what is not quiet, so it is not quiet. -/
def kinds (src : List Nat) : List MO → List Nat → List Nat → List (MO × DK)
  | [], _, _ => []
  | m :: r, soft, hard =>
    let d := m.dst.toList
    match m.op with
    | .alloc .. => (m, .a) :: kinds src r soft (d ++ hard)
    | .store .. | .box .. | .isnil .. => (m, .h) :: kinds src r soft (d ++ hard)
    | .append .. => (m, .s) :: kinds src r (d ++ soft) hard
    | _ => if m.readT.any hard.contains then (m, .h) :: kinds src r soft (d ++ hard)
      else if m.readT.any soft.contains || d.any src.contains then (m, .s) :: kinds src r (d ++ soft) hard
      else (m, .q) :: kinds src r soft hard
def srcs (ms : List MO) : List Nat := ms.flatMap fun m => match m.op with
  | .append _ _ _ (.tmp t) _ => [t]
  | _ => []

theorem kinds_fst (src : List Nat) : ∀ (ms : List MO) (s h : List Nat), (kinds src ms s h).map (·.1) = ms
  | [], _, _ => rfl
  | m :: r, s, h => by
    simp only [kinds]
    split <;> (try simp only [List.map_cons, kinds_fst src r])
    split
    · simp only [List.map_cons, kinds_fst src r]
    · split <;> simp only [List.map_cons, kinds_fst src r]

def comp (P : Program) (N : Nat) : Code → Option MC
  | .skip => some .skip
  | .region _ ops draw => match compOps P ops ops.toList with
    | some ms => if ms.all (dstOk N) then
        if draw then if drawB ops ms 0 then some (.dreg 0 ms) else if drawB ops ms (lead ms) then some (.dreg (lead ms) ms) else if drawB2 ops (kinds (srcs ms) ms [] []) then some (.dreg2 (kinds (srcs ms) ms [] [])) else none
        else some (.reg ms)
      else none
    | none => none
  | .seq x y => match comp P N x, comp P N y with
    | some x, some y => some (.seq x y)
    | _, _ => none
  | .cond c x y => match comp P N x, comp P N y with
    | some x, some y => some (.cond c x y)
    | _, _ => none
  | .block id x => match comp P N x with | some x => some (.block id x) | none => none
  | .loop x => match comp P N x with | some x => some (.loop x) | none => none
  | .exit id => some (.exit id)
  | .ret => some .ret
  | _ => none

def pickL {α β : Type} [DecidableEq α] : List α → List (α × β) → List (α × β)
  | [], _ => []
  | k :: ks, l => match lkp k l with
    | some d => (k, d) :: pickL ks l
    | none => pickL ks l

def St.trim (S : St) (ts os : List Nat) (gs : List Tag) : St := ⟨pickL ts S.env, pickL os S.hp, pickL gs S.tg⟩

def St.fz (S : St) : List Nat → Option St
  | [] => some S
  | t :: ts => match S.get t with
    | some d => match d.frz with
      | some f => if d.tags.all (fun t => (S.tag t).isSome) then ((S.share d.tags).put (some t) f).fz ts else none
      | none => none
    | none => none

def St.fzB (S : St) (o : Nat) : Option St := match S.box o with
  | some cs => match frzL cs with
    | some fs => if (tagsL cs).all (fun t => (S.tag t).isSome) then some ((S.share (tagsL cs)).fzb o fs) else none
    | none => none
  | none => none

def iter (f : St → (Ex → St → Prop) → Prop) (K : Ex → St → Prop) : Nat → St → Prop
  | 0, _ => False
  | n + 1, S => f S fun e S' => match e with
    | .normal => iter f K n S'
    | .exit id => K (.exit id) S'
    | .ret => K .ret S'

def ev (P : Program) : MC → St → (Ex → St → Prop) → Prop
  | .skip, S, K => K .normal S
  | .reg ms, S, K => evOps P ms S (K .normal)
  | .dreg q ms, S, K => evDraw P q ms S (K .normal)
  | .dreg2 ms, S, K => evDraw2 P ms S (K .normal)
  | .seq x y, S, K => ev P x S fun e S' => match e with
    | .normal => ev P y S' K
    | .exit id => K (.exit id) S'
    | .ret => K .ret S'
  | .cond c x y, S, K => match look S c with
    | some (.val (.bool t)) => (t = true → ev P x S K) ∧ (t = false → ev P y S K)
    | _ => False
  | .block id x, S, K => ev P x S fun e S' => match e with
    | .normal => K .normal S'
    | .exit id' => if id' = id then K .normal S' else K (.exit id') S'
    | .ret => K .ret S'
  | .loop x, S, K => ∃ n, iter (ev P x) K n S
  | .exit id, S, K => K (.exit id) S
  | .ret, S, K => K .ret S
  | .trim ts os gs x, S, K => ev P x (S.trim ts os gs) K
  | .fz ts x, S, K => match S.fz ts with
    | some S' => ev P x S' K
    | none => False
  | .fzb o x, S, K => match S.fzB o with
    | some S' => ev P x S' K
    | none => False

theorem pickL_lkp {α β : Type} [DecidableEq α] {t : α} {d : β} {l : List (α × β)} : ∀ {ks : List α}, lkp t (pickL ks l) = some d → lkp t l = some d
  | [], h => by simp [pickL, lkp] at h
  | k :: ks, h => by
    simp only [pickL] at h
    split at h
    · rename_i d' hk
      simp only [lkp] at h
      split at h
      · rename_i he; subst he; rw [hk]; exact h
      · exact pickL_lkp h
    · exact pickL_lkp h

theorem SR.trim (h : SR w0 W F0 V N g S a w) (ts os : List Nat) (gs : List Tag) : SR w0 W F0 V N g (S.trim ts os gs) a w :=
  h.sub (fun _ _ hd => pickL_lkp hd) (fun _ _ hd => pickL_lkp hd) (fun _ _ hd => pickL_lkp hd)

theorem SR.fz : ∀ {ts : List Nat} {S S' : St} {g : Gh}, SR w0 W F0 V N g S a w → S.fz ts = some S' → ∃ g', SR w0 W F0 V N g' S' a w
  | [], S, S', g, h, hf => by
    simp only [St.fz, Option.some.injEq] at hf; subst hf
    exact ⟨g, h⟩
  | t :: ts, S, S', g, h, hf => by
    simp only [St.fz] at hf
    split at hf
    · rename_i d hd
      split at hf
      · rename_i f hfr
        split at hf
        · rename_i hl
          have hr := frz_sound h.core (live_all hl) d (h.core.env t d hd) (fun t ht => ht) hfr
          exact ((h.share d.tags).putSame (t := t) (d := f) (.fz _ _ hr)).fz hf
        · cases hf
      · cases hf
    · cases hf

theorem SR.fzB {o : Nat} (h : SR w0 W F0 V N g S a w) (hf : S.fzB o = some S') : ∃ g', SR w0 W F0 V N g' S' a w := by
  unfold St.fzB at hf
  split at hf
  · rename_i cs hb
    split at hf
    · rename_i fs hfs
      split at hf
      · rename_i hl
        injection hf with hf; subst hf
        have hs := h.share (tagsL cs)
        have hb' : (S.share (tagsL cs)).box o = some cs := hb
        obtain ⟨b, k, vs, e, hμ, h2, h3, h4⟩ := hs.core.box o cs hb'
        have hl' : ∀ t ∈ tagsL cs, ∃ x, (S.share (tagsL cs)).tag t = some x := fun t ht => by
          obtain ⟨x, hx⟩ := live_all hl t ht
          exact ⟨_, by rw [share_tag, hx]; rfl⟩
        obtain ⟨l1, r1⟩ := frzL_sound hs.core hl' cs hfs (fun t ht => ht)
        have hc := hs.core.fzb (fs := fs) hb' hμ l1 (fun j d e' u hd he hr => (r1 j d u hd e' he hr).mono (fun b' k' hF => by
          rcases hF with hF | ⟨t, ht, x, ti, q1, q2, q3⟩
          · exact hF
          · rw [share_tag] at q1
            obtain ⟨x0, q4, _⟩ := Option.map_eq_some_iff.1 q1
            exact .inr ⟨t, ht, x0, ti, q4, q2, q3⟩) (fun _ _ _ => rfl))
        refine ⟨_, hc, ⟨fun o' c b' k' i hc' hμ' hi => ?_, hs.wr.tag⟩, hs.keep, hs.size, hs.defers, fun b' k' hF => .inl (hs.fext b' k' hF), fun b' k' hF => ?_, hs.cap, hs.pin⟩
        · rw [fzb_box] at hc'
          split at hc'
          · cases hc'
          · obtain ⟨c0, h5, rfl⟩ := Option.map_eq_some_iff.1 hc'
            exact hs.wr.box o' c0 b' k' i h5 hμ' (by simpa using hi)
        · rcases hF with hF | ⟨e1, e2, e3⟩
          · exact hs.fnew b' k' hF
          · subst e1
            have := hs.wr.box o cs b' k (k' - k) hb' hμ (by omega)
            rw [show k + (k' - k) = k' by omega] at this
            exact .inr this
      · cases hf
    · cases hf
  · cases hf

theorem dstOk_strip (m : MO) : dstOk N m.strip = dstOk N m := by
  obtain ⟨dst, op, guard⟩ := m
  cases op <;> rfl

theorem allOk_strip {ms : List MO} (h : (ms.map MO.strip).all (dstOk N) = true) : ms.all (dstOk N) = true := by
  rw [List.all_map] at h
  rw [← h]
  congr 1
  funext m
  exact (dstOk_strip m).symm

theorem ev_sound (hm : P.follows .mixedOrders = true) : ∀ (m : MC) (c : Code) (g : Gh) (S : St) (a : Act) (w : World) (K : Ex → St → Prop) (Q : Exit → Act → World → Prop), comp P N c = some m.strip → SR w0 W F0 V N g S a w → ev P m S K →
    (∀ e g' S' a' w', SR w0 W F0 V N g' S' a' w' → K e S' → Q e.up a' w') → c.wp P Q a w := by
  intro m
  induction m with
  | skip =>
    intro c g S a w K Q hc hS hv hQ
    cases c <;> simp only [comp, MC.strip] at hc <;> (repeat' (split at hc)) <;> (try (cases hc; done))
    exact wp_skip (hQ _ _ _ _ _ hS hv)
  | reg ms =>
    intro c g S a w K Q hc hS hv hQ
    cases c <;> simp only [comp, MC.strip] at hc <;> (repeat' (split at hc)) <;> (try (cases hc; done))
    rename_i hms hd hdraw
    injection hc with hc; injection hc with hc; subst hc
    have hdraw := Bool.eq_false_iff.2 hdraw
    subst hdraw
    exact reg_sound hms (allOk_strip hd) hS hv (fun g' S' a' w' h1 h2 => hQ .normal g' S' a' w' h1 h2)
  | dreg q ms =>
    intro c g S a w K Q hc hS hv hQ
    cases c <;> simp only [comp, MC.strip] at hc <;> (repeat' (split at hc)) <;> (try (cases hc; done))
    · rename_i hms hd hdraw hB
      injection hc with hc; injection hc with hc1 hc2; subst hc1; subst hc2
      subst hdraw
      exact draw_sound hm hms (allOk_strip hd) hB hS hv (fun g' S' a' w' h1 h2 => hQ .normal g' S' a' w' h1 h2)
    · rename_i hms hd hdraw _ hB
      injection hc with hc; injection hc with hc1 hc2; subst hc1; subst hc2
      subst hdraw
      exact draw_sound hm hms (allOk_strip hd) hB hS hv (fun g' S' a' w' h1 h2 => hQ .normal g' S' a' w' h1 h2)
  | dreg2 ms =>
    intro c g S a w K Q hc hS hv hQ
    cases c <;> simp only [comp, MC.strip] at hc <;> (repeat' (split at hc)) <;> (try (cases hc; done))
    rename_i ms0 hms hd hdraw _ _ hB
    injection hc with hc; injection hc with hc1
    have h0 := kinds_fst (srcs ms0) ms0 [] []
    rw [hc1] at h0 hB
    have h1 : (ms.map (·.1)).map MO.strip = ms0 := by rw [← h0]; simp [List.map_map, Function.comp_def]
    subst hdraw
    refine draw2_sound hm (hms.trans (congrArg some h1.symm)) (allOk_strip (by rw [h1]; exact hd)) hB hS hv (fun g' S' a' w' h1 h2 => hQ .normal g' S' a' w' h1 h2)
  | seq x y ihx ihy =>
    intro c g S a w K Q hc hS hv hQ
    cases c <;> simp only [comp, MC.strip] at hc <;> (repeat' (split at hc)) <;> (try (cases hc; done))
    rename_i hx hy
    injection hc with hc; injection hc with hc1 hc2; subst hc1; subst hc2
    refine wp_seq (ihx _ g S a w _ _ hx hS hv (fun e g' S' a' w' h1 h2 => ?_))
    cases e with
    | normal => exact ihy _ g' S' a' w' K Q hy h1 h2 hQ
    | exit id => exact hQ _ _ _ _ _ h1 h2
    | ret => exact hQ _ _ _ _ _ h1 h2
  | cond o x y ihx ihy =>
    intro c g S a w K Q hc hS hv hQ
    cases c <;> simp only [comp, MC.strip] at hc <;> (repeat' (split at hc)) <;> (try (cases hc; done))
    rename_i hx hy
    injection hc with hc; injection hc with hc0 hc1 hc2; subst hc0; subst hc1; subst hc2
    simp only [ev] at hv
    split at hv
    · rename_i t hl
      exact wp_cond_split (t := t) ((hS.core.look hl).val_inv) (fun ht => ihx _ g S a w K Q hx hS (hv.1 ht) hQ) (fun ht => ihy _ g S a w K Q hy hS (hv.2 ht) hQ)
    · exact hv.elim
  | block id x ih =>
    intro c g S a w K Q hc hS hv hQ
    cases c <;> simp only [comp, MC.strip] at hc <;> (repeat' (split at hc)) <;> (try (cases hc; done))
    rename_i hx
    injection hc with hc; injection hc with hc0 hc1; subst hc0; subst hc1
    refine wp_block (ih _ g S a w _ _ hx hS hv (fun e g' S' a' w' h1 h2 => ?_))
    cases e with
    | normal => exact hQ _ _ _ _ _ h1 h2
    | exit id' =>
      simp only [Ex.up, Exit.inBlock]
      simp only at h2
      split
      · rename_i he; rw [if_pos he] at h2; exact hQ .normal _ _ _ _ h1 h2
      · rename_i he; rw [if_neg he] at h2; exact hQ (.exit id') _ _ _ _ h1 h2
    | ret => exact hQ .ret _ _ _ _ h1 h2
  | loop x ih =>
    intro c g S a w K Q hc hS hv hQ
    cases c <;> simp only [comp, MC.strip] at hc <;> (repeat' (split at hc)) <;> (try (cases hc; done))
    rename_i body _ hx
    injection hc with hc; injection hc with hc0; subst hc0
    obtain ⟨n, hn⟩ := hv
    refine wp_loop_rounds n ?_
    induction n generalizing g S a w with
    | zero => exact hn.elim
    | succ n ihn =>
      rw [rounds_succ]
      simp only [iter] at hn
      refine ih _ g S a w _ _ hx hS hn (fun e g' S' a' w' h1 h2 => ?_)
      cases e with
      | normal => exact ihn g' S' a' w' h1 h2
      | exit id => exact hQ _ _ _ _ _ h1 h2
      | ret => exact hQ _ _ _ _ _ h1 h2
  | exit id =>
    intro c g S a w K Q hc hS hv hQ
    cases c <;> simp only [comp, MC.strip] at hc <;> (repeat' (split at hc)) <;> (try (cases hc; done))
    injection hc with hc; injection hc with hc; subst hc
    exact wp_exit (hQ _ _ _ _ _ hS hv)
  | ret =>
    intro c g S a w K Q hc hS hv hQ
    cases c <;> simp only [comp, MC.strip] at hc <;> (repeat' (split at hc)) <;> (try (cases hc; done))
    exact wp_ret (hQ _ _ _ _ _ hS hv)
  | trim ts os gs x ih =>
    intro c g S a w K Q hc hS hv hQ
    exact ih c g _ a w K Q hc (hS.trim ts os gs) hv hQ
  | fz ts x ih =>
    intro c g S a w K Q hc hS hv hQ
    simp only [ev] at hv
    split at hv
    · rename_i S' hf
      obtain ⟨g', h'⟩ := hS.fz hf
      exact ih c g' S' a w K Q hc h' hv hQ
    · exact hv.elim
  | fzb o x ih =>
    intro c g S a w K Q hc hS hv hQ
    simp only [ev] at hv
    split at hv
    · rename_i S' hf
      obtain ⟨g', h'⟩ := hS.fzB hf
      exact ih c g' S' a w K Q hc h' hv hQ
    · exact hv.elim

end Go.Vm

namespace Go.Vm
open Go.RowKit
variable {P : Program} {w0 w w' : World} {W F0 : Reg} {V : Tag → Option Value} {N : Nat} {g g' : Gh} {S S' : St} {a : Act} {ops : Array Oper} {K K' : Ex → St → Prop}

/-! ### loops -/
theorem evOps_mono {J J' : St → Prop} (hJ : ∀ S, J S → J' S) : ∀ (ms : List MO) (S : St), evOps P ms S J → evOps P ms S J'
  | [], S, h => hJ S h
  | o :: ms, S, h => by
    have step : ∀ (m : MOp) (dst : Option Nat) (L L' : St → Prop), (∀ S, L S → L' S) → ∀ S, vstep P m dst S L → vstep P m dst S L' := fun m dst L L' hL S h => vstep_mono hL h
    simp only [evOps] at h ⊢
    split at h
    · exact step _ _ _ _ (fun S' hS' => evOps_mono hJ ms S' hS') S h
    · exact evOps_mono hJ ms _ h
    · exact h.elim

theorem evDraw_mono {J J' : St → Prop} (hJ : ∀ S, J S → J' S) : ∀ (q : Nat) (ms : List MO) (S : St), evDraw P q ms S J → evDraw P q ms S J'
  | 0, ms, S, h => by simp only [evDraw] at h ⊢; exact evOps_mono hJ ms S h
  | q + 1, [], S, h => hJ S h
  | q + 1, m :: ms, S, h => by
    simp only [evDraw] at h ⊢
    split at h
    · obtain ⟨d, h1, h2⟩ := h
      exact ⟨d, h1, evDraw_mono hJ q ms _ h2⟩
    · exact evDraw_mono hJ q ms _ h
    · exact h.elim

theorem evK_mono {κ : DK} : ∀ (ms : List (MO × DK)) {J J' : St → Prop}, (∀ S, J S → J' S) → ∀ (S : St), evK P κ ms S J → evK P κ ms S J'
  | [], _, _, hJ, S, h => hJ S h
  | (m, k) :: r, J, J', hJ, S, h => by
    simp only [evK] at h ⊢
    split
    · rename_i hk
      rw [if_pos hk] at h
      split at h
      · exact vstep_mono (fun S' h' => evK_mono r hJ S' h') h
      · exact evK_mono r hJ _ h
      · exact h.elim
    · rename_i hk
      rw [if_neg hk] at h
      exact evK_mono r hJ S h
theorem evS_mono {os : List Nat} {ts : List Tag} : ∀ (ms : List (MO × DK)) {J J' : St → Prop}, (∀ S, J S → J' S) → ∀ (S : St), evS P os ts ms S J → evS P os ts ms S J'
  | [], _, _, hJ, S, h => hJ S h
  | (m, k) :: r, J, J', hJ, S, h => by
    cases k with
    | s =>
      simp only [evS] at h ⊢
      split at h
      · exact ⟨h.1, vstep_mono (fun S' h' => evS_mono r hJ _ h') h.2⟩
      · exact evS_mono r hJ _ h
      · exact h.elim
    | q => exact evS_mono r hJ S h
    | a => exact evS_mono r hJ S h
    | h => exact evS_mono r hJ S h
theorem evQ_mono {os : List Nat} {ts : List Tag} : ∀ (ms : List (MO × DK)) {J J' : St → Prop}, (∀ S, J S → J' S) → ∀ (S : St), evQ P os ts ms S J → evQ P os ts ms S J'
  | [], _, _, hJ, S, h => hJ S h
  | (m, k) :: r, J, J', hJ, S, h => by
    cases k with
    | q =>
      simp only [evQ] at h ⊢
      split at h
      · obtain ⟨d, h1, h2, h3⟩ := h
        exact ⟨d, h1, h2, evQ_mono r hJ _ h3⟩
      · exact evQ_mono r hJ _ h
      · exact h.elim
    | s => exact evQ_mono r hJ S h
    | a => exact evQ_mono r hJ S h
    | h => exact evQ_mono r hJ S h
theorem evDraw2_mono {J J' : St → Prop} (hJ : ∀ S, J S → J' S) (ms : List (MO × DK)) (S : St) (h : evDraw2 P ms S J) : evDraw2 P ms S J' :=
  evQ_mono ms (fun S1 h1 => evS_mono ms (fun S2 h2 => evK_mono ms (fun S3 h3 => evK_mono ms hJ S3 h3) S2 h2) S1 h1) _ h

theorem ev_mono : ∀ (m : MC) (S : St) (K K' : Ex → St → Prop), (∀ e S, K e S → K' e S) → ev P m S K → ev P m S K' := by
  intro m
  induction m with
  | skip => intro S K K' hK h; exact hK _ _ h
  | reg ms => intro S K K' hK h; exact evOps_mono (fun S => hK _ S) ms S h
  | dreg q ms => intro S K K' hK h; exact evDraw_mono (fun S => hK _ S) q ms S h
  | dreg2 ms => intro S K K' hK h; exact evDraw2_mono (fun S => hK _ S) ms S h
  | seq x y ihx ihy =>
    intro S K K' hK h
    refine ihx S _ _ (fun e S' h' => ?_) h
    cases e with
    | normal => exact ihy S' _ _ hK h'
    | exit id => exact hK _ _ h'
    | ret => exact hK _ _ h'
  | cond c x y ihx ihy =>
    intro S K K' hK h
    simp only [ev] at h ⊢
    split at h
    · exact ⟨fun ht => ihx S _ _ hK (h.1 ht), fun ht => ihy S _ _ hK (h.2 ht)⟩
    · exact h.elim
  | block id x ih =>
    intro S K K' hK h
    refine ih S _ _ (fun e S' h' => ?_) h
    cases e with
    | normal => exact hK _ _ h'
    | exit id' =>
      simp only at h' ⊢
      split at h'
      · rename_i he; rw [if_pos he]; exact hK _ _ h'
      · rename_i he; rw [if_neg he]; exact hK _ _ h'
    | ret => exact hK _ _ h'
  | loop x ih =>
    intro S K K' hK h
    obtain ⟨n, hn⟩ := h
    refine ⟨n, ?_⟩
    induction n generalizing S with
    | zero => exact hn.elim
    | succ n ihn =>
      simp only [iter] at hn ⊢
      refine ih S _ _ (fun e S' h' => ?_) hn
      cases e with
      | normal => exact ihn S' h'
      | exit id => exact hK _ _ h'
      | ret => exact hK _ _ h'
  | exit id => intro S K K' hK h; exact hK _ _ h
  | ret => intro S K K' hK h; exact hK _ _ h
  | trim ts os gs x ih => intro S K K' hK h; exact ih _ _ _ hK h
  | fz ts x ih =>
    intro S K K' hK h
    simp only [ev] at h ⊢
    split at h
    · exact ih _ _ _ hK h
    · exact h.elim
  | fzb o x ih =>
    intro S K K' hK h
    simp only [ev] at h ⊢
    split at h
    · exact ih _ _ _ hK h
    · exact h.elim

/-- A loop: what holds at its head, and what grows less. -/
theorem ev_loop {x : MC} (I : St → Nat → Prop) (h : ∀ n S, I S n → ev P x S fun e S' => match e with | .normal => ∃ k, k < n ∧ I S' k | .exit id => K (.exit id) S' | .ret => K .ret S') :
    ∀ (n : Nat) (S : St), I S n → ev P (.loop x) S K := by
  have key : ∀ n, ∀ k, k ≤ n → ∀ S, I S k → iter (ev P x) K (n + 1) S := by
    intro n
    induction n with
    | zero =>
      intro k hk S hI
      simp only [iter]
      refine ev_mono x S _ _ (fun e S' h' => ?_) (h k S hI)
      cases e with
      | normal => obtain ⟨j, hj, -⟩ := h'; omega
      | exit id => exact h'
      | ret => exact h'
    | succ n ih =>
      intro k hk S hI
      rw [iter]
      refine ev_mono x S _ _ (fun e S' h' => ?_) (h k S hI)
      cases e with
      | normal => obtain ⟨j, hj, h'⟩ := h'; exact ih j (by omega) S' h'
      | exit id => exact h'
      | ret => exact h'
  exact fun n S hI => ⟨n + 1, key n n (Nat.le_refl n) S hI⟩

/-! ### functions -/
def resOp (P : Program) : ResultVar → Option MOp
  | .tmp t => some (.mov (.tmp t))
  | .cell x t => match aggT P t with
    | some sz => some (.load sz (.tmp x))
    | none => none
def resOps (P : Program) : List ResultVar → Option (List MOp)
  | [] => some []
  | r :: rs => match resOp P r, resOps P rs with
    | some m, some ms => some (m :: ms)
    | _, _ => none
def resD (S : St) : List MOp → Option (List D)
  | [] => some []
  | m :: ms => match pop S m, resD S ms with
    | some d, some ds => some (d :: ds)
    | _, _ => none

def oneD : List D → D
  | [d] => d
  | ds => .tup ds

theorem resOps_sound (h : Core g S a.tmps w) : ∀ {l : List ResultVar} {ms : List MOp} {ds : List D}, resOps P l = some ms → resD S ms = some ds →
    ∃ vs : List Value, (l.mapM fun | .tmp t => pure (a.tmps.getD t undef) | .cell x t => do loadVar t (← asAddr (a.tmps.getD x undef)) : Sem (List Value)).run P w = .ok vs w ∧ vs.length = ds.length ∧
      ∀ (i : Nat) (d : D) (v : Value), ds[i]? = some d → vs[i]? = some v → Rep g w d v
  | [], ms, ds, hm, hd => by
    simp only [resOps, Option.some.injEq] at hm; subst hm
    simp only [resD, Option.some.injEq] at hd; subst hd
    exact ⟨[], by simp, rfl, fun i d v h => by simp at h⟩
  | r :: l, ms, ds, hm, hd => by
    simp only [resOps] at hm
    split at hm
    · rename_i m ms' h1 h2
      injection hm with hm; subst hm
      simp only [resD] at hd
      split at hd
      · rename_i d ds' h3 h4
        injection hd with hd; subst hd
        obtain ⟨vs, e1, e2, e3⟩ := resOps_sound h h2 h4
        have hone : ∃ v, ((match r with | .tmp t => pure (a.tmps.getD t undef) | .cell x t => do loadVar t (← asAddr (a.tmps.getD x undef)) : Sem Value)).run P w = .ok v w ∧ Rep g w d v := by
          cases r with
          | tmp t =>
            simp only [resOp, Option.some.injEq] at h1; subst h1
            exact ⟨_, rfl, h.look (x := .tmp t) h3⟩
          | cell x t =>
            simp only [resOp] at h1
            split at h1
            · rename_i sz hsz
              injection h1 with h1; subst h1
              simp only [pop] at h3
              split at h3
              · rename_i p hp
                have hr := h.look (x := .tmp x) hp
                obtain ⟨u, hu1, hu2⟩ := load_sound (P := P) h hsz hr h3
                refine ⟨u, ?_, hu2⟩
                have hev : a.eval (.tmp x) = a.tmps.getD x undef := rfl
                rw [hev] at hr hu1
                have hptr : ∃ ad, a.tmps.getD x undef = .pointer (some ad) := by
                  cases p <;> simp only [loadD] at h3 <;> try (cases h3; done)
                  · obtain ⟨b, k, e, -⟩ := hr.ptr_inv
                    exact ⟨_, e⟩
                  · split at h3
                    · rename_i hlv
                      obtain ⟨b, o, e, -⟩ := hr.rp_inv h (live_some hlv)
                      exact ⟨_, e⟩
                    · cases h3
                obtain ⟨ad, had⟩ := hptr
                rw [had] at hu1
                show (do let q ← asAddr (a.tmps.getD x undef); loadVar t q : Sem Value).run P w = .ok u w
                rw [had]
                simp only [Instr.loadAt, Instr.sureAddr, Sem.run_bind, Sem.run_pure, Result.andThen_ok] at hu1
                simp only [asAddr, Sem.run_bind, Sem.run_pure, Result.andThen_ok]
                exact hu1
              · cases h3
            · cases h1
        obtain ⟨v, e4, e5⟩ := hone
        refine ⟨v :: vs, ?_, by simp [e2], fun i d' v' hd' hv' => ?_⟩
        · rw [List.mapM_cons]
          simp only [Sem.run_bind, e4, e1, Result.andThen_ok, Sem.run_pure]
        · cases i with
          | zero => simp at hd' hv'; subst hd'; subst hv'; exact e5
          | succ i => exact e3 i d' v' (by simpa using hd') (by simpa using hv')
      · cases hd
    · cases hm

theorem results_sound (h : Core g S a.tmps w) {fn : Func} {ms : List MOp} {ds : List D} (hm : resOps P fn.results.toList = some ms) (hd : resD S ms = some ds) :
    ∃ v, (results fn a.tmps).run P w = .ok v w ∧ Rep g w (oneD ds) v := by
  obtain ⟨vs, e1, e2, e3⟩ := resOps_sound h hm hd
  refine ⟨if hz : vs.toArray.size = 1 then vs.toArray[0] else .tuple vs.toArray, ?_, ?_⟩
  · unfold results
    rw [Array.mapM_eq_mapM_toList]
    simp only [Sem.run_bind, map_eq_pure_bind]
    erw [e1]
    simp only [Result.andThen_ok, Sem.run_pure]
  · by_cases hz : vs.length = 1
    · obtain ⟨v, rfl⟩ := List.length_eq_one_iff.1 hz
      have : ds.length = 1 := by rw [← e2]; rfl
      obtain ⟨d, rfl⟩ := List.length_eq_one_iff.1 this
      simp only [oneD]
      exact e3 0 d v rfl rfl
    · rw [dif_neg (by simpa using hz)]
      have : oneD ds = .tup ds := by
        match ds, e2 with
        | [], _ => rfl
        | [d], e2 => exact absurd e2 hz
        | _ :: _ :: _, _ => rfl
      rw [this]
      exact .tup ds _ (by simpa using e2) (fun i d v hd hv => e3 i d v hd (by simpa using hv))

def num {α : Type} : Nat → List α → List (Nat × α)
  | _, [] => []
  | n, x :: xs => (n, x) :: num (n + 1) xs

theorem num_lkp {α : Type} : ∀ {xs : List α} {n t : Nat} {d : α}, lkp t (num n xs) = some d → n ≤ t ∧ xs[t - n]? = some d
  | [], n, t, d, h => by simp [num, lkp] at h
  | x :: xs, n, t, d, h => by
    simp only [num, lkp] at h
    split at h
    · rename_i he; subst he; injection h with h; subst h
      exact ⟨Nat.le_refl _, by simp⟩
    · rename_i hne
      obtain ⟨h1, h2⟩ := num_lkp h
      refine ⟨by omega, ?_⟩
      rw [show t - n = (t - (n + 1)) + 1 by omega]; simpa using h2

/-- A function's first state. -/
def S0 (ds : List D) : St := ⟨num 0 ds, [], []⟩

/-- What a function must end in. -/
def fin (rs : List MOp) (R : D → Prop) (e : Ex) (S : St) : Prop :=
  match e with
  | .exit _ => False
  | _ => match resD S rs with
    | some ds => match (oneD ds).frz with
      | some r => (oneD ds).tags.all (fun t => (S.tag t).isSome) = true ∧ R r
      | none => False
    | none => False

theorem start_SR {F : Reg} {ds : List D} {vs : Array Value} (hF : ∀ b j, F b j → b < w.heap.size) (hs : vs.size = ds.length) (hl : ds.length ≤ N) (hcap : N ≤ 999999) (hrep : ∀ (i : Nat) (d : D) (v : Value), ds[i]? = some d → vs[i]? = some v → RepF F w d v) :
    SR w (fun _ _ => False) F (fun _ => none) N ⟨fun _ => none, fun _ => none, F⟩ (S0 ds) { tmps := vs ++ Array.replicate (N - vs.size) undef, defers := [] } w := by
  refine ⟨⟨fun t d hd => ?_, fun o cs h => by simp [S0, St.box, lkp] at h, fun o cs b k i h => by simp [S0, St.box, lkp] at h, fun o o' cs cs' b k k' h => by simp [S0, St.box, lkp] at h, fun t x h => by simp [S0, St.tag, lkp] at h,
    fun t x ti o cs b k h => by simp [S0, St.tag, lkp] at h, fun t x ti t' x' ti' b h => by simp [S0, St.tag, lkp] at h, hF⟩,
    ⟨fun o cs b k i h => by simp [S0, St.box, lkp] at h, fun t x ti b h => by simp [S0, St.tag, lkp] at h⟩, Keep.refl _ _, ?_, rfl, fun _ _ h => h, fun _ _ h => .inl h, hcap, fun t ti _ h => by cases h⟩
  · obtain ⟨-, h2⟩ := num_lkp hd
    simp only [Nat.sub_zero] at h2
    have ht : t < vs.size := by rw [hs]; exact (List.getElem?_eq_some_iff.1 h2).1
    refine .fz _ _ (hrep t d _ h2 ?_)
    rw [Array.getD_eq_getD_getElem?, Array.getElem?_append_left ht, Array.getElem?_eq_getElem ht]; rfl
  · simp; omega

/-- What a function must end in whose outcome is a row of the caller's own. -/
def finF (rs : List MOp) (e sz : Nat) (R : List (List D) → Prop) (x : Ex) (S : St) : Prop :=
  match x with
  | .exit _ => False
  | _ => match resD S rs with
    | some [.sl (some t) es] => t.2 = (e, sz) ∧ S.tag t = some true ∧ R es
    | _ => False

theorem fresh_of_ev {k : FuncId} {fn : Func} {c : Code} {m : MC} {rs : List MOp} {ds : List D} {e sz : Nat} {R : List (List D) → Prop} (hm : P.follows .mixedOrders = true) (hf : P.funcs[k]? = some fn) (hn : (fn.name == "runtime.NumGoroutine") = false) (hb : fn.body = some c)
    (hc : comp P fn.ntmps c = some m.strip) (hr : resOps P fn.results.toList = some rs) (hl : Nat.ble ds.length fn.ntmps = true) (hcap : Nat.ble fn.ntmps 999999 = true) (hv : ev P m (S0 ds) (finF rs e sz R)) : FreshAt P k ds e sz R := by
  refine ⟨⟨fn, hf, hn, by rw [hb]; rfl⟩, fun F w vs hF hs hrep => ?_⟩
  refine calls_of_wp hf hb ?_
  have hS := start_SR (N := fn.ntmps) hF hs (Nat.le_of_ble_eq_true hl) (Nat.le_of_ble_eq_true hcap) hrep
  refine ev_sound hm m c _ _ _ _ _ _ hc hS hv (fun x g' S' a' w' hS' hK => ?_)
  have done : finF rs e sz R .normal S' → a'.defers = [] ∧ ∃ v, (results fn a'.tmps).run P w' = .ok v w' ∧ ∃ es u xs, Ending.returned v = .returned u ∧ R es ∧ w'.ownsRow 0 e sz u es.length xs ∧ (∀ u ∈ xs, u.oneCell' = true) ∧ (∀ b, u.ownBlock = some b → w.heap.size ≤ b) ∧ Keep (fun _ _ => False) w w' ∧
      (∀ (i : Nat) (l : List D), es[i]? = some l → l.length = sz) ∧
      ∀ (i : Nat) (l : List D) (j : Nat) (d : D), es[i]? = some l → l[j]? = some d → ∃ z, xs[i * sz + j]? = some z ∧ RepF (fun b j => F b j ∨ (w.heap.size ≤ b ∧ b < w'.heap.size ∧ u.ownBlock ≠ some b)) w' d z := by
    intro hK
    refine ⟨hS'.defers, ?_⟩
    simp only [finF] at hK
    split at hK
    · rename_i t es hes
      obtain ⟨h1, h2, h3⟩ := hK
      obtain ⟨v, e1, e2⟩ := results_sound hS'.core hr hes
      simp only [oneD] at e2
      obtain ⟨ti, q1, q2⟩ := hS'.core.tag t true h2
      cases e2 with
      | fz _ _ h0 => cases h0
      | slT _ _ ti2 ht2 hn hlen hcont =>
        rw [q1] at ht2; injection ht2 with ht2; subst ht2
        obtain ⟨ty1, ty2⟩ := q2.ty
        rw [h1] at ty1 ty2
        simp only at ty1 ty2
        have hown := q2.own
        rw [ty1, ty2, ← hn] at hown
        have hnew : ∀ b, ti.v.ownBlock = some b → w.heap.size ≤ b := fun b hb => by
          rcases hS'.wr.tag t true ti b h2 q1 hb with h4 | h4
          · exact h4
          · exact (h4 0).elim
        refine ⟨ti.v, e1, es, ti.v, ti.xs, rfl, h3, hown, q2.one, hnew, hS'.keep, fun i l hl => by rw [← ty2]; exact hlen i l hl, fun i l j d hl hd => ?_⟩
        obtain ⟨z, hz, hrz⟩ := hcont i l j d hl hd
        refine ⟨z, by rw [← ty2]; exact hz, hrz.mono (fun b j hbj => ?_) (fun _ _ _ => rfl)⟩
        rcases hS'.fnew b j hbj with h4 | h4 | h4
        · exact .inl h4
        · refine .inr ⟨h4, hS'.core.frz b j hbj, fun hb => ?_⟩
          have := (q2.out b j hb hbj).1
          cases this
        · exact h4.elim
    · exact hK.elim
  cases x with
  | normal => exact done hK
  | exit id => exact hK.elim
  | ret => exact done hK

theorem pure_of_ev {k : FuncId} {fn : Func} {c : Code} {m : MC} {rs : List MOp} {ds : List D} {R : D → Prop} (hm : P.follows .mixedOrders = true) (hf : P.funcs[k]? = some fn) (hn : (fn.name == "runtime.NumGoroutine") = false) (hb : fn.body = some c)
    (hc : comp P fn.ntmps c = some m.strip) (hr : resOps P fn.results.toList = some rs) (hl : Nat.ble ds.length fn.ntmps = true) (hcap : Nat.ble fn.ntmps 999999 = true) (hv : ev P m (S0 ds) (fin rs R)) : PureAt P k ds R := by
  refine ⟨⟨fn, hf, hn, by rw [hb]; rfl⟩, fun F w vs hF hs hrep => ?_⟩
  refine calls_of_wp hf hb ?_
  have hS := start_SR (N := fn.ntmps) hF hs (Nat.le_of_ble_eq_true hl) (Nat.le_of_ble_eq_true hcap) hrep
  refine ev_sound hm m c _ _ _ _ _ _ hc hS hv (fun e g' S' a' w' hS' hK => ?_)
  have done : fin rs R .normal S' → a'.defers = [] ∧ ∃ v, (results fn a'.tmps).run P w' = .ok v w' ∧ ∃ r u, Ending.returned v = .returned u ∧ R r ∧ RepF (fun b j => F b j ∨ (w.heap.size ≤ b ∧ b < w'.heap.size)) w' r u ∧ Keep (fun _ _ => False) w w' := by
    intro hK
    refine ⟨hS'.defers, ?_⟩
    simp only [fin] at hK
    split at hK
    · rename_i es hes
      split at hK
      · rename_i r hfr
        obtain ⟨v, h1, h2⟩ := results_sound hS'.core hr hes
        have h3 := frz_sound hS'.core (live_all hK.1) _ h2 (fun t ht => ht) hfr
        refine ⟨v, h1, r, v, rfl, hK.2, h3.mono (fun b j hbj => ?_) (fun _ _ _ => rfl), hS'.keep⟩
        have hsh := hS'.share (oneD es).tags
        rcases hsh.fnew b j hbj with h4 | h4 | h4
        · exact .inl h4
        · exact .inr ⟨h4, hsh.core.frz b j hbj⟩
        · exact h4.elim
      · exact hK.elim
    · exact hK.elim
  cases e with
  | normal => exact done hK
  | exit id => exact hK.elim
  | ret => exact done hK

/-- The first state of a function that makes its first argument's row over, in place. -/
def S1 (e sz : Nat) (es : List (List D)) (ds : List D) : St := ⟨(0, .sl (some (999999, e, sz)) es) :: num 1 ds, [], [((999999, e, sz), true)]⟩

/-- What such a function must end in. -/
def finT (rs : List MOp) (e sz n : Nat) (R : List (List D) → D → Prop) (x : Ex) (S : St) : Prop :=
  match x with
  | .exit _ => False
  | _ => match S.get 0, resD S rs with
    | some (.sl (some t) es'), some ds => match (oneD ds).frz with
      | some r => t = (999999, e, sz) ∧ es'.length = n ∧ S.tag t = some true ∧ (oneD ds).tags = [] ∧ R es' r
      | none => False
    | _, _ => False

theorem mut_of_ev {k : FuncId} {fn : Func} {c : Code} {m : MC} {rs : List MOp} {es : List (List D)} {ds : List D} {e sz : Nat} {R : List (List D) → D → Prop} (hm : P.follows .mixedOrders = true) (hf : P.funcs[k]? = some fn) (hn : (fn.name == "runtime.NumGoroutine") = false) (hb : fn.body = some c)
    (hc : comp P fn.ntmps c = some m.strip) (hr : resOps P fn.results.toList = some rs) (hl : Nat.ble (ds.length + 1) fn.ntmps = true) (hcap : Nat.ble fn.ntmps 999999 = true) (hv : ev P m (S1 e sz es ds) (finT rs e sz es.length R)) : MutAt P k e sz es ds R := by
  refine ⟨⟨fn, hf, hn, by rw [hb]; rfl⟩, fun F w v xs vs hF hown hone hnF hlen hcont hs hrep => ?_⟩
  refine calls_of_wp hf hb ?_
  have hl := Nat.le_of_ble_eq_true hl
  have hcap := Nat.le_of_ble_eq_true hcap
  let T : Tag := (999999, e, sz)
  have hshape : (v = .slice none 0 0 ∧ es.length = 0) ∨ ∃ b c, v = .slice (some ⟨b, 0, none⟩) es.length c := by
    rcases hown.2 with h | ⟨b, c, cur, h, -⟩
    · exact .inl h
    · exact .inr ⟨b, c, h⟩
  let ti : TI := { v := v, e := e, sz := sz, n := es.length, xs := xs, shape := hshape }
  let g : Gh := ⟨fun _ => none, fun t => if t = T then some ti else none, F⟩
  have hg : ∀ t x, g.τ t = some x → t = T ∧ x = ti := fun t x h => by
    simp only [g] at h
    split at h
    · rename_i he; injection h with h; exact ⟨he, h.symm⟩
    · cases h
  have hS : SR w (fun b _ => v.ownBlock = some b) F (fun _ => some v) fn.ntmps g (S1 e sz es ds) { tmps := (#[v] ++ vs) ++ Array.replicate (fn.ntmps - (#[v] ++ vs).size) undef, defers := [] } w := by
    refine ⟨⟨fun t d hd => ?_, fun o cs h => by simp [S1, St.box, lkp] at h, fun o cs b k i h => by simp [S1, St.box, lkp] at h, fun o o' cs cs' b k k' h => by simp [S1, St.box, lkp] at h, fun t x h => ?_,
      fun t x ti o cs b k h1 h2 h3 => by simp [S1, St.box, lkp] at h3, fun t x ti t' x' ti' b h1 h2 h3 h4 h5 h6 => by rw [(hg _ _ h2).1, (hg _ _ h4).1], hF⟩,
      ⟨fun o cs b k i h => by simp [S1, St.box, lkp] at h, fun t x ti' b h1 h2 h3 => .inr (fun i => by rw [(hg _ _ h2).2] at h3; exact h3)⟩, Keep.refl _ _, ?_, rfl, fun _ _ h => h, fun _ _ h => .inl h, hcap, fun t ti' _ h => by rw [(hg _ _ h).2]⟩
    · simp only [S1, St.get, lkp] at hd
      split at hd
      · rename_i he; subst he; injection hd with hd; subst hd
        have : ((#[v] ++ vs) ++ Array.replicate (fn.ntmps - (#[v] ++ vs).size) undef).getD 0 undef = ti.v := by
          rw [Array.getD_eq_getD_getElem?, Array.getElem?_append_left (by simp; omega), Array.getElem?_append_left (by simp)]; rfl
        rw [this]
        exact .slT T es ti (by simp [g]) rfl hlen hcont
      · obtain ⟨h1, h2⟩ := num_lkp hd
        refine .fz _ _ (hrep (t - 1) d _ h2 ?_)
        have ht : t - 1 < vs.size := by rw [hs]; exact (List.getElem?_eq_some_iff.1 h2).1
        rw [Array.getD_eq_getD_getElem?, Array.getElem?_append_left (by simp; omega), Array.getElem?_append_right (by simp; omega)]
        simp only [List.size_toArray, List.length_cons, List.length_nil, Nat.zero_add]
        rw [Array.getElem?_eq_getElem ht]; rfl
    · simp only [S1, St.tag, lkp] at h
      split at h
      · rename_i he; subst he; injection h with h; subst h
        exact ⟨ti, by simp [g, T], ⟨rfl, rfl⟩, hown, hone, fun b k h1 h2 => (hnF b h1 k h2).elim, fun b k _ h => by cases h⟩
      · cases h
    · simp; omega
  refine ev_sound hm m c _ _ _ _ _ _ hc hS hv (fun x g' S' a' w' hS' hK => ?_)
  have done : finT rs e sz es.length R .normal S' → a'.defers = [] ∧ ∃ u, (results fn a'.tmps).run P w' = .ok u w' ∧ ∃ es' r z xs', Ending.returned u = .returned z ∧ R es' r ∧ RepF (fun b j => F b j ∨ (w.heap.size ≤ b ∧ b < w'.heap.size)) w' r z ∧ es'.length = es.length ∧ w'.ownsRow 0 e sz v es'.length xs' ∧
      (∀ u ∈ xs', u.oneCell' = true) ∧ Keep (fun b _ => v.ownBlock = some b) w w' ∧ (∀ (i : Nat) (l : List D), es'[i]? = some l → l.length = sz) ∧
      ∀ (i : Nat) (l : List D) (j : Nat) (d : D), es'[i]? = some l → l[j]? = some d → ∃ u, xs'[i * sz + j]? = some u ∧ RepF (fun b j => F b j ∨ (w.heap.size ≤ b ∧ b < w'.heap.size)) w' d u := by
    intro hK
    refine ⟨hS'.defers, ?_⟩
    simp only [finT] at hK
    split at hK
    · rename_i t es' rds hget hres
      split at hK
      · rename_i r hfr
        obtain ⟨rfl, h2, h3, h4, h5⟩ := hK
        obtain ⟨u, e1, e2⟩ := results_sound hS'.core hr hres
        obtain ⟨ti', q1, q2⟩ := hS'.core.tag _ true h3
        have hpin : ti'.v = v := by have := hS'.pin _ ti' (Nat.le_refl _) q1; injection this with this; exact this.symm
        have hnW : ∀ b k, v.ownBlock = some b → ¬ g'.F b k := fun b k h6 h7 => by
          have := (q2.out b k (by rw [hpin]; exact h6) h7).1
          cases this
        have hFn : ∀ b j, g'.F b j → F b j ∨ (w.heap.size ≤ b ∧ b < w'.heap.size) := fun b j hbj => by
          rcases hS'.fnew b j hbj with h6 | h6 | h6
          · exact .inl h6
          · exact .inr ⟨h6, hS'.core.frz b j hbj⟩
          · exact (hnW b j h6 hbj).elim
        have hrz := frz_sound hS'.core (live_all (by rw [h4]; rfl)) _ e2 (fun t ht => ht) hfr
        have hrep0 := hS'.core.env 0 _ hget
        have hpos : v = a'.tmps.getD 0 undef ∧ es'.length = ti'.n ∧ (∀ (i : Nat) (l : List D), es'[i]? = some l → l.length = ti'.sz) ∧
            (∀ (i : Nat) (e : List D) (j : Nat) (d : D), es'[i]? = some e → e[j]? = some d → ∃ u, ti'.xs[i * ti'.sz + j]? = some u ∧ RepF g'.F w' d u) := by
          generalize a'.tmps.getD 0 undef = v0 at hrep0
          cases hrep0 with
          | fz _ _ h0 => cases h0
          | slT _ _ ti2 ht2 hn hlen hcont =>
            rw [q1] at ht2; injection ht2 with ht2; subst ht2
            exact ⟨hpin.symm, hn, hlen, hcont⟩
        obtain ⟨-, hn', hlen', hcont'⟩ := hpos
        obtain ⟨ty1, ty2⟩ := q2.ty
        simp only at ty1 ty2
        have hown' := q2.own
        rw [ty1, ty2, ← hn', hpin] at hown'
        refine ⟨u, e1, es', r, u, ti'.xs, rfl, h5, hrz.mono (fun b j hbj => ?_) (fun _ _ _ => rfl), h2, hown', q2.one, hS'.keep, fun i l hl => by rw [← ty2]; exact hlen' i l hl, fun i l j d hl hd => ?_⟩
        · rw [h4] at hbj
          refine hFn b j ?_
          rcases hbj with hbj | ⟨t, ht, -⟩
          · exact hbj
          · cases ht
        · obtain ⟨z, hz, hrz⟩ := hcont' i l j d hl hd
          exact ⟨z, by rw [← ty2]; exact hz, hrz.mono hFn (fun _ _ _ => rfl)⟩
      · exact hK.elim
    · exact hK.elim
  cases x with
  | normal => exact done hK
  | exit id => exact hK.elim
  | ret => exact done hK

/-- A function, its code as the machine has it, where its outcome lies, how many slots. -/
structure Runs (P : Program) (k : FuncId) (m : MC) (rs : List MOp) (N : Nat) : Prop where
  mixed : P.follows .mixedOrders = true
  small : Nat.ble N 999999 = true
  fn : ∃ (fn : Func) (c : Code), P.funcs[k]? = some fn ∧ (fn.name == "runtime.NumGoroutine") = false ∧ fn.body = some c ∧ fn.ntmps = N ∧ comp P N c = some m ∧ resOps P fn.results.toList = some rs

theorem pure_of {k : FuncId} {m : MC} {rs : List MOp} {N : Nat} {ds : List D} {R : D → Prop} (h : Runs P k m.strip rs N) (hl : Nat.ble ds.length N = true) (hv : ev P m (S0 ds) (fin rs R)) : PureAt P k ds R := by
  obtain ⟨h0, hs, fn, c, h1, h2, h3, rfl, h4, h5⟩ := h
  exact pure_of_ev h0 h1 h2 h3 h4 h5 hl hs hv

theorem fresh_of {k : FuncId} {m : MC} {rs : List MOp} {N : Nat} {ds : List D} {e sz : Nat} {R : List (List D) → Prop} (h : Runs P k m.strip rs N) (hl : Nat.ble ds.length N = true) (hv : ev P m (S0 ds) (finF rs e sz R)) : FreshAt P k ds e sz R := by
  obtain ⟨h0, hs, fn, c, h1, h2, h3, rfl, h4, h5⟩ := h
  exact fresh_of_ev h0 h1 h2 h3 h4 h5 hl hs hv

theorem mut_of {k : FuncId} {m : MC} {rs : List MOp} {N : Nat} {es : List (List D)} {ds : List D} {e sz : Nat} {R : List (List D) → D → Prop} (h : Runs P k m.strip rs N) (hl : Nat.ble (ds.length + 1) N = true) (hv : ev P m (S1 e sz es ds) (finT rs e sz es.length R)) : MutAt P k e sz es ds R := by
  obtain ⟨h0, hs, fn, c, h1, h2, h3, rfl, h4, h5⟩ := h
  exact mut_of_ev h0 h1 h2 h3 h4 h5 hl hs hv

end Go.Vm

namespace Go.Vm
open Go.RowKit
variable {P : Program} {S : St} {K : Ex → St → Prop} {J : St → Prop}

/-! ### code -/
def seqK (P : Program) (y : MC) (K : Ex → St → Prop) : Ex → St → Prop
  | .normal, S => ev P y S K
  | .exit id, S => K (.exit id) S
  | .ret, S => K .ret S
def blockK (id : Nat) (K : Ex → St → Prop) : Ex → St → Prop
  | .normal, S => K .normal S
  | .exit id', S => if id' = id then K .normal S else K (.exit id') S
  | .ret, S => K .ret S
def loopK (I : St → Nat → Prop) (n : Nat) (K : Ex → St → Prop) : Ex → St → Prop
  | .normal, S => ∃ k, k < n ∧ I S k
  | .exit id, S => K (.exit id) S
  | .ret, S => K .ret S

@[go_sem] theorem seqK_normal (y : MC) : seqK P y K .normal S = ev P y S K := (rfl)
@[go_sem] theorem seqK_exit (y : MC) (id : Nat) : seqK P y K (.exit id) S = K (.exit id) S := (rfl)
@[go_sem] theorem seqK_ret (y : MC) : seqK P y K .ret S = K .ret S := (rfl)
@[go_sem] theorem blockK_normal (id : Nat) : blockK id K .normal S = K .normal S := (rfl)
@[go_sem] theorem blockK_exit (id id' : Nat) : blockK id K (.exit id') S = if id' = id then K .normal S else K (.exit id') S := (rfl)
@[go_sem] theorem blockK_ret (id : Nat) : blockK id K .ret S = K .ret S := (rfl)
@[go_sem] theorem loopK_normal (I : St → Nat → Prop) (n : Nat) : loopK I n K .normal S = ∃ k, k < n ∧ I S k := (rfl)
@[go_sem] theorem loopK_exit (I : St → Nat → Prop) (n id : Nat) : loopK I n K (.exit id) S = K (.exit id) S := (rfl)
@[go_sem] theorem loopK_ret (I : St → Nat → Prop) (n : Nat) : loopK I n K .ret S = K .ret S := (rfl)

@[go_sem] theorem ev_skip : ev P .skip S K = K .normal S := (rfl)
@[go_sem] theorem ev_reg (ms : List MO) : ev P (.reg ms) S K = evOps P ms S (K .normal) := (rfl)
@[go_sem] theorem ev_dreg (q : Nat) (ms : List MO) : ev P (.dreg q ms) S K = evDraw P q ms S (K .normal) := (rfl)
@[go_sem] theorem ev_seq (x y : MC) : ev P (.seq x y) S K = ev P x S (seqK P y K) := by
  rw [ev]; congr 1; funext e S; cases e <;> rfl
@[go_sem] theorem ev_block (id : Nat) (x : MC) : ev P (.block id x) S K = ev P x S (blockK id K) := by
  rw [ev]; congr 1; funext e S; cases e <;> rfl
@[go_sem] theorem ev_exit (id : Nat) : ev P (.exit id) S K = K (.exit id) S := (rfl)
@[go_sem] theorem ev_ret : ev P .ret S K = K .ret S := (rfl)
@[go_sem] theorem ev_trim (ts os : List Nat) (gs : List Tag) (x : MC) : ev P (.trim ts os gs x) S K = ev P x (S.trim ts os gs) K := (rfl)
@[go_sem] theorem ev_fz (ts : List Nat) (x : MC) : ev P (.fz ts x) S K = match S.fz ts with | some S' => ev P x S' K | none => False := (rfl)
def fzP (P : Program) (o : Option St) (x : MC) (K : Ex → St → Prop) : Prop := match o with | some S' => ev P x S' K | none => False
@[go_sem] theorem fzP_some (S' : St) (x : MC) : fzP P (some S') x K = ev P x S' K := (rfl)
@[go_sem] theorem ev_fzb (o : Nat) (x : MC) : ev P (.fzb o x) S K = fzP P (S.fzB o) x K := (rfl)
def condP (o : Option D) (a b : Prop) : Prop := match o with | some (.val (.bool t)) => (t = true → a) ∧ (t = false → b) | _ => False
theorem condP_some (t : Bool) (a b : Prop) : condP (some (.val (.bool t))) a b = ((t = true → a) ∧ (t = false → b)) := rfl
def condE (P : Program) (o : Option D) (x y : MC) (S : St) (K : Ex → St → Prop) : Prop := condP o (ev P x S K) (ev P y S K)
@[go_sem] theorem ev_cond (c : Operand) (x y : MC) : ev P (.cond c x y) S K = condE P (look S c) x y S K := (rfl)
@[go_sem] theorem condE_t (x y : MC) : condE P (some (.val (.bool true))) x y S K = ev P x S K := by simp [condE, condP]
@[go_sem] theorem condE_f (x y : MC) : condE P (some (.val (.bool false))) x y S K = ev P y S K := by simp [condE, condP]
theorem condE_split {t : Bool} {x y : MC} (h1 : t = true → ev P x S K) (h2 : t = false → ev P y S K) : condE P (some (.val (.bool t))) x y S K := ⟨h1, h2⟩

/-- A loop, by what holds at its head. -/
theorem ev_loop_by {x : MC} (I : St → Nat → Prop) (n : Nat) (h0 : I S n) (h : ∀ n S, I S n → ev P x S (loopK I n K)) : ev P (.loop x) S K :=
  ev_loop I (fun n S hI => ev_mono x S _ _ (fun e S' h => by cases e <;> exact h) (h n S hI)) n S h0

/-! ### operations -/
@[go_sem] theorem evOps_nil : evOps P [] S J = J S := (rfl)
def wantP (o : Option Bool) (a b : Prop) : Prop := match o with | some true => a | some false => b | none => False
@[go_sem] theorem wantP_true (a b : Prop) : wantP (some true) a b = a := (rfl)
@[go_sem] theorem wantP_false (a b : Prop) : wantP (some false) a b = b := (rfl)
theorem wantP_bool (t c : Bool) (a b : Prop) : wantP (some (t == c)) a b = ((t = c → a) ∧ (t = (!c) → b)) := by
  cases t <;> cases c <;> simp [wantP]
def opsK (P : Program) (ms : List MO) (J : St → Prop) : St → Prop := fun S => evOps P ms S J
@[go_sem] theorem opsK_at (ms : List MO) : opsK P ms J S = evOps P ms S J := (rfl)
theorem evOps_cons0 (d : Option Nat) (m : MOp) (gd : Option (Nat × Bool)) (ms : List MO) : evOps P (⟨d, m, gd⟩ :: ms) S J = wantP (want S gd) (vstep P m d S (opsK P ms J)) (opsK P ms J (S.put d (.val undef))) := by
  simp only [evOps]
  cases want S gd with
  | none => rfl
  | some c => cases c <;> rfl
@[go_sem] theorem evOps_plain (d : Option Nat) (m : MOp) (ms : List MO) : evOps P (⟨d, m, none⟩ :: ms) S J = vstep P m d S (opsK P ms J) := by
  rw [evOps_cons0]; rfl
def guardO : Option D → Bool → Option Bool
  | some (.val (.bool c)), b => some (c == b)
  | some (.val (.tuple _)), _ => some false
  | _, _ => none
@[go_sem] theorem guardO_bool (c b : Bool) : guardO (some (.val (.bool c))) b = some (c == b) := (rfl)
@[go_sem] theorem guardO_undef (b : Bool) : guardO (some (.val undef)) b = some false := (rfl)
@[go_sem] theorem wantP_tt (a b : Prop) : wantP (some (true == true)) a b = a := (rfl)
@[go_sem] theorem wantP_ff (a b : Prop) : wantP (some (false == false)) a b = a := (rfl)
@[go_sem] theorem wantP_tf (a b : Prop) : wantP (some (true == false)) a b = b := (rfl)
@[go_sem] theorem wantP_ft (a b : Prop) : wantP (some (false == true)) a b = b := (rfl)
theorem wantP_split {t c : Bool} {a b : Prop} (h1 : t = true → wantP (some (true == c)) a b) (h2 : t = false → wantP (some (false == c)) a b) : wantP (some (t == c)) a b := by
  cases t
  · exact h2 rfl
  · exact h1 rfl
@[go_sem] theorem guardO_tuple (b : Bool) (vs : Array Value) : guardO (some (.val (.tuple vs))) b = some false := (rfl)
theorem want_guard (t : Nat) (b : Bool) : want S (some (t, b)) = guardO (S.get t) b := by
  simp only [want]
  cases S.get t with
  | none => rfl
  | some d => cases d with
    | val v => cases v <;> rfl
    | _ => rfl
def qstep (P : Program) (m : MOp) (dst : Option Nat) (S : St) (K : St → Prop) : Prop := ∃ d, QV P m S d ∧ K (S.put dst d)
def wantE (P : Program) (o : Option Bool) (m : MOp) (d : Option Nat) (S : St) (J : St → Prop) : Prop := wantP o (vstep P m d S J) (J (S.put d (.val undef)))
def wantQ (P : Program) (o : Option Bool) (m : MOp) (d : Option Nat) (S : St) (J : St → Prop) : Prop := wantP o (qstep P m d S J) (J (S.put d (.val undef)))
section
variable (m : MOp) (d : Option Nat)
@[go_sem] theorem wantE_t : wantE P (some true) m d S J = vstep P m d S J := (rfl)
@[go_sem] theorem wantE_f : wantE P (some false) m d S J = J (S.put d (.val undef)) := (rfl)
@[go_sem] theorem wantQ_t : wantQ P (some true) m d S J = qstep P m d S J := (rfl)
@[go_sem] theorem wantQ_f : wantQ P (some false) m d S J = J (S.put d (.val undef)) := (rfl)
@[go_sem] theorem wantE_tt : wantE P (some (true == true)) m d S J = vstep P m d S J := (rfl)
@[go_sem] theorem wantE_ff : wantE P (some (false == false)) m d S J = vstep P m d S J := (rfl)
@[go_sem] theorem wantE_tf : wantE P (some (true == false)) m d S J = J (S.put d (.val undef)) := (rfl)
@[go_sem] theorem wantE_ft : wantE P (some (false == true)) m d S J = J (S.put d (.val undef)) := (rfl)
@[go_sem] theorem wantQ_tt : wantQ P (some (true == true)) m d S J = qstep P m d S J := (rfl)
@[go_sem] theorem wantQ_ff : wantQ P (some (false == false)) m d S J = qstep P m d S J := (rfl)
@[go_sem] theorem wantQ_tf : wantQ P (some (true == false)) m d S J = J (S.put d (.val undef)) := (rfl)
@[go_sem] theorem wantQ_ft : wantQ P (some (false == true)) m d S J = J (S.put d (.val undef)) := (rfl)
end
theorem wantE_split {t c : Bool} {m : MOp} {d : Option Nat} (h1 : t = true → wantE P (some (true == c)) m d S J) (h2 : t = false → wantE P (some (false == c)) m d S J) : wantE P (some (t == c)) m d S J := by
  cases t
  · exact h2 rfl
  · exact h1 rfl
theorem wantQ_split {t c : Bool} {m : MOp} {d : Option Nat} (h1 : t = true → wantQ P (some (true == c)) m d S J) (h2 : t = false → wantQ P (some (false == c)) m d S J) : wantQ P (some (t == c)) m d S J := by
  cases t
  · exact h2 rfl
  · exact h1 rfl
@[go_sem] theorem evOps_guard (d : Option Nat) (m : MOp) (t : Nat) (b : Bool) (ms : List MO) : evOps P (⟨d, m, some (t, b)⟩ :: ms) S J = wantE P (guardO (S.get t) b) m d S (opsK P ms J) := by
  rw [evOps_cons0, want_guard]; rfl

@[go_sem] theorem evDraw_zero (ms : List MO) : evDraw P 0 ms S J = evOps P ms S J := by cases ms <;> rfl
def drawK (P : Program) (q : Nat) (ms : List MO) (J : St → Prop) : St → Prop := fun S => evDraw P q ms S J
@[go_sem] theorem drawK_at (q : Nat) (ms : List MO) : drawK P q ms J S = evDraw P q ms S J := (rfl)
@[go_sem] theorem evDraw_nil (q : Nat) : evDraw P q [] S J = J S := by cases q <;> rfl
theorem evDraw_cons0 (q : Nat) (d : Option Nat) (m : MOp) (gd : Option (Nat × Bool)) (ms : List MO) : evDraw P (q + 1) (⟨d, m, gd⟩ :: ms) S J = wantP (want S gd) (qstep P m d S (drawK P q ms J)) (drawK P q ms J (S.put d (.val undef))) := by
  simp only [evDraw]
  cases want S gd with
  | none => rfl
  | some c => cases c <;> rfl
@[go_sem] theorem evDraw_plain (q : Nat) (d : Option Nat) (m : MOp) (ms : List MO) : evDraw P (q + 1) (⟨d, m, none⟩ :: ms) S J = qstep P m d S (drawK P q ms J) := by
  rw [evDraw_cons0]; rfl
@[go_sem] theorem evDraw_guard (q : Nat) (d : Option Nat) (m : MOp) (t : Nat) (b : Bool) (ms : List MO) : evDraw P (q + 1) (⟨d, m, some (t, b)⟩ :: ms) S J = wantQ P (guardO (S.get t) b) m d S (drawK P q ms J) := by
  rw [evDraw_cons0, want_guard]; rfl

/-! #### rows that grow, boxes that are laid, in any order -/
def okS (os : List Nat) (ts : List Tag) (dst : Option Nat) (S : St) : Prop := match os, ts, dst with
  | [], [], _ => True
  | _, _, none => True
  | os, ts, some t => match S.get t with | some d => d.avoids (poL os) (ptL ts) = true | none => False
def okA (os : List Nat) (ts : List Tag) (o : Option D) : Prop := match o with | some d => d.avoids (poL os) (ptL ts) = true | none => False
@[go_sem] theorem okA_some (os : List Nat) (ts : List Tag) (d : D) : okA os ts (some d) = (d.avoids (poL os) (ptL ts) = true) := (rfl)
@[go_sem] theorem okS_nil (dst : Option Nat) : okS [] [] dst S = True := (rfl)
@[go_sem] theorem okS_none (os : List Nat) (ts : List Tag) : okS os ts none S = True := by cases os <;> cases ts <;> rfl
@[go_sem] theorem okS_o (o : Nat) (os : List Nat) (ts : List Tag) (t : Nat) : okS (o :: os) ts (some t) S = okA (o :: os) ts (S.get t) := (rfl)
@[go_sem] theorem okS_t (x : Tag) (ts : List Tag) (t : Nat) : okS [] (x :: ts) (some t) S = okA [] (x :: ts) (S.get t) := (rfl)
def d2Q (P : Program) (os : List Nat) (ts : List Tag) (dst : Option Nat) (r : List (MO × DK)) (J : St → Prop) : St → Prop := fun S => okS os ts dst S ∧ evQ P os ts r S J
def d2Qn (P : Program) (os : List Nat) (ts : List Tag) (r : List (MO × DK)) (J : St → Prop) : St → Prop := fun S => evQ P os ts r S J
def d2S (P : Program) (os : List Nat) (ts : List Tag) (dst : Option Nat) (r : List (MO × DK)) (J : St → Prop) : St → Prop := fun S => evS P os ts r (S.kd dst os) J
def d2K (P : Program) (k : DK) (r : List (MO × DK)) (J : St → Prop) : St → Prop := fun S => evK P k r S J
def d2S0 (P : Program) (os : List Nat) (ts : List Tag) (ms : List (MO × DK)) (J : St → Prop) : St → Prop := fun S => evS P os ts ms S J
@[go_sem] theorem d2Q_at (os : List Nat) (ts : List Tag) (dst : Option Nat) (r : List (MO × DK)) : d2Q P os ts dst r J S = (okS os ts dst S ∧ evQ P os ts r S J) := (rfl)
@[go_sem] theorem d2S_at (os : List Nat) (ts : List Tag) (dst : Option Nat) (r : List (MO × DK)) : d2S P os ts dst r J S = evS P os ts r (S.kd dst os) J := (rfl)
@[go_sem] theorem d2S0_at (os : List Nat) (ts : List Tag) (r : List (MO × DK)) : d2S0 P os ts r J S = evS P os ts r S J := (rfl)
@[go_sem] theorem d2K_at (k : DK) (r : List (MO × DK)) : d2K P k r J S = evK P k r S J := (rfl)
@[go_sem] theorem ev_dreg2 (ms : List (MO × DK)) : ev P (.dreg2 ms) S K = evQ P (osOf ms) (tsOf ms) ms (S.cut (osOf ms) (tsOf ms)) (d2S0 P (osOf ms) (tsOf ms) ms (d2K P .a ms (d2K P .h ms (K .normal)))) := (rfl)
section
variable (os : List Nat) (ts : List Tag) (d : Option Nat) (m : MO) (o : MOp) (r : List (MO × DK)) (t : Nat) (b : Bool)
@[go_sem] theorem osOf_nil : osOf [] = [] := (rfl)
@[go_sem] theorem osOf_q : osOf ((m, .q) :: r) = osOf r := (rfl)
@[go_sem] theorem osOf_s : osOf ((m, .s) :: r) = osOf r := (rfl)
@[go_sem] theorem osOf_h : osOf ((m, .h) :: r) = osOf r := (rfl)
@[go_sem] theorem osOf_a (gd : Option (Nat × Bool)) : osOf ((⟨some t, o, gd⟩, .a) :: r) = t :: osOf r := (rfl)
@[go_sem] theorem tsOf_nil : tsOf [] = [] := (rfl)
@[go_sem] theorem tsOf_q : tsOf ((m, .q) :: r) = tsOf r := (rfl)
@[go_sem] theorem tsOf_a : tsOf ((m, .a) :: r) = tsOf r := (rfl)
@[go_sem] theorem tsOf_h : tsOf ((m, .h) :: r) = tsOf r := (rfl)
@[go_sem] theorem tsOf_s : tsOf ((m, .s) :: r) = tagOf m ++ tsOf r := (rfl)
@[go_sem] theorem evQ_nil : evQ P os ts [] S J = J S := (rfl)
@[go_sem] theorem evQ_s : evQ P os ts ((m, .s) :: r) S J = evQ P os ts r S J := (rfl)
@[go_sem] theorem evQ_a : evQ P os ts ((m, .a) :: r) S J = evQ P os ts r S J := (rfl)
@[go_sem] theorem evQ_h : evQ P os ts ((m, .h) :: r) S J = evQ P os ts r S J := (rfl)
theorem okD_okS (d : Option Nat) (x : D) : okD os ts d x = okS os ts d (S.put d x) := by
  cases d with
  | none => cases os <;> cases ts <;> rfl
  | some t =>
    have : (S.put (some t) x).get t = some x := by simp [St.put, St.get, lkp]
    cases os <;> cases ts <;> simp only [okD, okS, this]
@[go_sem] theorem evQ_plain : evQ P os ts ((⟨d, o, none⟩, .q) :: r) S J = qstep P o d S (d2Q P os ts d r J) := by
  simp only [evQ, want, qstep, d2Q, okD_okS (S := S)]
def wantD (P : Program) (x : Option Bool) (o : MOp) (d : Option Nat) (S : St) (os : List Nat) (ts : List Tag) (r : List (MO × DK)) (J : St → Prop) : Prop := wantP x (qstep P o d S (d2Q P os ts d r J)) (evQ P os ts r (S.put d (.val undef)) J)
@[go_sem] theorem wantD_t : wantD P (some true) o d S os ts r J = qstep P o d S (d2Q P os ts d r J) := (rfl)
@[go_sem] theorem wantD_f : wantD P (some false) o d S os ts r J = evQ P os ts r (S.put d (.val undef)) J := (rfl)
@[go_sem] theorem wantD_tt : wantD P (some (true == true)) o d S os ts r J = qstep P o d S (d2Q P os ts d r J) := (rfl)
@[go_sem] theorem wantD_ff : wantD P (some (false == false)) o d S os ts r J = qstep P o d S (d2Q P os ts d r J) := (rfl)
@[go_sem] theorem wantD_tf : wantD P (some (true == false)) o d S os ts r J = evQ P os ts r (S.put d (.val undef)) J := (rfl)
@[go_sem] theorem wantD_ft : wantD P (some (false == true)) o d S os ts r J = evQ P os ts r (S.put d (.val undef)) J := (rfl)
@[go_sem] theorem evQ_guard : evQ P os ts ((⟨d, o, some (t, b)⟩, .q) :: r) S J = wantD P (guardO (S.get t) b) o d S os ts r J := by
  simp only [evQ, want_guard, qstep, d2Q, okD_okS (S := S), wantD]
  cases guardO (S.get t) b with
  | none => rfl
  | some c => cases c <;> rfl
@[go_sem] theorem evS_nil : evS P os ts [] S J = J S := (rfl)
@[go_sem] theorem evS_q : evS P os ts ((m, .q) :: r) S J = evS P os ts r S J := (rfl)
@[go_sem] theorem evS_a : evS P os ts ((m, .a) :: r) S J = evS P os ts r S J := (rfl)
@[go_sem] theorem evS_h : evS P os ts ((m, .h) :: r) S J = evS P os ts r S J := (rfl)
@[go_sem] theorem evS_plain : evS P os ts ((⟨d, o, none⟩, .s) :: r) S J = (softOk ts S o ∧ vstep P o d S (d2S P os ts d r J)) := (rfl)
def wantS (P : Program) (x : Option Bool) (o : MOp) (d : Option Nat) (S : St) (os : List Nat) (ts : List Tag) (r : List (MO × DK)) (J : St → Prop) : Prop := wantP x (softOk ts S o ∧ vstep P o d S (d2S P os ts d r J)) (evS P os ts r (S.put d (.val undef)) J)
@[go_sem] theorem wantS_t : wantS P (some true) o d S os ts r J = (softOk ts S o ∧ vstep P o d S (d2S P os ts d r J)) := (rfl)
@[go_sem] theorem wantS_f : wantS P (some false) o d S os ts r J = evS P os ts r (S.put d (.val undef)) J := (rfl)
@[go_sem] theorem wantS_tt : wantS P (some (true == true)) o d S os ts r J = (softOk ts S o ∧ vstep P o d S (d2S P os ts d r J)) := (rfl)
@[go_sem] theorem wantS_ff : wantS P (some (false == false)) o d S os ts r J = (softOk ts S o ∧ vstep P o d S (d2S P os ts d r J)) := (rfl)
@[go_sem] theorem wantS_tf : wantS P (some (true == false)) o d S os ts r J = evS P os ts r (S.put d (.val undef)) J := (rfl)
@[go_sem] theorem wantS_ft : wantS P (some (false == true)) o d S os ts r J = evS P os ts r (S.put d (.val undef)) J := (rfl)
@[go_sem] theorem evS_guard : evS P os ts ((⟨d, o, some (t, b)⟩, .s) :: r) S J = wantS P (guardO (S.get t) b) o d S os ts r J := by
  simp only [evS, want_guard, wantS]
  cases guardO (S.get t) b with
  | none => rfl
  | some c => cases c <;> rfl
@[go_sem] theorem evK_nil (k : DK) : evK P k [] S J = J S := (rfl)
@[go_sem] theorem evK_aa : evK P .a ((⟨d, o, none⟩, .a) :: r) S J = vstep P o d S (d2K P .a r J) := (rfl)
@[go_sem] theorem evK_hh : evK P .h ((⟨d, o, none⟩, .h) :: r) S J = vstep P o d S (d2K P .h r J) := (rfl)
@[go_sem] theorem evK_hhg : evK P .h ((⟨d, o, some (t, b)⟩, .h) :: r) S J = wantE P (guardO (S.get t) b) o d S (d2K P .h r J) := by
  simp only [evK, if_true, want_guard, wantE, d2K]
  cases guardO (S.get t) b with
  | none => rfl
  | some c => cases c <;> rfl
@[go_sem] theorem evK_aq : evK P .a ((m, .q) :: r) S J = evK P .a r S J := (rfl)
@[go_sem] theorem evK_as : evK P .a ((m, .s) :: r) S J = evK P .a r S J := (rfl)
@[go_sem] theorem evK_ah : evK P .a ((m, .h) :: r) S J = evK P .a r S J := (rfl)
@[go_sem] theorem evK_hq : evK P .h ((m, .q) :: r) S J = evK P .h r S J := (rfl)
@[go_sem] theorem evK_hs : evK P .h ((m, .s) :: r) S J = evK P .h r S J := (rfl)
@[go_sem] theorem evK_ha : evK P .h ((m, .a) :: r) S J = evK P .h r S J := (rfl)
end
theorem wantD_split {x c : Bool} {o : MOp} {d : Option Nat} {os : List Nat} {ts : List Tag} {r : List (MO × DK)} (h1 : x = true → wantD P (some (true == c)) o d S os ts r J) (h2 : x = false → wantD P (some (false == c)) o d S os ts r J) : wantD P (some (x == c)) o d S os ts r J := by
  cases x
  · exact h2 rfl
  · exact h1 rfl
theorem wantS_split {x c : Bool} {o : MOp} {d : Option Nat} {os : List Nat} {ts : List Tag} {r : List (MO × DK)} (h1 : x = true → wantS P (some (true == c)) o d S os ts r J) (h2 : x = false → wantS P (some (false == c)) o d S os ts r J) : wantS P (some (x == c)) o d S os ts r J := by
  cases x
  · exact h2 rfl
  · exact h1 rfl
attribute [go_sem] tagOf softOk
@[go_sem] theorem poL_nil (o : Nat) : poL [] o = true := (rfl)
@[go_sem] theorem poL_cons (o o' : Nat) (os : List Nat) : poL (o' :: os) o = (decide (o ≠ o') && poL os o) := by
  simp only [poL, List.contains_cons, Bool.not_or]
  congr 1
  by_cases h : o = o' <;> simp [h]
@[go_sem] theorem ptL_nil (o : Tag) : ptL [] o = true := (rfl)
@[go_sem] theorem ptL_cons (o o' : Tag) (os : List Tag) : ptL (o' :: os) o = (decide (o ≠ o') && ptL os o) := by
  simp only [ptL, List.contains_cons, Bool.not_or]
  congr 1
  by_cases h : o = o' <;> simp [h]
def cutH (os : List Nat) (l : List (Nat × List D)) : List (Nat × List D) := l.filter fun y => poL os y.1
def cutG (ts : List Tag) (l : List (Tag × Bool)) : List (Tag × Bool) := l.filter fun y => ptL ts y.1
@[go_sem] theorem cutH_nil (os : List Nat) : cutH os [] = [] := (rfl)
@[go_sem] theorem cutH_cons (os : List Nat) (o : Nat) (cs : List D) (l : List (Nat × List D)) : cutH os ((o, cs) :: l) = if poL os o = true then (o, cs) :: cutH os l else cutH os l := by
  simp only [cutH, List.filter_cons]
@[go_sem] theorem cutG_nil (ts : List Tag) : cutG ts [] = [] := (rfl)
@[go_sem] theorem cutG_cons (ts : List Tag) (o : Tag) (x : Bool) (l : List (Tag × Bool)) : cutG ts ((o, x) :: l) = if ptL ts o = true then (o, x) :: cutG ts l else cutG ts l := by
  simp only [cutG, List.filter_cons]
@[go_sem] theorem cut_nil (S : St) : S.cut [] [] = S := (rfl)
@[go_sem] theorem kd_nil (S : St) (dst : Option Nat) : S.kd dst [] = S := (rfl)
@[go_sem] theorem kd_none (S : St) (os : List Nat) : S.kd none os = S := by cases os <;> rfl
def kdO (S : St) (t : Nat) (os : List Nat) (o : Option D) : St := match o with | some d => S.put (some t) (d.keep (poL os) fun _ => true) | none => S
@[go_sem] theorem kdO_some (S : St) (t : Nat) (os : List Nat) (d : D) : kdO S t os (some d) = S.put (some t) (d.keep (poL os) fun _ => true) := (rfl)
@[go_sem] theorem kd_cons (S : St) (t o : Nat) (os : List Nat) : S.kd (some t) (o :: os) = kdO S t (o :: os) (S.get t) := (rfl)

/-- What is answered goes on. -/
def onD (o : Option D) (dst : Option Nat) (S : St) (J : St → Prop) : Prop := match o with | some d => J (S.put dst d) | none => False
@[go_sem] theorem onD_some (d : D) (dst : Option Nat) : onD (some d) dst S J = J (S.put dst d) := (rfl)
theorem vstep_pop {m : MOp} (dst : Option Nat) (h : vstep P m dst S J = (match pop S m with | some d => J (S.put dst d) | none => False)) : vstep P m dst S J = onD (pop S m) dst S J := by rw [h]; rfl
theorem qstep_pop {m : MOp} (dst : Option Nat) (h : ∀ d, QV P m S d = (pop S m = some d)) : qstep P m dst S J = onD (pop S m) dst S J := by
  unfold qstep onD
  simp only [h]
  cases hp : pop S m with
  | none => simp
  | some d => simp

section
variable (dst : Option Nat) (x y z : Operand)
@[go_sem] theorem v_mov : vstep P (.mov x) dst S J = onD (look S x) dst S J := (rfl)
@[go_sem] theorem v_movS : vstep P (.movS x) dst S J = onD (pop S (.movS x)) dst S J := (rfl)
@[go_sem] theorem v_pick : vstep P (.pick x y z) dst S J = onD (pop S (.pick x y z)) dst S J := (rfl)
@[go_sem] theorem v_load (sz : Option Nat) : vstep P (.load sz x) dst S J = onD (pop S (.load sz x)) dst S J := (rfl)
@[go_sem] theorem v_bin (o : BinOp) : vstep P (.bin o x y) dst S J = onD (pop S (.bin o x y)) dst S J := (rfl)
@[go_sem] theorem v_binB (n : Bool) : vstep P (.binB n x y) dst S J = onD (pop S (.binB n x y)) dst S J := (rfl)
@[go_sem] theorem v_binP (n : Bool) : vstep P (.binP n x y) dst S J = onD (pop S (.binP n x y)) dst S J := (rfl)
@[go_sem] theorem v_eqs (n : Bool) (ks : List SK) : vstep P (.eqs n ks x y) dst S J = onD (pop S (.eqs n ks x y)) dst S J := (rfl)
@[go_sem] theorem v_un (o : UnOp) : vstep P (.un o x) dst S J = onD (pop S (.un o x)) dst S J := (rfl)
@[go_sem] theorem v_conv (k : IntKind) : vstep P (.conv k x) dst S J = onD (pop S (.conv k x)) dst S J := (rfl)
@[go_sem] theorem v_faddr (n : Nat) : vstep P (.faddr n x) dst S J = onD (pop S (.faddr n x)) dst S J := (rfl)
@[go_sem] theorem v_fld (n : Nat) (sz : Option Nat) : vstep P (.fld n sz x) dst S J = onD (pop S (.fld n sz x)) dst S J := (rfl)
@[go_sem] theorem v_iaddrS (n : Nat) : vstep P (.iaddrS n x y) dst S J = onD (pop S (.iaddrS n x y)) dst S J := (rfl)
@[go_sem] theorem v_iaddrA (n m : Nat) : vstep P (.iaddrA n m x y) dst S J = onD (pop S (.iaddrA n m x y)) dst S J := (rfl)
@[go_sem] theorem v_idxA (n m : Nat) (b : Bool) : vstep P (.idxA n m b x y) dst S J = onD (pop S (.idxA n m b x y)) dst S J := (rfl)
@[go_sem] theorem v_idxS : vstep P (.idxS x y) dst S J = onD (pop S (.idxS x y)) dst S J := (rfl)
@[go_sem] theorem v_build (zs : List D) (ps : List (Nat × Nat × Operand)) : vstep P (.build zs ps) dst S J = onD (pop S (.build zs ps)) dst S J := (rfl)
@[go_sem] theorem v_slcS (lo hi : Option Operand) : vstep P (.slcS x lo hi) dst S J = onD (pop S (.slcS x lo hi)) dst S J := (rfl)
@[go_sem] theorem v_slc (sz : Nat) (lo hi : Option Operand) : vstep P (.slc sz x lo hi) dst S J = onD (pop S (.slc sz x lo hi)) dst S J := (rfl)
@[go_sem] theorem v_lenS : vstep P (.lenS x) dst S J = onD (pop S (.lenS x)) dst S J := (rfl)
@[go_sem] theorem v_lenL : vstep P (.lenL x) dst S J = onD (pop S (.lenL x)) dst S J := (rfl)
@[go_sem] theorem v_minmax (b : Bool) (xs : List Operand) : vstep P (.minmax b xs) dst S J = onD (pop S (.minmax b xs)) dst S J := (rfl)
@[go_sem] theorem v_ext (i : Nat) : vstep P (.ext x i) dst S J = onD (pop S (.ext x i)) dst S J := (rfl)
@[go_sem] theorem v_mkfn (f : FuncId) (a b : List Operand) : vstep P (.mkfn f a b) dst S J = onD (pop S (.mkfn f a b)) dst S J := (rfl)
@[go_sem] theorem v_nilck : vstep P (.nilck x) dst S J = onD (pop S (.nilck x)) dst S J := (rfl)
@[go_sem] theorem v_b2s : vstep P (.b2s x) dst S J = onD (pop S (.b2s x)) dst S J := (rfl)
@[go_sem] theorem q_b2s : qstep P (.b2s x) dst S J = onD (pop S (.b2s x)) dst S J := qstep_pop dst fun _ => rfl
@[go_sem] theorem q_mov : qstep P (.mov x) dst S J = onD (look S x) dst S J := qstep_pop (m := .mov x) dst fun _ => rfl
@[go_sem] theorem q_movS : qstep P (.movS x) dst S J = onD (pop S (.movS x)) dst S J := qstep_pop dst fun _ => rfl
@[go_sem] theorem q_pick : qstep P (.pick x y z) dst S J = onD (pop S (.pick x y z)) dst S J := qstep_pop dst fun _ => rfl
@[go_sem] theorem q_load (sz : Option Nat) : qstep P (.load sz x) dst S J = onD (pop S (.load sz x)) dst S J := qstep_pop dst fun _ => rfl
@[go_sem] theorem q_bin (o : BinOp) : qstep P (.bin o x y) dst S J = onD (pop S (.bin o x y)) dst S J := qstep_pop dst fun _ => rfl
@[go_sem] theorem q_binB (n : Bool) : qstep P (.binB n x y) dst S J = onD (pop S (.binB n x y)) dst S J := qstep_pop dst fun _ => rfl
@[go_sem] theorem q_binP (n : Bool) : qstep P (.binP n x y) dst S J = onD (pop S (.binP n x y)) dst S J := qstep_pop dst fun _ => rfl
@[go_sem] theorem q_eqs (n : Bool) (ks : List SK) : qstep P (.eqs n ks x y) dst S J = onD (pop S (.eqs n ks x y)) dst S J := qstep_pop dst fun _ => rfl
@[go_sem] theorem q_un (o : UnOp) : qstep P (.un o x) dst S J = onD (pop S (.un o x)) dst S J := qstep_pop dst fun _ => rfl
@[go_sem] theorem q_conv (k : IntKind) : qstep P (.conv k x) dst S J = onD (pop S (.conv k x)) dst S J := qstep_pop dst fun _ => rfl
@[go_sem] theorem q_faddr (n : Nat) : qstep P (.faddr n x) dst S J = onD (pop S (.faddr n x)) dst S J := qstep_pop dst fun _ => rfl
@[go_sem] theorem q_fld (n : Nat) (sz : Option Nat) : qstep P (.fld n sz x) dst S J = onD (pop S (.fld n sz x)) dst S J := qstep_pop dst fun _ => rfl
@[go_sem] theorem q_iaddrS (n : Nat) : qstep P (.iaddrS n x y) dst S J = onD (pop S (.iaddrS n x y)) dst S J := qstep_pop dst fun _ => rfl
@[go_sem] theorem q_iaddrA (n m : Nat) : qstep P (.iaddrA n m x y) dst S J = onD (pop S (.iaddrA n m x y)) dst S J := qstep_pop dst fun _ => rfl
@[go_sem] theorem q_idxA (n m : Nat) (b : Bool) : qstep P (.idxA n m b x y) dst S J = onD (pop S (.idxA n m b x y)) dst S J := qstep_pop dst fun _ => rfl
@[go_sem] theorem q_idxS : qstep P (.idxS x y) dst S J = onD (pop S (.idxS x y)) dst S J := qstep_pop dst fun _ => rfl
@[go_sem] theorem q_build (zs : List D) (ps : List (Nat × Nat × Operand)) : qstep P (.build zs ps) dst S J = onD (pop S (.build zs ps)) dst S J := qstep_pop dst fun _ => rfl
@[go_sem] theorem q_slcS (lo hi : Option Operand) : qstep P (.slcS x lo hi) dst S J = onD (pop S (.slcS x lo hi)) dst S J := qstep_pop dst fun _ => rfl
@[go_sem] theorem q_slc (sz : Nat) (lo hi : Option Operand) : qstep P (.slc sz x lo hi) dst S J = onD (pop S (.slc sz x lo hi)) dst S J := qstep_pop dst fun _ => rfl
@[go_sem] theorem q_lenS : qstep P (.lenS x) dst S J = onD (pop S (.lenS x)) dst S J := qstep_pop dst fun _ => rfl
@[go_sem] theorem q_lenL : qstep P (.lenL x) dst S J = onD (pop S (.lenL x)) dst S J := qstep_pop dst fun _ => rfl
@[go_sem] theorem q_minmax (b : Bool) (xs : List Operand) : qstep P (.minmax b xs) dst S J = onD (pop S (.minmax b xs)) dst S J := qstep_pop dst fun _ => rfl
@[go_sem] theorem q_ext (i : Nat) : qstep P (.ext x i) dst S J = onD (pop S (.ext x i)) dst S J := qstep_pop dst fun _ => rfl
@[go_sem] theorem q_mkfn (f : FuncId) (a b : List Operand) : qstep P (.mkfn f a b) dst S J = onD (pop S (.mkfn f a b)) dst S J := qstep_pop dst fun _ => rfl
@[go_sem] theorem q_nilck : qstep P (.nilck x) dst S J = onD (pop S (.nilck x)) dst S J := qstep_pop dst fun _ => rfl
@[go_sem] theorem q_nilsl (e sz : Nat) : qstep P (.nilsl e sz) dst S J = J (S.put dst (.sl none [])) := by simp [qstep, QV]
end

/-! ### states -/
@[go_sem] theorem look_tmp (t : Nat) : look S (.tmp t) = S.get t := (rfl)
@[go_sem] theorem look_func (f : FuncId) : look S (.func f) = some (.fn f [] []) := (rfl)
@[go_sem] theorem look_int (k : IntKind) (n : Int) : look S (.const (.int k n)) = some (.val (.int k n)) := (rfl)
@[go_sem] theorem look_bool (b : Bool) : look S (.const (.bool b)) = some (.val (.bool b)) := (rfl)
@[go_sem] theorem look_string (b : ByteArray) : look S (.const (.string b)) = some (.val (.string b)) := (rfl)
@[go_sem] theorem look_ptr (b : Option Addr) : look S (.const (.pointer b)) = some (.val (.pointer b)) := (rfl)
@[go_sem] theorem look_nil : look S (.const (.slice none 0 0)) = some (.sl none []) := (rfl)
@[go_sem] theorem look_tuple (vs : Array Value) : look S (.const (.tuple vs)) = some (.val (.tuple vs)) := (rfl)
@[go_sem] theorem looks_nil : looks S [] = some [] := (rfl)
def consO (a : Option D) (b : Option (List D)) : Option (List D) := match a, b with | some d, some ds => some (d :: ds) | _, _ => none
@[go_sem] theorem consO_some (d : D) (ds : List D) : consO (some d) (some ds) = some (d :: ds) := (rfl)
@[go_sem] theorem looks_cons (x : Operand) (xs : List Operand) : looks S (x :: xs) = consO (look S x) (looks S xs) := (rfl)
@[go_sem] theorem get_mk (e : List (Nat × D)) (h : List (Nat × List D)) (g : List (Tag × Bool)) (t : Nat) : St.get ⟨e, h, g⟩ t = lkp t e := (rfl)
@[go_sem] theorem box_mk (e : List (Nat × D)) (h : List (Nat × List D)) (g : List (Tag × Bool)) (t : Nat) : St.box ⟨e, h, g⟩ t = lkp t h := (rfl)
@[go_sem] theorem tag_mk (e : List (Nat × D)) (h : List (Nat × List D)) (g : List (Tag × Bool)) (t : Tag) : St.tag ⟨e, h, g⟩ t = lkp t g := (rfl)
@[go_sem] theorem put_mk (e : List (Nat × D)) (h : List (Nat × List D)) (g : List (Tag × Bool)) (t : Nat) (d : D) : St.put ⟨e, h, g⟩ (some t) d = ⟨(t, d) :: e, h, g⟩ := (rfl)
@[go_sem] theorem put_none (d : D) : St.put S none d = S := (rfl)
@[go_sem] theorem lkp_nil {α β : Type} [DecidableEq α] (t : α) : lkp t ([] : List (α × β)) = none := (rfl)
@[go_sem] theorem lkp_cons {α β : Type} [DecidableEq α] (t k : α) (v : β) (l : List (α × β)) : lkp t ((k, v) :: l) = if t = k then some v else lkp t l := (rfl)
@[go_sem] theorem trim_mk (e : List (Nat × D)) (h : List (Nat × List D)) (g : List (Tag × Bool)) (ts os : List Nat) (gs : List Tag) : St.trim ⟨e, h, g⟩ ts os gs = ⟨pickL ts e, pickL os h, pickL gs g⟩ := (rfl)
@[go_sem] theorem pickL_nil {α β : Type} [DecidableEq α] (l : List (α × β)) : pickL [] l = [] := (rfl)
def pickC {α β : Type} (k : α) (o : Option β) (l : List (α × β)) : List (α × β) := match o with | some d => (k, d) :: l | none => l
@[go_sem] theorem pickC_some {α β : Type} (k : α) (d : β) (l : List (α × β)) : pickC k (some d) l = (k, d) :: l := (rfl)
@[go_sem] theorem pickC_none {α β : Type} (k : α) (l : List (α × β)) : pickC k none l = l := (rfl)
@[go_sem] theorem pickL_cons {α β : Type} [DecidableEq α] (k : α) (ks : List α) (l : List (α × β)) : pickL (k :: ks) l = pickC k (lkp k l) (pickL ks l) := by
  rw [pickL]; cases lkp k l <;> rfl
@[go_sem] theorem S0_mk (ds : List D) : S0 ds = ⟨num 0 ds, [], []⟩ := (rfl)
@[go_sem] theorem S1_mk (e sz : Nat) (es : List (List D)) (ds : List D) : S1 e sz es ds = ⟨(0, .sl (some (999999, e, sz)) es) :: num 1 ds, [], [((999999, e, sz), true)]⟩ := (rfl)
@[go_sem] theorem num_nil {α : Type} (n : Nat) : num n ([] : List α) = [] := (rfl)
@[go_sem] theorem num_cons {α : Type} (n : Nat) (x : α) (xs : List α) : num n (x :: xs) = (n, x) :: num (n + 1) xs := (rfl)

section
variable (po : Nat → Bool) (pt : Tag → Bool)
@[go_sem] theorem keep_val (v : Value) : D.keep po pt (.val v) = .val v := (rfl)
@[go_sem] theorem keep_undef : D.keep po pt .undef = .undef := (rfl)
@[go_sem] theorem keep_sl0 (es : List (List D)) : D.keep po pt (.sl none es) = .sl none es := (rfl)
@[go_sem] theorem keep_sl1 (t : Tag) (es : List (List D)) : D.keep po pt (.sl (some t) es) = if pt t then .sl (some t) es else .undef := (rfl)
@[go_sem] theorem keep_ptr (o k : Nat) : D.keep po pt (.ptr o k) = if po o then .ptr o k else .undef := (rfl)
@[go_sem] theorem keep_rp0 (cs : List D) (k : Nat) : D.keep po pt (.rp none cs k) = .rp none cs k := (rfl)
@[go_sem] theorem keep_rp1 (t : Tag) (i : Nat) (cs : List D) (k : Nat) : D.keep po pt (.rp (some (t, i)) cs k) = if pt t then .rp (some (t, i)) cs k else .undef := (rfl)
@[go_sem] theorem keep_fn (f : FuncId) (a b : List D) : D.keep po pt (.fn f a b) = if D.avoids.avoidsL po pt a && D.avoids.avoidsL po pt b then .fn f a b else .undef := (rfl)
@[go_sem] theorem keep_agg (ds : List D) : D.keep po pt (.agg ds) = if D.avoids.avoidsL po pt ds then .agg ds else .undef := (rfl)
@[go_sem] theorem keep_tup (ds : List D) : D.keep po pt (.tup ds) = if D.avoids.avoidsL po pt ds then .tup ds else .undef := (rfl)
@[go_sem] theorem avL_nil : D.avoids.avoidsL po pt [] = true := (rfl)
@[go_sem] theorem avL_cons (d : D) (ds : List D) : D.avoids.avoidsL po pt (d :: ds) = (d.avoids po pt && D.avoids.avoidsL po pt ds) := (rfl)
@[go_sem] theorem av_val (v : Value) : D.avoids po pt (.val v) = true := (rfl)
@[go_sem] theorem av_undef : D.avoids po pt .undef = true := (rfl)
@[go_sem] theorem av_sl0 (es : List (List D)) : D.avoids po pt (.sl none es) = true := (rfl)
@[go_sem] theorem av_sl1 (t : Tag) (es : List (List D)) : D.avoids po pt (.sl (some t) es) = pt t := (rfl)
@[go_sem] theorem av_ptr (o k : Nat) : D.avoids po pt (.ptr o k) = po o := (rfl)
@[go_sem] theorem av_rp0 (cs : List D) (k : Nat) : D.avoids po pt (.rp none cs k) = true := (rfl)
@[go_sem] theorem av_rp1 (t : Tag) (i : Nat) (cs : List D) (k : Nat) : D.avoids po pt (.rp (some (t, i)) cs k) = pt t := (rfl)
@[go_sem] theorem av_fn (f : FuncId) (a b : List D) : D.avoids po pt (.fn f a b) = (D.avoids.avoidsL po pt a && D.avoids.avoidsL po pt b) := (rfl)
@[go_sem] theorem av_agg (ds : List D) : D.avoids po pt (.agg ds) = D.avoids.avoidsL po pt ds := (rfl)
@[go_sem] theorem av_tup (ds : List D) : D.avoids po pt (.tup ds) = D.avoids.avoidsL po pt ds := (rfl)
end
def onlyE (po : Nat → Bool) (pt : Tag → Bool) (l : List (Nat × D)) : List (Nat × D) := l.map fun x => (x.1, x.2.keep po pt)
def onlyH (po : Nat → Bool) (pt : Tag → Bool) (l : List (Nat × List D)) : List (Nat × List D) := l.map fun x => (x.1, x.2.map (D.keep po pt))
def dropK {α β : Type} [DecidableEq α] (t : α) (l : List (α × β)) : List (α × β) := l.filter fun y => decide (y.1 ≠ t)
@[go_sem] theorem onlyE_nil (po : Nat → Bool) (pt : Tag → Bool) : onlyE po pt [] = [] := (rfl)
@[go_sem] theorem onlyE_cons (po : Nat → Bool) (pt : Tag → Bool) (t : Nat) (d : D) (l : List (Nat × D)) : onlyE po pt ((t, d) :: l) = (t, d.keep po pt) :: onlyE po pt l := (rfl)
@[go_sem] theorem onlyH_nil (po : Nat → Bool) (pt : Tag → Bool) : onlyH po pt [] = [] := (rfl)
@[go_sem] theorem onlyH_cons (po : Nat → Bool) (pt : Tag → Bool) (t : Nat) (d : List D) (l : List (Nat × List D)) : onlyH po pt ((t, d) :: l) = (t, d.map (D.keep po pt)) :: onlyH po pt l := (rfl)
@[go_sem] theorem dropK_nil {α β : Type} [DecidableEq α] (t : α) : dropK t ([] : List (α × β)) = [] := (rfl)
@[go_sem] theorem dropK_cons {α β : Type} [DecidableEq α] (t k : α) (v : β) (l : List (α × β)) : dropK t ((k, v) :: l) = if k = t then dropK t l else (k, v) :: dropK t l := by
  by_cases h : k = t
  · simp [dropK, h]
  · simp [dropK, h]
@[go_sem] theorem only_mk (e : List (Nat × D)) (h : List (Nat × List D)) (g : List (Tag × Bool)) (po : Nat → Bool) (pt : Tag → Bool) : St.only ⟨e, h, g⟩ po pt = ⟨onlyE po pt e, onlyH po pt h, g⟩ := (rfl)
@[go_sem] theorem newTag_mk (e : List (Nat × D)) (h : List (Nat × List D)) (g : List (Tag × Bool)) (t : Tag) (x : Bool) : St.newTag ⟨e, h, g⟩ t x = ⟨onlyE (fun _ => true) (fun y => decide (y ≠ t)) e, onlyH (fun _ => true) (fun y => decide (y ≠ t)) h, (t, x) :: dropK t g⟩ := (rfl)
@[go_sem] theorem newBox_mk (e : List (Nat × D)) (h : List (Nat × List D)) (g : List (Tag × Bool)) (o : Nat) (cs : List D) : St.newBox ⟨e, h, g⟩ o cs = ⟨onlyE (fun y => decide (y ≠ o)) (fun _ => true) e, (o, cs) :: dropK o (onlyH (fun y => decide (y ≠ o)) (fun _ => true) h), g⟩ := (rfl)

@[go_sem] theorem cut_o (e : List (Nat × D)) (h : List (Nat × List D)) (g : List (Tag × Bool)) (o : Nat) (os : List Nat) (ts : List Tag) : St.cut ⟨e, h, g⟩ (o :: os) ts = ⟨onlyE (poL (o :: os)) (ptL ts) e, onlyH (poL (o :: os)) (ptL ts) (cutH (o :: os) h), cutG ts g⟩ := (rfl)
@[go_sem] theorem cut_t (e : List (Nat × D)) (h : List (Nat × List D)) (g : List (Tag × Bool)) (x : Tag) (ts : List Tag) : St.cut ⟨e, h, g⟩ [] (x :: ts) = ⟨onlyE (poL []) (ptL (x :: ts)) e, onlyH (poL []) (ptL (x :: ts)) (cutH [] h), cutG (x :: ts) g⟩ := (rfl)

end Go.Vm

namespace Go.Vm
open Go.RowKit
variable {P : Program} {S : St} {K : Ex → St → Prop} {J : St → Prop}

attribute [go_sem] pop b2sD bytesOfD loadD cut faddrD iaddrSD iaddrAD idxAD lenSD lenLD extD nilckD binD binI binS binBD binPD eqV eqDs unD shI minmaxD max2D D.cl D.one St.live slcSD slcD boundD idxSD fin finF finT resD oneD D.frz frzL D.tags tagsL fillD

theorem putCells_go {α : Type} (vs : List α) : ∀ (cs : List α) (off k : Nat), (vs.zipIdx k).foldl (fun cs x => cs.set (off + x.2) x.1) cs = (vs.zipIdx 0).foldl (fun cs x => cs.set (off + k + x.2) x.1) cs := by
  induction vs with
  | nil => intro cs off k; rfl
  | cons v vs ih =>
    intro cs off k
    simp only [List.zipIdx_cons, List.foldl_cons, Nat.add_zero, Nat.zero_add]
    rw [ih _ off (k + 1), ih _ (off + k) 1]
    simp only [Nat.add_assoc]
@[go_sem] theorem putCells_nil {α : Type} (cs : List α) (off : Nat) : putCells cs off [] = cs := (rfl)
@[go_sem] theorem putCells_cons {α : Type} (cs : List α) (off : Nat) (v : α) (vs : List α) : putCells cs off (v :: vs) = putCells (cs.set off v) (off + 1) vs := by
  simp only [putCells, List.zipIdx_cons, List.foldl_cons, Nat.add_zero, Nat.zero_add]
  exact putCells_go vs _ off 1

def stO (o : Option (List D)) (f : List D → Prop) : Prop := match o with | some ds => f ds | none => False
@[go_sem] theorem stO_some (ds : List D) (f : List D → Prop) : stO (some ds) f = f ds := (rfl)
def clO (o : Option D) : Option (List D) := match o with | some d => d.cl | none => none
@[go_sem] theorem clO_some (d : D) : clO (some d) = d.cl := (rfl)

@[go_sem] theorem v_nilsl (e sz d : Nat) : vstep P (.nilsl e sz) (some d) S J = J ((S.newTag (d, e, sz) true).put (some d) (.sl (some (d, e, sz)) [])) := (rfl)
@[go_sem] theorem v_alloc (t : TypeId) (z : List D) (d : Nat) : vstep P (.alloc t z) (some d) S J = J ((S.newBox d (z.map (D.keep (fun y => decide (y ≠ d)) fun _ => true))).put (some d) (.ptr d 0)) := (rfl)
@[go_sem] theorem v_box (t : TypeId) (sz d : Nat) (x : Operand) : vstep P (.box t sz x) (some d) S J = stO (clO (look S x)) fun ds => ds.length = sz ∧ J ((S.newBox d (ds.map (D.keep (fun y => decide (y ≠ d)) fun _ => true))).put (some d) (.ptr d 0)) := by
  simp only [vstep]
  cases look S x with
  | none => rfl
  | some v => simp only [clO]; cases v.cl <;> rfl

def storeP (S : St) (sz : Nat) (p : Option D) (v : Option (List D)) (J : St → Prop) : Prop :=
  match p, v with
  | some (.ptr o off), some ds => match S.box o with
    | some cs => ds.length = sz ∧ off + sz ≤ cs.length ∧ J (S.setBox o (putCells cs off ds))
    | none => False
  | some (.rp (some (t, i)) cs off), some ds => match frzL ds with
    | some fs => S.tag t = some true ∧ ds.length = sz ∧ off + sz ≤ cs.length ∧ (tagsL ds).all (fun t' => (S.tag t').isSome && decide (t' ≠ t)) = true ∧ J ((S.share (tagsL ds)).upd t i off fs)
    | none => False
  | _, _ => False
@[go_sem] theorem v_store (sz : Nat) (x v : Operand) (dst : Option Nat) : vstep P (.store sz x v) dst S J = storeP S sz (look S x) (clO (look S v)) J := by
  simp only [vstep, storeP]
  cases look S x with
  | none => rfl
  | some p =>
    cases look S v with
    | none => cases p <;> (try rfl); rename_i own _ _; cases own <;> rfl
    | some d =>
      simp only [clO]
      cases p with
      | ptr o off => cases hb : S.box o <;> cases hd : d.cl <;> simp only [hd, hb]
      | rp own cs off =>
        cases own with
        | none => cases d.cl <;> rfl
        | some x => cases hd : d.cl <;> simp only [hd]; cases frzL _ <;> rfl
      | _ => cases d.cl <;> rfl
@[go_sem] theorem storeP_ptr (sz o off : Nat) (ds : List D) (e : List (Nat × D)) (h : List (Nat × List D)) (g : List (Tag × Bool)) : storeP ⟨e, h, g⟩ sz (some (.ptr o off)) (some ds) J = stO (lkp o h) fun cs => ds.length = sz ∧ off + sz ≤ cs.length ∧ J (St.setBox ⟨e, h, g⟩ o (putCells cs off ds)) := by
  simp only [storeP, box_mk]
  cases lkp o h <;> rfl
@[go_sem] theorem storeP_rp (sz i off : Nat) (t : Tag) (ds cs : List D) : storeP S sz (some (.rp (some (t, i)) cs off)) (some ds) J = stO (frzL ds) fun fs => S.tag t = some true ∧ ds.length = sz ∧ off + sz ≤ cs.length ∧ (tagsL ds).all (fun t' => (S.tag t').isSome && decide (t' ≠ t)) = true ∧ J ((S.share (tagsL ds)).upd t i off fs) := by
  simp only [storeP]
  cases frzL ds <;> rfl

def bsliceP (S : St) (d e sz len : Nat) (cs : Option (List D)) (J : St → Prop) : Prop :=
  match cs with
  | some cs => match frzL cs with
    | some fs => (tagsL cs).all (fun t => (S.tag t).isSome) = true ∧ fs.all D.one = true ∧ J (((S.share (tagsL cs)).newTag (d, e, sz) true).put (some d) (.sl (some (d, e, sz)) (chunk sz len fs)))
    | none => False
  | none => False
@[go_sem] theorem v_bslice (e sz len d : Nat) (z : List D) (ps : List (Nat × Nat × Operand)) : vstep P (.bslice e sz z len ps) (some d) S J = bsliceP S d e sz len (fillD S (rept z len) ps) J := by
  simp only [vstep, bsliceP]
  cases fillD S (rept z len) ps <;> rfl
@[go_sem] theorem bsliceP_some (d e sz len : Nat) (cs : List D) : bsliceP S d e sz len (some cs) J = stO (frzL cs) fun fs => (tagsL cs).all (fun t => (S.tag t).isSome) = true ∧ fs.all D.one = true ∧ J (((S.share (tagsL cs)).newTag (d, e, sz) true).put (some d) (.sl (some (d, e, sz)) (chunk sz len fs))) := by
  simp only [bsliceP]
  cases frzL cs <;> rfl
def qbsliceP (S : St) (dst : Option Nat) (sz len : Nat) (cs : Option (List D)) (J : St → Prop) : Prop :=
  match cs with
  | some cs => match frzL cs with
    | some fs => tagsL cs = [] ∧ fs.all D.one = true ∧ J (S.put dst (.sl none (chunk sz len fs)))
    | none => False
  | none => False
@[go_sem] theorem q_bslice (e sz len : Nat) (dst : Option Nat) (z : List D) (ps : List (Nat × Nat × Operand)) : qstep P (.bslice e sz z len ps) dst S J = qbsliceP S dst sz len (fillD S (rept z len) ps) J := by
  simp only [qstep, QV, qbsliceP]
  cases fillD S (rept z len) ps with
  | none => simp
  | some cs =>
    cases hf : frzL cs with
    | none => simp [hf]
    | some fs =>
      apply propext
      constructor
      · rintro ⟨d, ⟨cs', fs', h1, h2, h3, h4, rfl⟩, h6⟩
        injection h1 with h1; subst h1
        rw [hf] at h2; injection h2 with h2; subst h2
        simp only [hf]
        exact ⟨h3, h4, h6⟩
      · intro h
        simp only [hf] at h
        exact ⟨_, ⟨cs, fs, rfl, hf, h.1, h.2.1, rfl⟩, h.2.2⟩
@[go_sem] theorem qbsliceP_some (dst : Option Nat) (sz len : Nat) (cs : List D) : qbsliceP S dst sz len (some cs) J = stO (frzL cs) fun fs => tagsL cs = [] ∧ fs.all D.one = true ∧ J (S.put dst (.sl none (chunk sz len fs))) := by
  simp only [qbsliceP]
  cases frzL cs <;> rfl

def appendP (S : St) (e sz bytes : Nat) (dst : Option Nat) (x y : Option D) (J : St → Prop) : Prop :=
  match x, y with
  | some (.sl (some t) es), some (.sl tag ys) => t.2 = (e, sz) ∧ Nat.ble t.1 999998 = true ∧ (S.tag t).isSome = true ∧ tag.all (fun t' => (S.tag t').isSome) = true ∧ (∀ e ∈ es, e.length = sz) ∧ (∀ y ∈ ys, y.length = sz) ∧ es.length + ys.length ≤ 140737488355328 ∧
        (es.length + ys.length) * bytes ≤ 140737488355328 ∧ J ((S.only (fun _ => true) (fun y => decide (y ≠ t))).put dst (.sl (some t) (es ++ ys)))
  | _, _ => False
@[go_sem] theorem v_append (e sz bytes : Nat) (dst : Option Nat) (x y : Operand) : vstep P (.append e sz bytes x y) dst S J = appendP S e sz bytes dst (look S x) (look S y) J := (rfl)
@[go_sem] theorem appendP_some (e sz bytes : Nat) (dst : Option Nat) (t : Tag) (tag : Option Tag) (es ys : List (List D)) : appendP S e sz bytes dst (some (.sl (some t) es)) (some (.sl tag ys)) J =
    (t.2 = (e, sz) ∧ Nat.ble t.1 999998 = true ∧ (S.tag t).isSome = true ∧ tag.all (fun t' => (S.tag t').isSome) = true ∧ (∀ e ∈ es, e.length = sz) ∧ (∀ y ∈ ys, y.length = sz) ∧ es.length + ys.length ≤ 140737488355328 ∧
        (es.length + ys.length) * bytes ≤ 140737488355328 ∧ J ((S.only (fun _ => true) (fun y => decide (y ≠ t))).put dst (.sl (some t) (es ++ ys)))) := rfl

def isnilP (S : St) (dst : Option Nat) (neg : Bool) (x : Option D) (J : St → Prop) : Prop :=
  match x with
  | some (.sl tag es) => tag.all (fun t => (S.tag t).isSome) = true ∧ ∀ b, (b = true → es = []) → J (S.put dst (.val (.bool (b != neg))))
  | _ => False
@[go_sem] theorem v_isnil (neg : Bool) (dst : Option Nat) (x : Operand) : vstep P (.isnil neg x) dst S J = isnilP S dst neg (look S x) J := (rfl)
@[go_sem] theorem isnilP_some (dst : Option Nat) (neg : Bool) (tag : Option Tag) (es : List (List D)) : isnilP S dst neg (some (.sl tag es)) J = (tag.all (fun t => (S.tag t).isSome) = true ∧ ∀ b, (b = true → es = []) → J (S.put dst (.val (.bool (b != neg))))) := (rfl)

/-! ### calls -/
def liveAll (S : St) (ds : List D) : Prop := (tagsL ds).all (fun t => (S.tag t).isSome) = true
def callP (P : Program) (S : St) (k : FuncId) (ds : List D) (dst : Option Nat) (J : St → Prop) : Prop :=
  stO (frzL ds) fun fs => liveAll S ds ∧ PureAt P k fs fun r => J ((S.share (tagsL ds)).put dst r)
def callF (P : Program) (S : St) (k : FuncId) (ds : List D) (d e sz : Nat) (J : St → Prop) : Prop :=
  stO (frzL ds) fun fs => liveAll S ds ∧ FreshAt P k fs e sz fun es => J (((S.share (tagsL ds)).newTag (d, e, sz) true).put (some d) (.sl (some (d, e, sz)) es))
def callT (P : Program) (S : St) (k : FuncId) (ds : List D) (dst : Option Nat) (J : St → Prop) : Prop :=
  match ds with
  | .sl (some t) es :: rest => stO (frzL rest) fun fs => S.tag t = some true ∧ (tagsL rest).all (fun t' => (S.tag t').isSome && decide (t' ≠ t)) = true ∧ MutAt P k t.2.1 t.2.2 es fs fun es' r => J (((S.share (tagsL rest)).remake t es').put dst r)
  | _ => False
def atFn (f : Option D) (as : Option (List D)) (c : FuncId → List D → Prop) : Prop :=
  match f, as with
  | some (.fn k first caps), some ds => c k (first ++ ds ++ caps)
  | _, _ => False
@[go_sem] theorem atFn_some (k : FuncId) (first caps ds : List D) (c : FuncId → List D → Prop) : atFn (some (.fn k first caps)) (some ds) c = c k (first ++ ds ++ caps) := (rfl)
@[go_sem] theorem v_call (f : Operand) (args : List Operand) (dst : Option Nat) : vstep P (.call f args .pure) dst S J = atFn (look S f) (looks S args) fun k ds => callP P S k ds dst J := by
  simp only [vstep, atFn]
  cases look S f with
  | none => rfl
  | some d =>
    cases d with
    | fn k first caps =>
      cases looks S args with
      | none => rfl
      | some ds =>
        simp only [callP, stO]
        cases frzL (first ++ ds ++ caps) <;> rfl
    | _ => rfl
@[go_sem] theorem v_callF (f : Operand) (args : List Operand) (d e sz : Nat) : vstep P (.call f args (.fresh e sz)) (some d) S J = atFn (look S f) (looks S args) fun k ds => callF P S k ds d e sz J := by
  simp only [vstep, atFn]
  cases look S f with
  | none => rfl
  | some d =>
    cases d with
    | fn k first caps =>
      cases looks S args with
      | none => rfl
      | some ds =>
        simp only [callF, stO]
        cases frzL (first ++ ds ++ caps) <;> rfl
    | _ => rfl
@[go_sem] theorem v_callT (f : Operand) (args : List Operand) (dst : Option Nat) : vstep P (.call f args .turn) dst S J = atFn (look S f) (looks S args) fun k ds => callT P S k ds dst J := by
  simp only [vstep, atFn]
  cases look S f with
  | none => rfl
  | some d =>
    cases d with
    | fn k first caps =>
      cases looks S args with
      | none => rfl
      | some ds =>
        simp only [callT]
        cases first ++ ds ++ caps with
        | nil => rfl
        | cons d0 rest =>
          cases d0 with
          | sl tag es =>
            cases tag with
            | none => rfl
            | some t => simp only [stO]; cases frzL rest <;> rfl
          | _ => rfl
    | _ => rfl
def callK (P : Program) (S : St) (k : FuncId) (ds : List D) (dst : Option Nat) (J : St → Prop) : Prop :=
  match ds with
  | .sl (some t) es :: rest => stO (frzL rest) fun fs => S.tag t = some true ∧ (tagsL rest).all (fun t' => (S.tag t').isSome && decide (t' ≠ t)) = true ∧ TakeAt P k t.2.1 t.2.2 es fs fun es' r => J ((((S.share (tagsL rest)).remake t es').share [t]).put dst r)
  | _ => False
def callL (P : Program) (S : St) (k : FuncId) (ds : List D) (dst : Option Nat) (J : St → Prop) : Prop :=
  stO (frzL ds) fun fs => liveAll S ds ∧ PureAt P k fs fun r => r.plain = true ∧ J (S.put dst r)
@[go_sem] theorem v_callL (f : Operand) (args : List Operand) (dst : Option Nat) : vstep P (.call f args .lend) dst S J = atFn (look S f) (looks S args) fun k ds => callL P S k ds dst J := by
  simp only [vstep, atFn]
  cases look S f with
  | none => rfl
  | some d =>
    cases d with
    | fn k first caps =>
      cases looks S args with
      | none => rfl
      | some ds =>
        simp only [callL, stO]
        cases frzL (first ++ ds ++ caps) <;> rfl
    | _ => rfl
@[go_sem] theorem v_callK (f : Operand) (args : List Operand) (dst : Option Nat) : vstep P (.call f args .take) dst S J = atFn (look S f) (looks S args) fun k ds => callK P S k ds dst J := by
  simp only [vstep, atFn]
  cases look S f with
  | none => rfl
  | some d =>
    cases d with
    | fn k first caps =>
      cases looks S args with
      | none => rfl
      | some ds =>
        simp only [callK]
        cases first ++ ds ++ caps with
        | nil => rfl
        | cons d0 rest =>
          cases d0 with
          | sl tag es =>
            cases tag with
            | none => rfl
            | some t => simp only [stO]; cases frzL rest <;> rfl
          | _ => rfl
    | _ => rfl
def callQ (P : Program) (S : St) (k : FuncId) (ds : List D) (dst : Option Nat) (J : St → Prop) : Prop :=
  stO (frzL ds) fun fs => tagsL ds = [] ∧ ∃ d, PureAt P k fs (fun r => r = d) ∧ J (S.put dst d)
@[go_sem] theorem q_call (f : Operand) (args : List Operand) (dst : Option Nat) : qstep P (.call f args .pure) dst S J = atFn (look S f) (looks S args) fun k ds => callQ P S k ds dst J := by
  simp only [qstep, QV, atFn]
  cases hf : look S f with
  | none => simp
  | some d =>
    cases d with
    | fn k first caps =>
      cases ha : looks S args with
      | none => simp
      | some ds =>
        simp only [callQ, stO]
        apply propext
        constructor
        · rintro ⟨d, ⟨_, k', first', caps', ds', fs, h1, h2, h3, h4, h5⟩, h6⟩
          injection h1 with h1; injection h1 with e1 e2 e3; subst e1; subst e2; subst e3
          injection h2 with h2; subst h2
          rw [h3]
          exact ⟨h4, d, h5, h6⟩
        · intro h
          split at h
          · rename_i fs hfs
            obtain ⟨h4, d, h5, h6⟩ := h
            exact ⟨d, ⟨trivial, k, first, caps, ds, fs, rfl, rfl, hfs, h4, h5⟩, h6⟩
          · exact h.elim
    | _ => simp

@[go_sem] theorem one_int (k : IntKind) (n : Int) : (Value.int k n).oneCell' = true := (rfl)
@[go_sem] theorem one_bool (b : Bool) : (Value.bool b).oneCell' = true := (rfl)
@[go_sem] theorem one_string (b : ByteArray) : (Value.string b).oneCell' = true := (rfl)
@[go_sem] theorem one_ptr (b : Option Addr) : (Value.pointer b).oneCell' = true := (rfl)
@[go_sem] theorem setBox_mk (e : List (Nat × D)) (h : List (Nat × List D)) (g : List (Tag × Bool)) (o : Nat) (cs : List D) : St.setBox ⟨e, h, g⟩ o cs = ⟨e, (o, cs) :: dropK o h, g⟩ := (rfl)
@[go_sem] theorem share_cons (e : List (Nat × D)) (h : List (Nat × List D)) (g : List (Tag × Bool)) (t : Tag) (ts : List Tag) : St.share ⟨e, h, g⟩ (t :: ts) = ⟨e, h, g.map fun y => (y.1, y.2 && !(t :: ts).contains y.1)⟩ := (rfl)
def updE (t : Tag) (i off : Nat) (ds : List D) (l : List (Nat × D)) : List (Nat × D) := l.map fun x => (x.1, x.2.upd t i off ds)
def updH (t : Tag) (i off : Nat) (ds : List D) (l : List (Nat × List D)) : List (Nat × List D) := l.map fun x => (x.1, x.2.map (D.upd t i off ds))
@[go_sem] theorem updE_nil (t : Tag) (i off : Nat) (ds : List D) : updE t i off ds [] = [] := (rfl)
@[go_sem] theorem updE_cons (t : Tag) (i off : Nat) (ds : List D) (k : Nat) (d : D) (l : List (Nat × D)) : updE t i off ds ((k, d) :: l) = (k, d.upd t i off ds) :: updE t i off ds l := (rfl)
@[go_sem] theorem updH_nil (t : Tag) (i off : Nat) (ds : List D) : updH t i off ds [] = [] := (rfl)
@[go_sem] theorem updH_cons (t : Tag) (i off : Nat) (ds : List D) (k : Nat) (d : List D) (l : List (Nat × List D)) : updH t i off ds ((k, d) :: l) = (k, d.map (D.upd t i off ds)) :: updH t i off ds l := (rfl)
@[go_sem] theorem upd_mk (e : List (Nat × D)) (h : List (Nat × List D)) (g : List (Tag × Bool)) (t : Tag) (i off : Nat) (ds : List D) : St.upd ⟨e, h, g⟩ t i off ds = ⟨updE t i off ds e, updH t i off ds h, g⟩ := (rfl)
def makeE (t : Tag) (es : List (List D)) (l : List (Nat × D)) : List (Nat × D) := l.map fun x => (x.1, x.2.remake t es)
@[go_sem] theorem makeE_nil (t : Tag) (es : List (List D)) : makeE t es [] = [] := (rfl)
@[go_sem] theorem makeE_cons (t : Tag) (es : List (List D)) (k : Nat) (d : D) (l : List (Nat × D)) : makeE t es ((k, d) :: l) = (k, d.remake t es) :: makeE t es l := (rfl)
@[go_sem] theorem remake_mk (e : List (Nat × D)) (h : List (Nat × List D)) (g : List (Tag × Bool)) (t : Tag) (es : List (List D)) : St.remake ⟨e, h, g⟩ t es = ⟨makeE t es e, onlyH (fun _ => true) (fun y => decide (y ≠ t)) h, (t, true) :: dropK t g⟩ := (rfl)
attribute [go_sem] updR_length Nat.ble_eq
attribute [go_sem] D.upd D.remake List.contains_cons List.contains_nil Bool.or_false

@[go_sem] theorem share_nil' (S : St) : S.share [] = S := share_nil S
attribute [go_sem] List.length_cons List.length_nil List.drop_zero List.take_zero List.drop_succ_cons List.take_succ_cons List.map_cons List.map_nil List.all_cons List.all_nil List.set_cons_zero List.set_cons_succ List.getElem?_cons_zero List.getElem?_cons_succ
  List.cons_append List.nil_append Bool.and_true Bool.true_and Bool.and_self Bool.and_false Bool.false_and Option.map_some Option.all_some Option.all_none Option.isSome_some ne_eq not_true_eq_false not_false_eq_true decide_true decide_false reduceIte true_and and_true Bool.false_eq_true forall_const false_implies reduceCtorEq Bool.not_true Bool.not_false true_implies Option.some.injEq

end Go.Vm

namespace Go.Vm
open Go.RowKit
variable {P : Program} {S S' : St} {K : Ex → St → Prop} {J : St → Prop} {a b : Prop}

@[congr] theorem onD_c {o o' : Option D} {dst : Option Nat} (h : o = o') (hS : S = S') : onD o dst S J = onD o' dst S' J := by rw [h, hS]
@[congr] theorem vstep_c {m : MOp} {dst : Option Nat} (hS : S = S') : vstep P m dst S J = vstep P m dst S' J := by rw [hS]
@[congr] theorem qstep_c {m : MOp} {dst : Option Nat} (hS : S = S') : qstep P m dst S J = qstep P m dst S' J := by rw [hS]
@[congr] theorem evOps_c {ms : List MO} (hS : S = S') : evOps P ms S J = evOps P ms S' J := by rw [hS]
@[congr] theorem evDraw_c {q : Nat} {ms : List MO} (hS : S = S') : evDraw P q ms S J = evDraw P q ms S' J := by rw [hS]
@[congr] theorem ev_c {m : MC} (hS : S = S') : ev P m S K = ev P m S' K := by rw [hS]
@[congr] theorem seqK_c {y : MC} {e : Ex} (hS : S = S') : seqK P y K e S = seqK P y K e S' := by rw [hS]
@[congr] theorem blockK_c {id : Nat} {e : Ex} (hS : S = S') : blockK id K e S = blockK id K e S' := by rw [hS]
@[congr] theorem loopK_c {I : St → Nat → Prop} {n : Nat} {e : Ex} (hS : S = S') : loopK I n K e S = loopK I n K e S' := by rw [hS]
@[congr] theorem opsK_c {ms : List MO} (hS : S = S') : opsK P ms J S = opsK P ms J S' := by rw [hS]
@[congr] theorem drawK_c {q : Nat} {ms : List MO} (hS : S = S') : drawK P q ms J S = drawK P q ms J S' := by rw [hS]
@[congr] theorem wantD_c {x x' : Option Bool} {o : MOp} {d : Option Nat} {os : List Nat} {ts : List Tag} {r : List (MO × DK)} (hx : x = x') (hS : S = S') : wantD P x o d S os ts r J = wantD P x' o d S' os ts r J := by rw [hS, hx]
@[congr] theorem wantS_c {x x' : Option Bool} {o : MOp} {d : Option Nat} {os : List Nat} {ts : List Tag} {r : List (MO × DK)} (hx : x = x') (hS : S = S') : wantS P x o d S os ts r J = wantS P x' o d S' os ts r J := by rw [hS, hx]
@[congr] theorem evQ_c {os os' : List Nat} {ts ts' : List Tag} {r : List (MO × DK)} (ho : os = os') (ht : ts = ts') (hS : S = S') : evQ P os ts r S J = evQ P os' ts' r S' J := by rw [hS, ho, ht]
@[congr] theorem evS_c {os : List Nat} {ts : List Tag} {r : List (MO × DK)} (hS : S = S') : evS P os ts r S J = evS P os ts r S' J := by rw [hS]
@[congr] theorem evK_c {k : DK} {r : List (MO × DK)} (hS : S = S') : evK P k r S J = evK P k r S' J := by rw [hS]
@[congr] theorem d2Q_c {os : List Nat} {ts : List Tag} {dst : Option Nat} {r : List (MO × DK)} (hS : S = S') : d2Q P os ts dst r J S = d2Q P os ts dst r J S' := by rw [hS]
@[congr] theorem d2S_c {os : List Nat} {ts : List Tag} {dst : Option Nat} {r : List (MO × DK)} (hS : S = S') : d2S P os ts dst r J S = d2S P os ts dst r J S' := by rw [hS]
@[congr] theorem d2S0_c {os : List Nat} {ts : List Tag} {r : List (MO × DK)} (hS : S = S') : d2S0 P os ts r J S = d2S0 P os ts r J S' := by rw [hS]
@[congr] theorem d2K_c {k : DK} {r : List (MO × DK)} (hS : S = S') : d2K P k r J S = d2K P k r J S' := by rw [hS]
@[congr] theorem stO_c {o o' : Option (List D)} {f : List D → Prop} (h : o = o') : stO o f = stO o' f := by rw [h]
@[congr] theorem atFn_c {f f' : Option D} {as as' : Option (List D)} {c : FuncId → List D → Prop} (h : f = f') (h' : as = as') : atFn f as c = atFn f' as' c := by rw [h, h']
@[congr] theorem storeP_c {sz : Nat} {p p' : Option D} {v v' : Option (List D)} (hS : S = S') (h : p = p') (h' : v = v') : storeP S sz p v J = storeP S' sz p' v' J := by rw [hS, h, h']
@[congr] theorem bsliceP_c {d e sz len : Nat} {cs cs' : Option (List D)} (hS : S = S') (h : cs = cs') : bsliceP S d e sz len cs J = bsliceP S' d e sz len cs' J := by rw [hS, h]
@[congr] theorem qbsliceP_c {dst : Option Nat} {sz len : Nat} {cs cs' : Option (List D)} (hS : S = S') (h : cs = cs') : qbsliceP S dst sz len cs J = qbsliceP S' dst sz len cs' J := by rw [hS, h]
@[congr] theorem appendP_c {e sz bytes : Nat} {dst : Option Nat} {x x' y y' : Option D} (hS : S = S') (h : x = x') (h' : y = y') : appendP S e sz bytes dst x y J = appendP S' e sz bytes dst x' y' J := by rw [hS, h, h']
@[congr] theorem isnilP_c {dst : Option Nat} {neg : Bool} {x x' : Option D} (hS : S = S') (h : x = x') : isnilP S dst neg x J = isnilP S' dst neg x' J := by rw [hS, h]
@[congr] theorem callP_c {k : FuncId} {ds ds' : List D} {dst : Option Nat} (hS : S = S') (h : ds = ds') : callP P S k ds dst J = callP P S' k ds' dst J := by rw [hS, h]
@[congr] theorem callQ_c {k : FuncId} {ds ds' : List D} {dst : Option Nat} (hS : S = S') (h : ds = ds') : callQ P S k ds dst J = callQ P S' k ds' dst J := by rw [hS, h]
@[congr] theorem callF_c {k : FuncId} {ds ds' : List D} {d e sz : Nat} (hS : S = S') (h : ds = ds') : callF P S k ds d e sz J = callF P S' k ds' d e sz J := by rw [hS, h]
@[congr] theorem callT_c {k : FuncId} {ds ds' : List D} {dst : Option Nat} (hS : S = S') (h : ds = ds') : callT P S k ds dst J = callT P S' k ds' dst J := by rw [hS, h]

@[congr] theorem callK_c {k : FuncId} {ds ds' : List D} {dst : Option Nat} (hS : S = S') (h : ds = ds') : callK P S k ds dst J = callK P S' k ds' dst J := by rw [hS, h]
@[congr] theorem callL_c {k : FuncId} {ds ds' : List D} {dst : Option Nat} (hS : S = S') (h : ds = ds') : callL P S k ds dst J = callL P S' k ds' dst J := by rw [hS, h]

/-- A call, by its contract. -/
theorem callP_by {k : FuncId} {ds fs : List D} {dst : Option Nat} {R : D → Prop} (hf : frzL ds = some fs) (hl : liveAll S ds) (hp : PureAt P k fs R) (h : ∀ r, R r → J ((S.share (tagsL ds)).put dst r)) : callP P S k ds dst J := by
  unfold callP
  rw [hf]
  exact ⟨hl, hp.mono h⟩
theorem callP_eq {k : FuncId} {ds fs : List D} {dst : Option Nat} {d : D} (hf : frzL ds = some fs) (hl : liveAll S ds) (hp : PureAt P k fs (· = d)) (h : J ((S.share (tagsL ds)).put dst d)) : callP P S k ds dst J :=
  callP_by hf hl hp fun r hr => by rw [hr]; exact h
theorem callQ_by {k : FuncId} {ds fs : List D} {dst : Option Nat} (d : D) (hf : frzL ds = some fs) (hl : tagsL ds = []) (hp : PureAt P k fs fun r => r = d) (h : J (S.put dst d)) : callQ P S k ds dst J := by
  unfold callQ
  rw [hf]
  exact ⟨hl, d, hp, h⟩
theorem callF_by {k : FuncId} {ds fs : List D} {d e sz : Nat} {R : List (List D) → Prop} (hf : frzL ds = some fs) (hl : liveAll S ds) (hp : FreshAt P k fs e sz R) (h : ∀ es, R es → J (((S.share (tagsL ds)).newTag (d, e, sz) true).put (some d) (.sl (some (d, e, sz)) es))) : callF P S k ds d e sz J := by
  unfold callF
  rw [hf]
  exact ⟨hl, hp.mono h⟩
theorem callT_by {k : FuncId} {t : Tag} {es : List (List D)} {rest fs : List D} {dst : Option Nat} {R : List (List D) → D → Prop} (hf : frzL rest = some fs) (ht : S.tag t = some true) (hl : (tagsL rest).all (fun t' => (S.tag t').isSome && decide (t' ≠ t)) = true) (hp : MutAt P k t.2.1 t.2.2 es fs R)
    (h : ∀ es' r, R es' r → J (((S.share (tagsL rest)).remake t es').put dst r)) : callT P S k (.sl (some t) es :: rest) dst J := by
  unfold callT
  simp only
  rw [hf]
  exact ⟨ht, hl, hp.mono h⟩

theorem callK_by {k : FuncId} {t : Tag} {es : List (List D)} {rest fs : List D} {dst : Option Nat} {R : List (List D) → D → Prop} (hf : frzL rest = some fs) (ht : S.tag t = some true) (hl : (tagsL rest).all (fun t' => (S.tag t').isSome && decide (t' ≠ t)) = true) (hp : TakeAt P k t.2.1 t.2.2 es fs R)
    (h : ∀ es' r, R es' r → J ((((S.share (tagsL rest)).remake t es').share [t]).put dst r)) : callK P S k (.sl (some t) es :: rest) dst J := by
  unfold callK
  simp only
  rw [hf]
  exact ⟨ht, hl, hp.mono h⟩
theorem callL_by {k : FuncId} {ds fs : List D} {dst : Option Nat} {R : D → Prop} (hf : frzL ds = some fs) (hl : liveAll S ds) (hp : PureAt P k fs R) (h : ∀ r, R r → r.plain = true ∧ J (S.put dst r)) : callL P S k ds dst J := by
  unfold callL
  rw [hf]
  exact ⟨hl, hp.mono h⟩
theorem callL_eq {k : FuncId} {ds fs : List D} {dst : Option Nat} {d : D} (hf : frzL ds = some fs) (hl : liveAll S ds) (hd : d.plain = true) (hp : PureAt P k fs (· = d)) (h : J (S.put dst d)) : callL P S k ds dst J :=
  callL_by hf hl hp fun r hr => by rw [hr]; exact ⟨hd, h⟩

def fzBO (S : St) (o : Nat) (cs : Option (List D)) : Option St := match cs with
  | some cs => match frzL cs with
    | some fs => if (tagsL cs).all (fun t => (S.tag t).isSome) then some ((S.share (tagsL cs)).fzb o fs) else none
    | none => none
  | none => none
@[go_sem] theorem fzB_mk (e : List (Nat × D)) (h : List (Nat × List D)) (g : List (Tag × Bool)) (o : Nat) : St.fzB ⟨e, h, g⟩ o = fzBO ⟨e, h, g⟩ o (lkp o h) := (rfl)
def fzBF (S : St) (o : Nat) (cs : List D) (fs : Option (List D)) : Option St := match fs with
    | some fs => if (tagsL cs).all (fun t => (S.tag t).isSome) then some ((S.share (tagsL cs)).fzb o fs) else none
    | none => none
@[go_sem] theorem fzBO_some (o : Nat) (cs : List D) : fzBO S o (some cs) = fzBF S o cs (frzL cs) := (rfl)
@[go_sem] theorem fzBF_some (o : Nat) (cs fs : List D) : fzBF S o cs (some fs) = if (tagsL cs).all (fun t => (S.tag t).isSome) then some ((S.share (tagsL cs)).fzb o fs) else none := (rfl)
def fzE (o : Nat) (fs : List D) (l : List (Nat × D)) : List (Nat × D) := l.map fun x => (x.1, x.2.fzb o fs)
def fzH (o : Nat) (fs : List D) (l : List (Nat × List D)) : List (Nat × List D) := l.map fun x => (x.1, x.2.map (D.fzb o fs))
@[go_sem] theorem fzE_nil (o : Nat) (fs : List D) : fzE o fs [] = [] := (rfl)
@[go_sem] theorem fzE_cons (o : Nat) (fs : List D) (k : Nat) (d : D) (l : List (Nat × D)) : fzE o fs ((k, d) :: l) = (k, d.fzb o fs) :: fzE o fs l := (rfl)
@[go_sem] theorem fzH_nil (o : Nat) (fs : List D) : fzH o fs [] = [] := (rfl)
@[go_sem] theorem fzH_cons (o : Nat) (fs : List D) (k : Nat) (d : List D) (l : List (Nat × List D)) : fzH o fs ((k, d) :: l) = (k, d.map (D.fzb o fs)) :: fzH o fs l := (rfl)
@[go_sem] theorem fzb_mk (e : List (Nat × D)) (h : List (Nat × List D)) (g : List (Tag × Bool)) (o : Nat) (fs : List D) : St.fzb ⟨e, h, g⟩ o fs = ⟨fzE o fs e, fzH o fs (dropK o h), g⟩ := (rfl)
attribute [go_sem] D.fzb fzbL

@[go_sem] theorem rept_zero {α : Type} (xs : List α) : rept xs 0 = [] := (rfl)
@[go_sem] theorem rept_succ {α : Type} (xs : List α) (n : Nat) : rept xs (n + 1) = xs ++ rept xs n := (rfl)
@[go_sem] theorem chunk_zero (sz : Nat) (cs : List D) : chunk sz 0 cs = [] := (rfl)
@[go_sem] theorem chunk_succ (sz n : Nat) (cs : List D) : chunk sz (n + 1) cs = cs.take sz :: chunk sz n (cs.drop sz) := (rfl)
attribute [go_sem] true_or or_false Option.map_none Prod.mk.injEq false_and and_false eq_self decide_not Bool.not_eq_true Bool.bne_false Bool.bne_true List.not_mem_nil List.mem_cons
@[go_sem] theorem all_nil_mem {p : List D → Prop} : (∀ e ∈ ([] : List (List D)), p e) = True := by simp

end Go.Vm
