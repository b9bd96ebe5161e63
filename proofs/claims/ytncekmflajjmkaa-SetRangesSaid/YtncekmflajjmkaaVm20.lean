/- The value machine, 20: code. -/
import Derived.Test.YtncekmflajjmkaaVm19
import Derived.LoopN
namespace Go.Vm
open Go.RowKit
variable {P : Program} {w0 w w' : World} {W F0 : Reg} {V : Tag → Option Value} {N : Nat} {g g' : Gh} {S S' : St} {a : Act} {ops : Array Oper}

inductive Ex
  | normal | exit (id : Nat) | ret

def Ex.up : Ex → Exit
  | .normal => .normal
  | .exit id => .exit id
  | .ret => .ret

inductive MC
  | skip
  | reg (ms : List MO)
  | dreg (q : Nat) (ms : List MO)
  | seq (x y : MC)
  | cond (c : Operand) (x y : MC)
  | block (id : Nat) (x : MC)
  | loop (x : MC)
  | exit (id : Nat)
  | ret
  | trim (ts os : List Nat) (gs : List Tag) (x : MC)
  | fz (ts : List Nat) (x : MC)
  | fzb (o : Nat) (x : MC)
  deriving Inhabited

def MC.strip : MC → MC
  | .reg ms => .reg (ms.map MO.strip)
  | .dreg q ms => .dreg q (ms.map MO.strip)
  | .seq x y => .seq x.strip y.strip
  | .cond c x y => .cond c x.strip y.strip
  | .block id x => .block id x.strip
  | .loop x => .loop x.strip
  | .trim _ _ _ x => x.strip
  | .fz _ x => x.strip
  | .fzb _ x => x.strip
  | m => m

/-- Could an operation be one of the quiet ones? -/
def MOp.quiet : MOp → Bool
  | .alloc .. | .box .. | .store .. | .append .. | .isnil .. => false
  | _ => true

def lead : List MO → Nat
  | [] => 0
  | m :: ms => if m.op.quiet then lead ms + 1 else 0

def comp (P : Program) (N : Nat) : Code → Option MC
  | .skip => some .skip
  | .region _ ops draw => match compOps P ops ops.toList with
    | some ms => if ms.all (dstOk N) then
        if draw then if drawB ops ms 0 then some (.dreg 0 ms) else if drawB ops ms (lead ms) then some (.dreg (lead ms) ms) else none
        else some (.reg ms)
      else none
    | none => none
  | .seq x y => match comp P N x, comp P N y with
    | some x, some y => some (.seq x y)
    | _, _ => none
  | .cond c x y => match comp P N x, comp P N y with
    | some x, some y => some (.cond c x y)
    | _, _ => none
  | .block id x => match comp P N x with | some x => some (.block id x) | none => none
  | .loop x => match comp P N x with | some x => some (.loop x) | none => none
  | .exit id => some (.exit id)
  | .ret => some .ret
  | _ => none

def pickL {α β : Type} [DecidableEq α] : List α → List (α × β) → List (α × β)
  | [], _ => []
  | k :: ks, l => match lkp k l with
    | some d => (k, d) :: pickL ks l
    | none => pickL ks l

def St.trim (S : St) (ts os : List Nat) (gs : List Tag) : St := ⟨pickL ts S.env, pickL os S.hp, pickL gs S.tg⟩

def St.fz (S : St) : List Nat → Option St
  | [] => some S
  | t :: ts => match S.get t with
    | some d => match d.frz with
      | some f => if d.tags.all (fun t => (S.tag t).isSome) then ((S.share d.tags).put (some t) f).fz ts else none
      | none => none
    | none => none

def St.fzB (S : St) (o : Nat) : Option St := match S.box o with
  | some cs => match frzL cs with
    | some fs => if (tagsL cs).all (fun t => (S.tag t).isSome) then some ((S.share (tagsL cs)).fzb o fs) else none
    | none => none
  | none => none

def iter (f : St → (Ex → St → Prop) → Prop) (K : Ex → St → Prop) : Nat → St → Prop
  | 0, _ => False
  | n + 1, S => f S fun e S' => match e with
    | .normal => iter f K n S'
    | .exit id => K (.exit id) S'
    | .ret => K .ret S'

def ev (P : Program) : MC → St → (Ex → St → Prop) → Prop
  | .skip, S, K => K .normal S
  | .reg ms, S, K => evOps P ms S (K .normal)
  | .dreg q ms, S, K => evDraw P q ms S (K .normal)
  | .seq x y, S, K => ev P x S fun e S' => match e with
    | .normal => ev P y S' K
    | .exit id => K (.exit id) S'
    | .ret => K .ret S'
  | .cond c x y, S, K => match look S c with
    | some (.val (.bool t)) => (t = true → ev P x S K) ∧ (t = false → ev P y S K)
    | _ => False
  | .block id x, S, K => ev P x S fun e S' => match e with
    | .normal => K .normal S'
    | .exit id' => if id' = id then K .normal S' else K (.exit id') S'
    | .ret => K .ret S'
  | .loop x, S, K => ∃ n, iter (ev P x) K n S
  | .exit id, S, K => K (.exit id) S
  | .ret, S, K => K .ret S
  | .trim ts os gs x, S, K => ev P x (S.trim ts os gs) K
  | .fz ts x, S, K => match S.fz ts with
    | some S' => ev P x S' K
    | none => False
  | .fzb o x, S, K => match S.fzB o with
    | some S' => ev P x S' K
    | none => False

theorem pickL_lkp {α β : Type} [DecidableEq α] {t : α} {d : β} {l : List (α × β)} : ∀ {ks : List α}, lkp t (pickL ks l) = some d → lkp t l = some d
  | [], h => by simp [pickL, lkp] at h
  | k :: ks, h => by
    simp only [pickL] at h
    split at h
    · rename_i d' hk
      simp only [lkp] at h
      split at h
      · rename_i he; subst he; rw [hk]; exact h
      · exact pickL_lkp h
    · exact pickL_lkp h

theorem SR.sub (h : SR w0 W F0 V N g S a w) (hg : ∀ t d, S'.get t = some d → S.get t = some d) (hp : ∀ o c, S'.box o = some c → S.box o = some c) (ht : ∀ t x, S'.tag t = some x → S.tag t = some x) : SR w0 W F0 V N g S' a w := by
  have c := h.core
  exact ⟨⟨fun t d hd => c.env t d (hg _ _ hd), fun o cs ho => c.box o cs (hp _ _ ho), fun o cs b k i ho => c.boxF o cs b k i (hp _ _ ho), fun o o' cs cs' b k k' h1 h2 => c.boxI o o' cs cs' b k k' (hp _ _ h1) (hp _ _ h2),
    fun t x h1 => c.tag t x (ht _ _ h1), fun t x ti o cs b k h1 h2 h3 => c.tagB t x ti o cs b k (ht _ _ h1) h2 (hp _ _ h3), fun t x ti t' x' ti' b h1 h2 h3 => c.tagI t x ti t' x' ti' b (ht _ _ h1) h2 (ht _ _ h3), c.frz⟩,
    ⟨fun o cs b k i h1 => h.wr.box o cs b k i (hp _ _ h1), fun t x ti b h1 => h.wr.tag t x ti b (ht _ _ h1)⟩, h.keep, h.size, h.defers, h.fext, h.fnew, h.cap, h.pin⟩

theorem SR.trim (h : SR w0 W F0 V N g S a w) (ts os : List Nat) (gs : List Tag) : SR w0 W F0 V N g (S.trim ts os gs) a w :=
  h.sub (fun _ _ hd => pickL_lkp hd) (fun _ _ hd => pickL_lkp hd) (fun _ _ hd => pickL_lkp hd)

theorem SR.putSame (h : SR w0 W F0 V N g S a w) {t : Nat} {d : D} (hr : Rep g w d (a.tmps.getD t undef)) : SR w0 W F0 V N g (S.put (some t) d) a w := by
  have c := h.core
  refine ⟨⟨fun t' d' hd => ?_, c.box, c.boxF, c.boxI, c.tag, c.tagB, c.tagI, c.frz⟩, ⟨h.wr.box, h.wr.tag⟩, h.keep, h.size, h.defers, h.fext, h.fnew, h.cap, h.pin⟩
  rw [put_get] at hd
  split at hd
  · rename_i he; subst he; injection hd with hd; subst hd; exact hr
  · exact c.env t' d' hd

theorem SR.fz : ∀ {ts : List Nat} {S S' : St} {g : Gh}, SR w0 W F0 V N g S a w → S.fz ts = some S' → ∃ g', SR w0 W F0 V N g' S' a w
  | [], S, S', g, h, hf => by
    simp only [St.fz, Option.some.injEq] at hf; subst hf
    exact ⟨g, h⟩
  | t :: ts, S, S', g, h, hf => by
    simp only [St.fz] at hf
    split at hf
    · rename_i d hd
      split at hf
      · rename_i f hfr
        split at hf
        · rename_i hl
          have hr := frz_sound h.core (live_all hl) d (h.core.env t d hd) (fun t ht => ht) hfr
          exact ((h.share d.tags).putSame (t := t) (d := f) (.fz _ _ hr)).fz hf
        · cases hf
      · cases hf
    · cases hf

theorem SR.fzB {o : Nat} (h : SR w0 W F0 V N g S a w) (hf : S.fzB o = some S') : ∃ g', SR w0 W F0 V N g' S' a w := by
  unfold St.fzB at hf
  split at hf
  · rename_i cs hb
    split at hf
    · rename_i fs hfs
      split at hf
      · rename_i hl
        injection hf with hf; subst hf
        have hs := h.share (tagsL cs)
        have hb' : (S.share (tagsL cs)).box o = some cs := hb
        obtain ⟨b, k, vs, e, hμ, h2, h3, h4⟩ := hs.core.box o cs hb'
        have hl' : ∀ t ∈ tagsL cs, ∃ x, (S.share (tagsL cs)).tag t = some x := fun t ht => by
          obtain ⟨x, hx⟩ := live_all hl t ht
          exact ⟨_, by rw [share_tag, hx]; rfl⟩
        obtain ⟨l1, r1⟩ := frzL_sound hs.core hl' cs hfs (fun t ht => ht)
        have hc := hs.core.fzb (fs := fs) hb' hμ l1 (fun j d e' u hd he hr => (r1 j d u hd e' he hr).mono (fun b' k' hF => by
          rcases hF with hF | ⟨t, ht, x, ti, q1, q2, q3⟩
          · exact hF
          · rw [share_tag] at q1
            obtain ⟨x0, q4, _⟩ := Option.map_eq_some_iff.1 q1
            exact .inr ⟨t, ht, x0, ti, q4, q2, q3⟩) (fun _ _ _ => rfl))
        refine ⟨_, hc, ⟨fun o' c b' k' i hc' hμ' hi => ?_, hs.wr.tag⟩, hs.keep, hs.size, hs.defers, fun b' k' hF => .inl (hs.fext b' k' hF), fun b' k' hF => ?_, hs.cap, hs.pin⟩
        · rw [fzb_box] at hc'
          split at hc'
          · cases hc'
          · obtain ⟨c0, h5, rfl⟩ := Option.map_eq_some_iff.1 hc'
            exact hs.wr.box o' c0 b' k' i h5 hμ' (by simpa using hi)
        · rcases hF with hF | ⟨e1, e2, e3⟩
          · exact hs.fnew b' k' hF
          · subst e1
            have := hs.wr.box o cs b' k (k' - k) hb' hμ (by omega)
            rw [show k + (k' - k) = k' by omega] at this
            exact .inr this
      · cases hf
    · cases hf
  · cases hf

theorem dstOk_strip (m : MO) : dstOk N m.strip = dstOk N m := by
  obtain ⟨dst, op, guard⟩ := m
  cases op <;> rfl

theorem allOk_strip {ms : List MO} (h : (ms.map MO.strip).all (dstOk N) = true) : ms.all (dstOk N) = true := by
  rw [List.all_map] at h
  rw [← h]
  congr 1
  funext m
  exact (dstOk_strip m).symm

theorem ev_sound (hm : P.follows .mixedOrders = true) : ∀ (m : MC) (c : Code) (g : Gh) (S : St) (a : Act) (w : World) (K : Ex → St → Prop) (Q : Exit → Act → World → Prop), comp P N c = some m.strip → SR w0 W F0 V N g S a w → ev P m S K →
    (∀ e g' S' a' w', SR w0 W F0 V N g' S' a' w' → K e S' → Q e.up a' w') → c.wp P Q a w := by
  intro m
  induction m with
  | skip =>
    intro c g S a w K Q hc hS hv hQ
    cases c <;> simp only [comp, MC.strip] at hc <;> (repeat' (split at hc)) <;> (try (cases hc; done))
    exact wp_skip (hQ _ _ _ _ _ hS hv)
  | reg ms =>
    intro c g S a w K Q hc hS hv hQ
    cases c <;> simp only [comp, MC.strip] at hc <;> (repeat' (split at hc)) <;> (try (cases hc; done))
    rename_i hms hd hdraw
    injection hc with hc; injection hc with hc; subst hc
    have hdraw := Bool.eq_false_iff.2 hdraw
    subst hdraw
    exact reg_sound hms (allOk_strip hd) hS hv (fun g' S' a' w' h1 h2 => hQ .normal g' S' a' w' h1 h2)
  | dreg q ms =>
    intro c g S a w K Q hc hS hv hQ
    cases c <;> simp only [comp, MC.strip] at hc <;> (repeat' (split at hc)) <;> (try (cases hc; done))
    · rename_i hms hd hdraw hB
      injection hc with hc; injection hc with hc1 hc2; subst hc1; subst hc2
      subst hdraw
      exact draw_sound hm hms (allOk_strip hd) hB hS hv (fun g' S' a' w' h1 h2 => hQ .normal g' S' a' w' h1 h2)
    · rename_i hms hd hdraw _ hB
      injection hc with hc; injection hc with hc1 hc2; subst hc1; subst hc2
      subst hdraw
      exact draw_sound hm hms (allOk_strip hd) hB hS hv (fun g' S' a' w' h1 h2 => hQ .normal g' S' a' w' h1 h2)
  | seq x y ihx ihy =>
    intro c g S a w K Q hc hS hv hQ
    cases c <;> simp only [comp, MC.strip] at hc <;> (repeat' (split at hc)) <;> (try (cases hc; done))
    rename_i hx hy
    injection hc with hc; injection hc with hc1 hc2; subst hc1; subst hc2
    refine wp_seq (ihx _ g S a w _ _ hx hS hv (fun e g' S' a' w' h1 h2 => ?_))
    cases e with
    | normal => exact ihy _ g' S' a' w' K Q hy h1 h2 hQ
    | exit id => exact hQ _ _ _ _ _ h1 h2
    | ret => exact hQ _ _ _ _ _ h1 h2
  | cond o x y ihx ihy =>
    intro c g S a w K Q hc hS hv hQ
    cases c <;> simp only [comp, MC.strip] at hc <;> (repeat' (split at hc)) <;> (try (cases hc; done))
    rename_i hx hy
    injection hc with hc; injection hc with hc0 hc1 hc2; subst hc0; subst hc1; subst hc2
    simp only [ev] at hv
    split at hv
    · rename_i t hl
      exact wp_cond_split (t := t) ((hS.core.look hl).val_inv) (fun ht => ihx _ g S a w K Q hx hS (hv.1 ht) hQ) (fun ht => ihy _ g S a w K Q hy hS (hv.2 ht) hQ)
    · exact hv.elim
  | block id x ih =>
    intro c g S a w K Q hc hS hv hQ
    cases c <;> simp only [comp, MC.strip] at hc <;> (repeat' (split at hc)) <;> (try (cases hc; done))
    rename_i hx
    injection hc with hc; injection hc with hc0 hc1; subst hc0; subst hc1
    refine wp_block (ih _ g S a w _ _ hx hS hv (fun e g' S' a' w' h1 h2 => ?_))
    cases e with
    | normal => exact hQ _ _ _ _ _ h1 h2
    | exit id' =>
      simp only [Ex.up, Exit.inBlock]
      simp only at h2
      split
      · rename_i he; rw [if_pos he] at h2; exact hQ .normal _ _ _ _ h1 h2
      · rename_i he; rw [if_neg he] at h2; exact hQ (.exit id') _ _ _ _ h1 h2
    | ret => exact hQ .ret _ _ _ _ h1 h2
  | loop x ih =>
    intro c g S a w K Q hc hS hv hQ
    cases c <;> simp only [comp, MC.strip] at hc <;> (repeat' (split at hc)) <;> (try (cases hc; done))
    rename_i body _ hx
    injection hc with hc; injection hc with hc0; subst hc0
    obtain ⟨n, hn⟩ := hv
    refine wp_loop_rounds n ?_
    induction n generalizing g S a w with
    | zero => exact hn.elim
    | succ n ihn =>
      rw [rounds_succ]
      simp only [iter] at hn
      refine ih _ g S a w _ _ hx hS hn (fun e g' S' a' w' h1 h2 => ?_)
      cases e with
      | normal => exact ihn g' S' a' w' h1 h2
      | exit id => exact hQ _ _ _ _ _ h1 h2
      | ret => exact hQ _ _ _ _ _ h1 h2
  | exit id =>
    intro c g S a w K Q hc hS hv hQ
    cases c <;> simp only [comp, MC.strip] at hc <;> (repeat' (split at hc)) <;> (try (cases hc; done))
    injection hc with hc; injection hc with hc; subst hc
    exact wp_exit (hQ _ _ _ _ _ hS hv)
  | ret =>
    intro c g S a w K Q hc hS hv hQ
    cases c <;> simp only [comp, MC.strip] at hc <;> (repeat' (split at hc)) <;> (try (cases hc; done))
    exact wp_ret (hQ _ _ _ _ _ hS hv)
  | trim ts os gs x ih =>
    intro c g S a w K Q hc hS hv hQ
    exact ih c g _ a w K Q hc (hS.trim ts os gs) hv hQ
  | fz ts x ih =>
    intro c g S a w K Q hc hS hv hQ
    simp only [ev] at hv
    split at hv
    · rename_i S' hf
      obtain ⟨g', h'⟩ := hS.fz hf
      exact ih c g' S' a w K Q hc h' hv hQ
    · exact hv.elim
  | fzb o x ih =>
    intro c g S a w K Q hc hS hv hQ
    simp only [ev] at hv
    split at hv
    · rename_i S' hf
      obtain ⟨g', h'⟩ := hS.fzB hf
      exact ih c g' S' a w K Q hc h' hv hQ
    · exact hv.elim

end Go.Vm
