/- A part of the proof; what is proved stands in the last text. -/
import Derived.Test.YtaoppmjidjdgdaaGreatVm19c
import Derived.LoopN
set_option linter.unusedVariables false
set_option maxRecDepth 2000
namespace Go.Vm
open Go.RowKit
variable {P : Program} {w0 w w' : World} {W F0 : Reg} {V : Pins} {N : Nat} {g g' : Gh} {S S' : St} {a : Act} {ops : Array Oper}
inductive Ex
 | normal | exit (id : Nat) | ret
def Ex.up : Ex → Exit
 | .normal => .normal
 | .exit id => .exit id
 | .ret => .ret
inductive MC
 | skip
 | reg (ms : List MO)
 | dreg (q : Nat) (ms : List MO)
 | dreg2 (ms : List (MO × DK))
 | dany (ms : List (MO × List Nat))
 | bad
 | seq (x y : MC)
 | cond (c : Operand) (x y : MC)
 | block (id : Nat) (x : MC)
 | loop (x : MC)
 | loop2 (y x : MC)
 | exit (id : Nat)
 | ret
 | trim (ts os : List Nat) (gs : List Tag) (x : MC)
 | fz (ts : List Nat) (x : MC)
 | fzb (o : Nat) (x : MC)
 | own (o : Nat) (l : List (Nat × Tag)) (x : MC)
 | shr (k : Nat) (x : MC)
 | ren (bs : List (Nat × Nat)) (ts : List (Tag × Tag)) (x : MC)
 | fzc (o off : Nat) (x : MC)
 deriving Inhabited
def MC.strip : MC → MC
 | .reg ms => .reg (ms.map MO.strip)
 | .dreg q ms => .dreg q (ms.map MO.strip)
 | .dreg2 ms => .dreg2 (ms.map fun x => (x.1.strip, x.2))
 | .dany ms => .dany (ms.map fun x => (x.1.strip, x.2))
 | .seq x y => .seq x.strip y.strip
 | .cond c x y => .cond c x.strip y.strip
 | .block id x => .block id x.strip
 | .loop x => .loop x.strip
 | .loop2 _ x => .loop x.strip
 | .trim _ _ _ x => x.strip
 | .fz _ x => x.strip
 | .fzb _ x => x.strip
 | .own _ _ x => x.strip
 | .shr _ x => x.strip
 | .ren _ _ x => x.strip
 | .fzc _ _ x => x.strip
 | m => m
def kinds (src : List Nat) : List MO → List Nat → List Nat → List (MO × DK)
 | [], _, _ => []
 | m :: r, soft, hard =>
  let d := m.dst.toList
  match m.op with
  | .alloc .. => (m, .a) :: kinds src r soft (d ++ hard)
  | .store .. | .box .. | .isnil .. | .xop _ => (m, .h) :: kinds src r soft (d ++ hard)
  | .append .. => (m, .s) :: kinds src r (d ++ soft) hard
  | _ => if m.readT.any hard.contains then (m, .h) :: kinds src r soft (d ++ hard)
   else if m.readT.any soft.contains || d.any src.contains then (m, .s) :: kinds src r (d ++ soft) hard
   else (m, .q) :: kinds src r soft hard
def predsOf (o : Oper) : List Nat := (o.after.toList.filter fun e => Region.binds .any e).map (·.on)
def comp (P : Program) (N : Nat) : Code → MC → Option MC
 | .skip, _ => some .skip
 | .region _ ops draw, h => match compOps P ops ops.toList with
  | some ms => if ms.all (dstOk N) then
      match draw, h with
      | false, _ => some (.reg ms)
      | true, .dreg q _ => if drawB ops ms q then some (.dreg q ms) else none
      | true, .dreg2 ks => if drawB2 ops (ms.zip (ks.map (·.2))) then some (.dreg2 (ms.zip (ks.map (·.2)))) else none
      | true, .dany _ => some (.dany (ms.zip (ops.toList.map predsOf)))
      | true, _ => none
   else none
  | none => none
 | .seq x y, .seq h1 h2 => match comp P N x h1, comp P N y h2 with
  | some x, some y => some (.seq x y)
  | _, _ => none
 | .cond c x y, .cond _ h1 h2 => match comp P N x h1, comp P N y h2 with
  | some x, some y => some (.cond c x y)
  | _, _ => none
 | .block id x, .block _ h => match comp P N x h with | some x => some (.block id x) | none => none
 | .loop x, .loop h => match comp P N x h with | some x => some (.loop x) | none => none
 | .exit id, _ => some (.exit id)
 | .ret, _ => some .ret
 | _, .bad => some .bad
 | _, _ => none
def pickL {α β : Type} [DecidableEq α] : List α → List (α × β) → List (α × β)
 | [], _ => []
 | k :: ks, l => match lkp k l with
  | some d => (k, d) :: pickL ks l
  | none => pickL ks l
def St.trim (S : St) (ts os : List Nat) (gs : List Tag) : St := ⟨pickL ts S.env, pickL os S.hp, pickL gs S.tg⟩
def St.fz (S : St) : List Nat → Option St
 | [] => some S
 | t :: ts => match S.get t with
  | some d => match d.frz with
   | some f => if d.tags.all (fun t => (S.tag t).isSome) then ((S.share d.tags).put (some t) f).fz ts else none
   | none => none
  | none => none
def St.fzB (S : St) (o : Nat) : Option St := match S.box o with
 | some cs => match frzL cs with
  | some fs => if (tagsL cs).all (fun t => (S.tag t).isSome) = true ∧ Nat.ble o 9999999 = true then some ((S.share (tagsL cs)).fzb o fs) else none
  | none => none
 | none => none
def St.ownB (S : St) (o : Nat) : List (Nat × Tag) → Option St
 | [] => some S
 | (off, t) :: l => match (S.newTag t true).box o with
  | some cs => match cs[off]? with
   | some (.val (.slice none 0 0)) => if t.1 < 999999 then ((S.newTag t true).setBox o (cs.set off (.sl (some t) []))).ownB o l else none
   | _ => none
  | none => none
def St.shr (S : St) (k : Nat) : Option St := match S.get k with
 | some (.part t lo n es) => if lo = 0 ∧ 0 < es.length ∧ n ≤ es.length ∧ S.tag t = some true ∧ Nat.ble t.1 999998 = true then some ((S.newTag t true).put (some k) (.sl (some t) (es.take n))) else none
 | _ => none
def renOk (bs : List (Nat × Nat)) (ts : List (Tag × Tag)) : Bool :=
 (bs.all fun x => decide (x.1 / mapB = x.2 / mapB) && (Nat.ble (x.2 % mapB) 999998 || x.1 == x.2)) && (ts.all fun x => decide (x.1.2 = x.2.2) && (Nat.ble x.2.1 999998 || x.1 == x.2)) &&
 decide (bs.map (·.1)).Nodup && decide (bs.map (·.2)).Nodup && decide (ts.map (·.1)).Nodup && decide (ts.map (·.2)).Nodup
def St.ren (S : St) (bs : List (Nat × Nat)) (ts : List (Tag × Tag)) : Option St :=
 if (renOk bs ts && ts.all fun x => S.tag x.1 == some true) = true then (seenH S bs ts bs).map fun hin => ⟨S.env.map fun x => (x.1, x.2.ren (fwd bs) (fwd ts)), hin, ts.map fun x => (x.2, true)⟩ else none
def St.fzC (S : St) (o off : Nat) : Option St := match S.box o with
 | some cs => match cs[off]? with
  | some (.sl (some t) es) => if (S.tag t).isSome = true then some ((S.share [t]).setBox o (cs.set off (.sl none es))) else none
  | _ => none
 | none => none
def okR (done : List Nat) (i : Nat) (ps : List Nat) : Bool := !done.contains i && ps.all done.contains
def ready1 (done : List Nat) : Nat → List (MO × List Nat) → List (Nat × MO)
 | _, [] => []
 | i, (m, ps) :: r => bif okR done i ps then (i, m) :: ready1 done (i + 1) r else ready1 done (i + 1) r
def evOne (P : Program) (m : MO) (S : St) (K : St → Prop) : Prop := match want S m.guard with
 | some true => vstep P m.op m.dst S K
 | some false => K (S.put m.dst (.val undef))
 | none => False
def evAlt (P : Program) (k : Nat → St → Prop) (S : St) : List (Nat × MO) → Prop
 | [] => True
 | (i, m) :: r => evOne P m S (k i) ∧ evAlt P k S r
def evAny (P : Program) (l : List (MO × List Nat)) (K : St → Prop) : Nat → List Nat → St → Prop
 | 0, _, S => K S
 | n + 1, done, S => ready1 done 0 l ≠ [] ∧ evAlt P (fun i S' => evAny P l K n (i :: done) S') S (ready1 done 0 l)
def iter (f : St → (Ex → St → Prop) → Prop) (K : Ex → St → Prop) : Nat → St → Prop
 | 0, _ => False
 | n + 1, S => f S fun e S' => match e with
  | .normal => iter f K n S'
  | .exit id => K (.exit id) S'
  | .ret => K .ret S'
def ev (P : Program) : MC → St → (Ex → St → Prop) → Prop
 | .skip, S, K => K .normal S
 | .reg ms, S, K => evOps P ms S (K .normal)
 | .dreg q ms, S, K => evDraw P q ms S (K .normal)
 | .dreg2 ms, S, K => evDraw2 P ms S (K .normal)
 | .dany l, S, K => evAny P l (K .normal) l.length [] S
 | .bad, _, _ => False
 | .seq x y, S, K => ev P x S fun e S' => match e with
  | .normal => ev P y S' K
  | .exit id => K (.exit id) S'
  | .ret => K .ret S'
 | .cond c x y, S, K => match look S c with
  | some (.val (.bool t)) => (t = true → ev P x S K) ∧ (t = false → ev P y S K)
  | _ => False
 | .block id x, S, K => ev P x S fun e S' => match e with
  | .normal => K .normal S'
  | .exit id' => if id' = id then K .normal S' else K (.exit id') S'
  | .ret => K .ret S'
 | .loop x, S, K => ∃ n, iter (ev P x) K n S
 | .loop2 y x, S, K => y.strip = x.strip ∧ ∃ n, ev P y S fun e S' => match e with
  | .normal => iter (ev P x) K n S'
  | .exit id => K (.exit id) S'
  | .ret => K .ret S'
 | .exit id, S, K => K (.exit id) S
 | .ret, S, K => K .ret S
 | .trim ts os gs x, S, K => ev P x (S.trim ts os gs) K
 | .fz ts x, S, K => match S.fz ts with
  | some S' => ev P x S' K
  | none => False
 | .fzb o x, S, K => match S.fzB o with
  | some S' => ev P x S' K
  | none => False
 | .own o l x, S, K => match S.ownB o l with
  | some S' => ev P x S' K
  | none => False
 | .shr k x, S, K => match S.shr k with
  | some S' => ev P x S' K
  | none => False
 | .ren bs ts x, S, K => match S.ren bs ts with
  | some S' => ev P x S' K
  | none => False
 | .fzc o off x, S, K => match S.fzC o off with
  | some S' => ev P x S' K
  | none => False
theorem ready1_mem {done : List Nat} {j : Nat} {m : MO} : ∀ {l : List (MO × List Nat)} {i : Nat}, (j, m) ∈ ready1 done i l → i ≤ j ∧ ∃ ps, l[j - i]? = some (m, ps) ∧ okR done j ps = true
 | [], i, h => by simp [ready1] at h
 | (m0, ps) :: r, i, h => by
  simp only [ready1] at h
  have tail : (j, m) ∈ ready1 done (i + 1) r → i ≤ j ∧ ∃ ps', ((m0, ps) :: r)[j - i]? = some (m, ps') ∧ okR done j ps' = true := fun h => by
   obtain ⟨h1, ps', h2, h3⟩ := ready1_mem h
   refine ⟨by omega, ps', ?_, h3⟩
   rw [show j - i = (j - (i + 1)) + 1 by omega]; simpa using h2
  cases ho : okR done i ps with
  | true =>
   rw [ho] at h
   simp only [cond_true] at h
   rcases List.mem_cons.1 h with h | h
   ·injection h with h1 h2; subst h1; subst h2
    exact ⟨Nat.le_refl _, ps, by simp, ho⟩
   ·exact tail h
  | false =>
   rw [ho] at h
   exact tail h
theorem mem_ready1 {done : List Nat} {j : Nat} {m : MO} {ps : List Nat} : ∀ {l : List (MO × List Nat)} {i : Nat}, l[j]? = some (m, ps) → okR done (i + j) ps = true → (i + j, m) ∈ ready1 done i l
 | [], i, h, _ => by simp at h
 | (m0, ps0) :: r, i, h, ho => by
  simp only [ready1]
  cases j with
  | zero =>
   simp only [List.getElem?_cons_zero, Option.some.injEq, Prod.mk.injEq] at h
   obtain ⟨rfl, rfl⟩ := h
   rw [Nat.add_zero] at ho
   rw [ho]; simp
  | succ j =>
   have := mem_ready1 (l := r) (i := i + 1) (j := j) (by simpa using h) (by rw [show i + 1 + j = i + (j + 1) by omega]; exact ho)
   rw [show i + 1 + j = i + (j + 1) by omega] at this
   cases okR done i ps0 with
   | true => exact List.mem_cons_of_mem _ this
   | false => exact this
theorem evAlt_mem {k : Nat → St → Prop} : ∀ {r : List (Nat × MO)} {i : Nat} {m : MO}, evAlt P k S r → (i, m) ∈ r → evOne P m S (k i)
 | [], _, _, _, h => by simp at h
 | (i0, m0) :: r, i, m, hv, h => by
  rcases List.mem_cons.1 h with h | h
  ·injection h with h1 h2; subst h1; subst h2; exact hv.1
  ·exact evAlt_mem hv.2 h
theorem nodup_lt : ∀ (n : Nat) (l : List Nat), l.Nodup → (∀ k ∈ l, k < n) → l.length ≤ n
 | 0, l, _, h => by
  cases l with
  | nil => exact Nat.le_refl _
  | cons x l => have := h x (by simp); omega
 | n + 1, l, hn, h => by
  have h1 := nodup_lt n (l.erase n) (hn.erase n) (fun k hk => by
   have h2 := (hn.mem_erase_iff).1 hk
   have := h k h2.2
   have := h2.1
   omega)
  rw [List.length_erase] at h1
  split at h1 <;> omega
theorem dany_sound {id : Nat} {Q : Exit → Act → World → Prop} {K : St → Prop} {l : List (MO × List Nat)} (hm : P.follows .mixedOrders = true) (hl : l.map (·.2) = ops.toList.map predsOf) (hc : compOps P ops ops.toList = some ((l.map (·.1)).map MO.strip)) (hd : (l.map (·.1)).all (dstOk N) = true)
    (hS : SR w0 W F0 V N g S a w) (hv : evAny P l K l.length [] S) (hQ : ∀ g' S' a' w', SR w0 W F0 V N g' S' a' w' → K S' → Q .normal a' w') : (Code.region id ops true).wp P Q a w := by
 obtain ⟨hlen, hget⟩ := compOps_get hc
 have hll : l.length = ops.size := by simpa using hlen
 refine wp_region_any hm ?_
 have key : ∀ (n : Nat) (done : List Nat) (listed : Array Bool) (g : Gh) (S : St) (a : Act) (w : World), listed.size = ops.size → (∀ k, k < ops.size → listed.getD k true = done.contains k) → n + done.length = ops.size → done.Nodup → (∀ k ∈ done, k < ops.size) → SR w0 W F0 V N g S a w → evAny P l K n done S → wpAny P .any ops Q n listed a w := by
  intro n
  induction n with
  | zero =>
   intro done listed g S a w hsz hd0 hn hnd hlt hS hv
   refine ⟨?_, hQ g S a w hS hv⟩
   apply List.eq_nil_iff_forall_not_mem.2
   intro i hi
   obtain ⟨h1, o, ho, -⟩ := mem_ready.1 hi
   have hi' : i < ops.size := (Array.getElem?_eq_some_iff.1 ho).1
   rw [hd0 i hi'] at h1
   have hni : i ∉ done := fun hm => by simp [hm] at h1
   have := nodup_lt ops.size (i :: done) (List.nodup_cons.2 ⟨hni, hnd⟩) (fun k hk => by
    rcases List.mem_cons.1 hk with rfl | hk
    ·exact hi'
    ·exact hlt k hk)
   simp only [List.length_cons] at this
   omega
  | succ n ih =>
   intro done listed g S a w hsz hd0 hn hnd hlt hS hv
   simp only [evAny] at hv
   have hr : ∀ i, i ∈ Region.ready .any ops listed ↔ ∃ m, (i, m) ∈ ready1 done 0 l := fun i => by
    constructor
    ·intro hi
     obtain ⟨h1, o, ho, he⟩ := mem_ready.1 hi
     have hi' : i < ops.size := (Array.getElem?_eq_some_iff.1 ho).1
     have hil : i < l.length := by omega
     refine ⟨l[i].1, ?_⟩
     have := mem_ready1 (done := done) (l := l) (i := 0) (j := i) (m := l[i].1) (ps := l[i].2) (List.getElem?_eq_getElem hil) ?_
     ·rwa [Nat.zero_add] at this
     ·rw [Nat.zero_add]
      have hps : l[i].2 = predsOf o := by
       have h2 : (l.map (·.2))[i]? = (ops.toList.map predsOf)[i]? := by rw [hl]
       rw [List.getElem?_map, List.getElem?_map, List.getElem?_eq_getElem hil, Array.getElem?_toList, ho] at h2
       simpa using h2
      rw [hd0 i hi'] at h1
      simp only [okR, h1, Bool.not_false, Bool.true_and, hps, predsOf, List.all_eq_true, List.mem_map, List.mem_filter]
      rintro k ⟨e, ⟨he1, he2⟩, rfl⟩
      have h3 := he e (by simpa using he1) he2
      by_cases hk : e.on < ops.size
      ·rw [← hd0 _ hk]
       rw [Array.getD_eq_getD_getElem?] at h3 ⊢
       rw [Array.getElem?_eq_getElem (by omega)] at h3 ⊢
       exact h3
      ·rw [Array.getD_eq_getD_getElem?, Array.getElem?_eq_none (by omega)] at h3
       cases h3
    ·rintro ⟨m, hm'⟩
     obtain ⟨-, ps, h1, h2⟩ := ready1_mem hm'
     rw [Nat.sub_zero] at h1
     have hil : i < l.length := (List.getElem?_eq_some_iff.1 h1).1
     have hi' : i < ops.size := by omega
     simp only [okR, Bool.and_eq_true, Bool.not_eq_true', List.all_eq_true] at h2
     have hps : ps = predsOf ops[i] := by
      have h3 : (l.map (·.2))[i]? = (ops.toList.map predsOf)[i]? := by rw [hl]
      rw [List.getElem?_map, List.getElem?_map, h1, Array.getElem?_toList, Array.getElem?_eq_getElem hi'] at h3
      simpa using h3
     refine mem_ready.2 ⟨by rw [hd0 i hi']; exact h2.1, ops[i], Array.getElem?_eq_getElem hi', fun e he hb => ?_⟩
     have h3 := h2.2 e.on (by rw [hps, predsOf]; exact List.mem_map.2 ⟨e, List.mem_filter.2 ⟨by simpa using he, hb⟩, rfl⟩)
     have hk : e.on < ops.size := hlt _ (by simpa using h3)
     have h4 := hd0 _ hk
     rw [h3] at h4
     rw [Array.getD_eq_getD_getElem?] at h4 ⊢
     rw [Array.getElem?_eq_getElem (by omega)] at h4 ⊢
     exact h4
   refine ⟨fun h0 => ?_, fun i hi => ?_⟩
   ·exfalso
    cases hrr : ready1 done 0 l with
    | nil => exact hv.1 hrr
    | cons x xs =>
     have := (hr x.1).2 ⟨x.2, by rw [hrr]; simp⟩
     rw [h0] at this; cases this
   ·obtain ⟨m, hm'⟩ := (hr i).1 hi
    have hone := evAlt_mem hv.2 hm'
    obtain ⟨-, ps, h1, h2⟩ := ready1_mem hm'
    rw [Nat.sub_zero] at h1
    have hil : i < l.length := (List.getElem?_eq_some_iff.1 h1).1
    have hi' : i < ops.size := by omega
    have hml : (l.map (·.1))[i]? = some m := by rw [List.getElem?_map, h1]; rfl
    have hcm := hget i ops[i] m (by simp [hi']) hml
    have hdm := List.all_eq_true.1 hd m (List.mem_of_getElem? hml)
    simp only [okR, Bool.and_eq_true, Bool.not_eq_true'] at h2
    have hni : i ∉ done := fun hm => by have := h2.1; simp [hm] at this
    refine wpOp_mono (fun a' w' ⟨g', S', e1, e2⟩ => ?_) (evOp_sound (P := P) (ops := ops) (Q := Q) (K := fun S' => evAny P l K n (i :: done) S') hS (Array.getElem?_eq_getElem hi') hcm hdm hone)
    refine ih (i :: done) _ g' S' a' w' (by simpa using hsz) (fun k hk => ?_) (by simp; omega) (List.nodup_cons.2 ⟨hni, hnd⟩) (fun k hk => ?_) e1 e2
    ·rw [Array.getD_eq_getD_getElem?, Array.getElem?_setIfInBounds]
     by_cases hki : i = k
     ·subst hki; simp [hsz, hi']
     ·rw [if_neg hki]
      have := hd0 k hk
      rw [Array.getD_eq_getD_getElem?] at this
      rw [this]
      simp [Ne.symm hki]
    ·rcases List.mem_cons.1 hk with rfl | hk
     ·exact hi'
     ·exact hlt k hk
 have hS0 := hS.drew (w.drawn + 1) (Nat.le_succ _)
 refine key ops.size [] _ g S a _ (by simp) (fun k hk => ?_) (by simp) List.nodup_nil (fun k hk => by simp at hk) hS0 (by rw [← hll]; exact hv)
 rw [Array.getD_eq_getD_getElem?]
 simp [hk]
theorem pickL_lkp {α β : Type} [DecidableEq α] {t : α} {d : β} {l : List (α × β)} : ∀ {ks : List α}, lkp t (pickL ks l) = some d → lkp t l = some d
 | [], h => by simp [pickL, lkp] at h
 | k :: ks, h => by
  simp only [pickL] at h
  split at h
  ·rename_i d' hk
   simp only [lkp] at h
   split at h
   ·rename_i he; subst he; rw [hk]; exact h
   ·exact pickL_lkp h
  ·exact pickL_lkp h
theorem SR.trim (h : SR w0 W F0 V N g S a w) (ts os : List Nat) (gs : List Tag) : SR w0 W F0 V N g (S.trim ts os gs) a w :=
 h.sub (fun _ _ hd => pickL_lkp hd) (fun _ _ hd => pickL_lkp hd) (fun _ _ hd => pickL_lkp hd)
theorem SR.fz : ∀ {ts : List Nat} {S S' : St} {g : Gh}, SR w0 W F0 V N g S a w → S.fz ts = some S' → ∃ g', SR w0 W F0 V N g' S' a w
 | [], S, S', g, h, hf => by
  simp only [St.fz, Option.some.injEq] at hf; subst hf
  exact ⟨g, h⟩
 | t :: ts, S, S', g, h, hf => by
  simp only [St.fz] at hf
  split at hf
  ·rename_i d hd
   split at hf
   ·rename_i f hfr
    split at hf
    ·rename_i hl
     have hr := frz_sound h.core (live_all hl) d (h.core.env t d hd) (fun t ht => ht) hfr
     exact ((h.share d.tags).putSame (t := t) (d := f) (.fz _ _ hr)).fz hf
    ·cases hf
   ·cases hf
  ·cases hf
theorem SR.fzB {o : Nat} (h : SR w0 W F0 V N g S a w) (hf : S.fzB o = some S') : ∃ g', SR w0 W F0 V N g' S' a w := by
 unfold St.fzB at hf
 split at hf
 ·rename_i cs hb
  split at hf
  ·rename_i fs hfs
   split at hf
   ·rename_i hl
    obtain ⟨hl, hob⟩ := hl
    have hob : o < mapB := by rw [Nat.ble_eq] at hob; unfold mapB; omega
    injection hf with hf; subst hf
    have hs := h.share (tagsL cs)
    have hb' : (S.share (tagsL cs)).box o = some cs := hb
    obtain ⟨b, k, vs, e, hμ, h2, h3, h4⟩ := hs.core.box o cs hb'
    have hl' : ∀ t ∈ tagsL cs, ∃ x, (S.share (tagsL cs)).tag t = some x := fun t ht => by
     obtain ⟨x, hx⟩ := live_all hl t ht
     exact ⟨_, by rw [share_tag, hx]; rfl⟩
    obtain ⟨l1, r1⟩ := frzL_sound hs.core hl' cs hfs (fun t ht => ht)
    have hc := hs.core.fzb (fs := fs) hb' hμ l1 (fun j d e' u hd he hr => (r1 j d u hd e' he hr).mono (fun b' k' hF => by
     rcases hF with hF | ⟨t, ht, x, ti, q1, q2, q3⟩
     ·exact hF
     ·rw [share_tag] at q1
      obtain ⟨x0, q4, _⟩ := Option.map_eq_some_iff.1 q1
      exact .inr ⟨t, ht, x0, ti, q4, q2, q3⟩) (fun _ _ _ => rfl)) hob
    refine ⟨_, hc, ⟨fun o' c b' k' i hc' hμ' hi => ?_, hs.wr.tag⟩, hs.keep, hs.size, hs.defers, fun b' k' hF => .inl (hs.fext b' k' hF), fun b' k' hF => ?_, hs.cap, hs.pin⟩
    ·rw [fzb_box] at hc'
     split at hc'
     ·cases hc'
     ·obtain ⟨c0, h5, rfl⟩ := Option.map_eq_some_iff.1 hc'
      exact hs.wr.box o' c0 b' k' i h5 hμ' (by simpa using hi)
    ·rcases hF with hF | ⟨e1, e2, e3⟩
     ·exact hs.fnew b' k' hF
     ·subst e1
      have := hs.wr.box o cs b' k (k' - k) hb' hμ (by omega)
      rw [show k + (k' - k) = k' by omega] at this
      exact .inr this
   ·cases hf
  ·cases hf
 ·cases hf
theorem SR.reBox {o : Nat} {cs cs' : List D} (h : SR w0 W F0 V N g S a w) (hb : S.box o = some cs) (hl : cs'.length = cs.length)
    (hr : ∀ (i : Nat) (d : D) (u : Value), cs'[i]? = some d → (∀ d0, cs[i]? = some d0 → Rep g w d0 u) → Rep g w d u) : SR w0 W F0 V N g (S.setBox o cs') a w := by
 have old : ∀ o' c, (S.setBox o cs').box o' = some c → ∃ c0, S.box o' = some c0 ∧ c0.length = c.length := fun o' c hb' => by
  rw [setBox_box] at hb'
  split at hb'
  ·rename_i he; subst he; injection hb' with hb'; subst hb'
   exact ⟨cs, hb, hl.symm⟩
  ·exact ⟨c, hb', rfl⟩
 refine ⟨⟨h.core.env, fun o' c hb' => ?_, fun o' c b k i hb' hμ hi => ?_, fun o1 o2 c1 c2 b k k' hb1 hb2 h1 h2 i i' hi hi' he => ?_, h.core.tag, fun t x ti o' c b k ht hti hb' hμ => ?_, h.core.tagI, h.core.frz⟩,
  ⟨fun o' c b k i hb' hμ hi => ?_, h.wr.tag⟩, h.keep, h.size, h.defers, h.fext, h.fnew, h.cap, h.pin⟩
 ·rw [setBox_box] at hb'
  split at hb'
  ·rename_i he; subst he; injection hb' with hb'; subst hb'
   obtain ⟨b, k, vs, e, h1, h2, h3, h4⟩ := h.core.box _ cs hb
   exact ⟨b, k, vs, e, h1, h2.keep (fun _ h => h) hl, by omega, fun i d u hd hu => hr i d u hd fun d0 hd0 => h4 i d0 u hd0 hu⟩
  ·exact h.core.box o' c hb'
 ·obtain ⟨c0, h1, h2⟩ := old o' c hb'
  exact h.core.boxF o' c0 b k i h1 hμ (by omega)
 ·obtain ⟨d1, h3, h4⟩ := old o1 c1 hb1
  obtain ⟨d2, h5, h6⟩ := old o2 c2 hb2
  exact h.core.boxI o1 o2 d1 d2 b k k' h3 h5 h1 h2 i i' (by omega) (by omega) he
 ·obtain ⟨c0, h1, -⟩ := old o' c hb'
  exact h.core.tagB t x ti o' c0 b k ht hti h1 hμ
 ·obtain ⟨c0, h1, h2⟩ := old o' c hb'
  exact h.wr.box o' c0 b k i h1 hμ (by omega)
theorem SR.ownB {o : Nat} : ∀ {l : List (Nat × Tag)} {S S' : St} {g : Gh}, SR w0 W F0 V N g S a w → S.ownB o l = some S' → ∃ g', SR w0 W F0 V N g' S' a w
 | [], S, S', g, h, hf => by
  simp only [St.ownB, Option.some.injEq] at hf; subst hf
  exact ⟨g, h⟩
 | (off, t) :: l, S, S', g, h, hf => by
  simp only [St.ownB] at hf
  split at hf
  ·rename_i cs hb
   split at hf
   ·rename_i hc
    split at hf
    ·rename_i hlt
     have h1 := h.newRow (w' := w) t { v := .slice none 0 0, e := t.2.1, sz := t.2.2, n := 0, xs := [], shape := .inl ⟨rfl, rfl⟩ } ⟨rfl, rfl⟩ (Keep.refl _ w) (fun _ _ h => h) (World.ownsRow_nil w 0 _ _) (by simp) (fun b hb => by simp [Value.ownBlock] at hb) (fun hge => absurd hge (Nat.not_le.2 hlt))
     refine (h1.reBox (cs' := cs.set off (.sl (some t) [])) hb (by simp) fun i d u hd hu => ?_).ownB hf
     rw [List.getElem?_set] at hd
     split at hd
     ·rename_i he; subst he
      split at hd
      ·injection hd with hd; subst hd
       rw [(hu _ hc).val_inv]
       exact Rep.slT t [] { v := .slice none 0 0, e := t.2.1, sz := t.2.2, n := 0, xs := [], shape := .inl ⟨rfl, rfl⟩ } (if_pos rfl) rfl (fun i e h => by simp at h) (fun i e j d h => by simp at h)
      ·cases hd
     ·exact hu d hd
    ·cases hf
   ·cases hf
  ·cases hf
theorem lkp_envren (f : Nat → Option Nat) (h : Tag → Option Tag) (l : List (Nat × D)) (t : Nat) : lkp t (l.map fun x => (x.1, x.2.ren f h)) = (lkp t l).map (D.ren f h) := by
 induction l with
 | nil => rfl
 | cons x l ih =>
  obtain ⟨k, v⟩ := x
  simp only [List.map_cons, lkp]
  split
  ·rfl
  ·exact ih
theorem SR.ren {bs : List (Nat × Nat)} {ts : List (Tag × Tag)} (h : SR w0 W F0 V N g S a w) (hf : S.ren bs ts = some S') : ∃ g', SR w0 W F0 V N g' S' a w := by
 unfold St.ren at hf
 split at hf
 ·rename_i hc
  rw [Bool.and_eq_true] at hc
  obtain ⟨hok, hts0⟩ := hc
  obtain ⟨hin, hin_, rfl⟩ := Option.map_eq_some_iff.1 hf
  simp only [renOk, Bool.and_eq_true, List.all_eq_true, decide_eq_true_eq, Bool.or_eq_true, beq_iff_eq, Nat.ble_eq] at hok
  obtain ⟨⟨⟨⟨⟨k1, k2⟩, b1⟩, b2⟩, t1⟩, t2⟩ := hok
  have hts : ∀ t t', (t, t') ∈ ts → S.tag t = some true := fun t t' hm => by
   have := List.all_eq_true.1 hts0 _ hm
   simpa using this
  let g2 : Gh := ⟨fun o' => (lkp o' (swap bs)).bind g.μ, fun t' => (lkp t' (swap ts)).bind g.τ, g.F⟩
  have eμ : ∀ o o', (o, o') ∈ bs → g2.μ o' = g.μ o := fun o o' hm => by
   simp only [g2, lkp_of_mem (by rw [swap_fst]; exact b2) (mem_swap.2 hm), Option.bind_some]
  have eτ : ∀ o o', (o, o') ∈ ts → g2.τ o' = g.τ o := fun o o' hm => by
   simp only [g2, lkp_of_mem (by rw [swap_fst]; exact t2) (mem_swap.2 hm), Option.bind_some]
  have rep : ∀ {d : D} {v : Value}, Rep g w d v → Rep g2 w (d.ren (fwd bs) (fwd ts)) v := fun hd =>
   hd.ren (fun o o' b h1 h2 => by rw [eμ _ _ (lkp_mem h1)]; exact h2) (fun o o' h1 => (k1 _ (lkp_mem h1)).1) (fun t t' ti h1 h2 => by rw [eτ _ _ (lkp_mem h1)]; exact h2) (fun _ _ h => h) (fun _ _ _ => rfl)
  have unbox : ∀ o' cs', lkp o' hin = some cs' → ∃ o cs, (o, o') ∈ bs ∧ S.box o = some cs ∧ cs' = cs.map (D.ren (fwd bs) (fwd ts)) := fun o' cs' hb => by
   obtain ⟨o, cs, h1, h2, h3⟩ := seenH_at hin_ o' cs' hb
   exact ⟨o, cs, h1, h2, by rw [h3, renL_map]⟩
  have untag : ∀ t' x, lkp t' (ts.map fun x => (x.2, true)) = some x → x = true ∧ ∃ t, (t, t') ∈ ts := fun t' x hx => by
   obtain ⟨⟨t, t2⟩, h1, h2⟩ := List.mem_map.1 (lkp_mem hx)
   injection h2 with h2 h3; simp only at h2 h3; subst h2
   exact ⟨h3.symm, t, h1⟩
  refine ⟨g2, ⟨⟨fun t d hd => ?_, fun o' cs' hb => ?_, fun o' cs' b k i hb hμ hi => ?_, fun o1' o2' c1' c2' b k k' hb1 hb2 hμ1 hμ2 i i' hi hi' he => ?_, fun t' x ht => ?_, fun t' x ti o' cs' b k ht hti hb hμ => ?_, fun t1' x1 ti1 t2' x2 ti2 b h1 h2 h3 h4 h5 h6 => ?_, h.core.frz⟩,
   ⟨fun o' cs' b k i hb hμ hi => ?_, fun t' x ti b ht hti hb => ?_⟩, h.keep, h.size, h.defers, h.fext, h.fnew, h.cap, ⟨fun t' ti ht hti => ?_, fun o' b ho hb => ?_⟩⟩⟩
  ·have hd' : lkp t (S.env.map fun x => (x.1, x.2.ren (fwd bs) (fwd ts))) = some d := hd
   rw [lkp_envren] at hd'
   obtain ⟨d0, h3, rfl⟩ := Option.map_eq_some_iff.1 hd'
   exact rep (h.core.env t d0 h3)
  ·obtain ⟨o, cs, h1, h2, rfl⟩ := unbox o' cs' hb
   obtain ⟨b, k, ws, e, h3, h4, h5, h6⟩ := h.core.box o cs h2
   refine ⟨b, k, ws, e, by rw [eμ _ _ h1]; exact h3, h4.kind (k1 _ h1).1, by simpa using h5, fun i d u hd hu => ?_⟩
   rw [List.getElem?_map] at hd
   obtain ⟨d0, h7, rfl⟩ := Option.map_eq_some_iff.1 hd
   exact rep (h6 i d0 u h7 hu)
  ·obtain ⟨o, cs, h1, h2, rfl⟩ := unbox o' cs' hb
   rw [eμ _ _ h1] at hμ
   exact h.core.boxF o cs b k i h2 hμ (by simpa using hi)
  ·obtain ⟨o1, c1, e1, f1, rfl⟩ := unbox o1' c1' hb1
   obtain ⟨o2, c2, e2, f2, rfl⟩ := unbox o2' c2' hb2
   rw [eμ _ _ e1] at hμ1
   rw [eμ _ _ e2] at hμ2
   have := h.core.boxI o1 o2 c1 c2 b k k' f1 f2 hμ1 hμ2 i i' (by simpa using hi) (by simpa using hi') he
   subst this
   exact nodup_fst b1 e1 e2
  ·obtain ⟨rfl, t, h1⟩ := untag t' x ht
   obtain ⟨ti, h2, h3⟩ := h.core.tag t true (hts t t' h1)
   refine ⟨ti, by rw [eτ _ _ h1]; exact h2, ?_, h3.own, h3.one, h3.out, h3.inn⟩
   rw [← (k2 _ h1).1]; exact h3.ty
  ·obtain ⟨rfl, t, h1⟩ := untag t' x ht
   obtain ⟨o, cs, e1, f1, rfl⟩ := unbox o' cs' hb
   rw [eτ _ _ h1] at hti
   rw [eμ _ _ e1] at hμ
   exact h.core.tagB t true ti o cs b k (hts t t' h1) hti f1 hμ
  ·obtain ⟨rfl, t1', e1⟩ := untag t1' x1 h1
   obtain ⟨rfl, t2', e2⟩ := untag t2' x2 h3
   rw [eτ _ _ e1] at h2
   rw [eτ _ _ e2] at h4
   have := h.core.tagI _ true ti1 _ true ti2 b (hts _ _ e1) h2 (hts _ _ e2) h4 h5 h6
   subst this
   exact nodup_fst t1 e1 e2
  ·obtain ⟨o, cs, e1, f1, rfl⟩ := unbox o' cs' hb
   rw [eμ _ _ e1] at hμ
   exact h.wr.box o cs b k i f1 hμ (by simpa using hi)
  ·obtain ⟨rfl, t, h1⟩ := untag t' x ht
   rw [eτ _ _ h1] at hti
   exact h.wr.tag t true ti b (hts t t' h1) hti hb
  ·have : ∃ t, (t, t') ∈ ts ∧ g.τ t = some ti := by
     simp only [g2] at hti
     obtain ⟨t, h1, h2⟩ := Option.bind_eq_some_iff.1 hti
     exact ⟨t, mem_swap.1 (lkp_mem h1), h2⟩
   obtain ⟨t, h1, h2⟩ := this
   rcases (k2 _ h1).2 with h3 | h3
   ·simp only at h3; omega
   ·simp only at h3; subst h3
    exact h.pin.1 t ti ht h2
  ·have : ∃ o, (o, o') ∈ bs ∧ g.μ o = some b := by
     simp only [g2] at hb
     obtain ⟨t, h1, h2⟩ := Option.bind_eq_some_iff.1 hb
     exact ⟨t, mem_swap.1 (lkp_mem h1), h2⟩
   obtain ⟨o, h1, h2⟩ := this
   rcases (k1 _ h1).2 with h3 | h3
   ·simp only at h3; omega
   ·simp only at h3; subst h3
    exact h.pin.2 o b ho h2
 ·cases hf
theorem SR.fzC {o off : Nat} (h : SR w0 W F0 V N g S a w) (hf : S.fzC o off = some S') : ∃ g', SR w0 W F0 V N g' S' a w := by
 unfold St.fzC at hf
 split at hf
 ·rename_i cs hb
  split at hf
  ·rename_i t es hc
   split at hf
   ·rename_i hl
    injection hf with hf; subst hf
    have hs := h.share [t]
    have hb' : (S.share [t]).box o = some cs := hb
    have hl' : ∀ t' ∈ tagsL [.sl (some t) es], ∃ x, (S.share [t]).tag t' = some x := fun t' ht => by
     have : t' = t := by simpa [tagsL, D.tags] using ht
     subst this
     obtain ⟨x, hx⟩ := Option.isSome_iff_exists.1 hl
     exact ⟨_, by rw [share_tag, hx]; rfl⟩
    obtain ⟨l1, r1⟩ := frzL_sound hs.core hl' [.sl (some t) es] (es := [.sl none es]) rfl (fun t ht => ht)
    refine ⟨_, hs.reBox (cs' := cs.set off (.sl none es)) hb' (by simp) fun i d u hd hu => ?_⟩
    rw [List.getElem?_set] at hd
    split at hd
    ·rename_i he; subst he
     split at hd
     ·injection hd with hd; subst hd
      refine .fz _ _ ((r1 0 (.sl none es) u rfl (.sl (some t) es) rfl (hu _ hc)).mono (fun b' k' hF => ?_) (fun _ _ _ => rfl))
      rcases hF with hF | ⟨t', ht, x, ti, q1, q2, q3⟩
      ·exact hF
      ·rw [share_tag] at q1
       obtain ⟨x0, q4, _⟩ := Option.map_eq_some_iff.1 q1
       have : t' = t := by simpa [tagsL, D.tags] using ht
       subst this
       exact .inr ⟨t', by simp, x0, ti, q4, q2, q3⟩
     ·cases hd
    ·exact hu d hd
   ·cases hf
  ·cases hf
 ·cases hf
theorem SR.shr {k : Nat} (h : SR w0 W F0 V N g S a w) (hf : S.shr k = some S') : ∃ g', SR w0 W F0 V N g' S' a w := by
 unfold St.shr at hf
 split at hf
 ·rename_i t lo n es hk
  split at hf
  ·rename_i hc
   obtain ⟨rfl, hpos, hn, ht, hlt⟩ := hc
   injection hf with hf; subst hf
   have hr := h.core.env k _ hk
   generalize hvk : a.tmps.getD k undef = vk at hr
   cases hr with
   | fz _ _ hr => cases hr
   | part _ _ _ _ ti _ hpv hti hne hlo hl hr =>
    obtain ⟨ti0, q1, q2⟩ := h.core.tag t true ht
    rw [hti] at q1; injection q1 with q1; subst q1
    obtain ⟨b, c, hv0⟩ : ∃ b c, ti.v = .slice (some ⟨b, 0, none⟩) ti.n c := by
     rcases ti.shape with ⟨h1, h2⟩ | h1
     ·omega
     ·exact h1
    have hob : ti.v.ownBlock = some b := by rw [hv0]; rfl
    rw [hv0] at hpv
    obtain ⟨p, rfl, hp⟩ := hpv
    obtain ⟨cur, hheap, hcap, hmax, hsize, htake⟩ : ∃ cur, w.heap[b]? = some (.cells cur ti.e (0, 0)) ∧ ti.n ≤ c ∧ c ≤ maxLen ∧ cur.size = c * ti.sz ∧ cur.toList.take (ti.n * ti.sz) = ti.xs := by
     rcases q2.own.2 with ⟨h1, _⟩ | ⟨gg, cap, cur, h1, _, h2, h3, h4, h5, h6⟩
     ·rw [hv0] at h1; cases h1
     ·rw [hv0] at h1; injection h1 with h1 _ h7; injection h1 with h1; injection h1 with h1; subst h1; subst h7
      exact ⟨cur, h2, h3, h4, h5, h6⟩
    rw [hp (by omega)] at hvk
    have hle : n * ti.sz ≤ ti.n * ti.sz := Nat.mul_le_mul_right _ (by omega)
    let ti' : TI := { v := .slice (some ⟨b, 0, none⟩) n c, e := ti.e, sz := ti.sz, n := n, xs := ti.xs.take (n * ti.sz), shape := .inr ⟨_, _, rfl⟩ }
    have hown' : w.ownsRow 0 ti'.e ti'.sz ti'.v ti'.n ti'.xs := by
     refine ⟨by simp only [ti', List.length_take, q2.own.1]; omega, .inr ⟨b, c, cur, rfl, Nat.zero_le _, hheap, by simp only [ti']; omega, hmax, hsize, ?_⟩⟩
     simp only [ti']
     rw [← htake, List.take_take, Nat.min_eq_left hle]
    have own_b : Own g S t b := ⟨ht, ti, hti, hob⟩
    have hn2 := h.newRowU (w' := w) t ti' g.F q2.ty (Keep.refl _ w) hown' (fun u hu => q2.one u (List.mem_of_mem_take hu)) (fun b' hb' => .inr (by
     have : b' = b := by simpa [ti', Value.ownBlock] using hb'.symm
     subst this; exact own_b)) (fun _ _ h => h) (fun _ _ h => .inl h) (fun hge => absurd hge (by have := Nat.le_of_ble_eq_true hlt; omega))
    have hvk' : a.tmps.getD k undef = ti'.v := by rw [hvk]; simp [ti']
    refine ⟨_, hn2.putSame (t := k) ?_⟩
    rw [hvk']
    refine .slT t _ ti' (if_pos rfl) (by simp [ti']; omega) (fun i e he => ?_) (fun i e j d he hd => ?_)
    ·rw [List.getElem?_take] at he
     split at he
     ·exact hl i e he
     ·cases he
    ·rw [List.getElem?_take] at he
     split at he
     ·rename_i hi
      obtain ⟨u, h1, h2⟩ := hr i e j d he hd
      have hjl : j < ti.sz := by rw [← hl i e he]; exact (List.getElem?_eq_some_iff.1 hd).1
      have : i * ti.sz + ti.sz ≤ n * ti.sz := by
       have : (i + 1) * ti.sz ≤ n * ti.sz := Nat.mul_le_mul_right _ hi
       rwa [Nat.succ_mul] at this
      refine ⟨u, ?_, h2⟩
      show (ti.xs.take (n * ti.sz))[i * ti.sz + j]? = some u
      rw [List.getElem?_take, if_pos (by omega)]; exact h1
     ·cases he
  ·cases hf
 ·cases hf
theorem dstOk_strip (m : MO) : dstOk N m.strip = dstOk N m := by
 obtain ⟨dst, op, guard⟩ := m
 cases op <;> first | rfl | (rename_i k; cases k <;> rfl)
theorem allOk_strip {ms : List MO} (h : (ms.map MO.strip).all (dstOk N) = true) : ms.all (dstOk N) = true := by
 rw [List.all_map] at h
 rw [← h]
 congr 1
 funext m
 exact (dstOk_strip m).symm
theorem draw2_len {ms : List (MO × DK)} (h : Draw2Ok ops ms) : ms.length = ops.toList.length := by rw [h.len]; simp
theorem comp_region {id : Nat} {draw : Bool} {h m' : MC} (hc : comp P N (.region id ops draw) h = some m') : ∃ ms, compOps P ops ops.toList = some ms ∧ ms.all (dstOk N) = true ∧
    ((draw = false ∧ m' = .reg ms) ∨ (draw = true ∧ ∃ q k, h = .dreg q k ∧ drawB ops ms q = true ∧ m' = .dreg q ms) ∨ (draw = true ∧ ∃ ks, h = .dreg2 ks ∧ drawB2 ops (ms.zip (ks.map (·.2))) = true ∧ m' = .dreg2 (ms.zip (ks.map (·.2)))) ∨
     (draw = true ∧ ∃ ks, h = .dany ks ∧ m' = .dany (ms.zip (ops.toList.map predsOf)))) := by
 simp only [comp] at hc
 split at hc
 ·rename_i ms hms
  split at hc
  ·rename_i hd
   refine ⟨ms, hms, hd, ?_⟩
   split at hc
   ·injection hc with hc; exact .inl ⟨rfl, hc.symm⟩
   ·split at hc
    ·rename_i q k hB
     injection hc with hc; exact .inr (.inl ⟨rfl, _, _, rfl, hB, hc.symm⟩)
    ·cases hc
   ·split at hc
    ·rename_i hB
     injection hc with hc; exact .inr (.inr (.inl ⟨rfl, _, rfl, hB, hc.symm⟩))
    ·cases hc
   ·injection hc with hc; exact .inr (.inr (.inr ⟨rfl, _, rfl, hc.symm⟩))
   ·cases hc
  ·cases hc
 ·cases hc
theorem ev_sound (hm : P.follows .mixedOrders = true) : ∀ (m : MC) (c : Code) (g : Gh) (S : St) (a : Act) (w : World) (K : Ex → St → Prop) (Q : Exit → Act → World → Prop), comp P N c m.strip = some m.strip → SR w0 W F0 V N g S a w → ev P m S K →
    (∀ e g' S' a' w', SR w0 W F0 V N g' S' a' w' → K e S' → Q e.up a' w') → c.wp P Q a w := by
 intro m
 induction m with
 | skip =>
  intro c g S a w K Q hc hS hv hQ
  cases c <;> simp only [comp, MC.strip] at hc <;> (repeat' (split at hc)) <;> (try (cases hc; done))
  exact wp_skip (hQ _ _ _ _ _ hS hv)
 | reg ms =>
  intro c g S a w K Q hc hS hv hQ
  cases c <;> simp only [MC.strip] at hc <;> try (simp only [comp] at hc; (repeat' (split at hc)) <;> cases hc; done)
  obtain ⟨ms0, h1, h2, ⟨rfl, h3⟩ | ⟨rfl, q, k, h3, h4, h5⟩ | ⟨rfl, ks, h3, h4, h5⟩ | ⟨rfl, ks, h3, h5⟩⟩ := comp_region hc
  ·injection h3 with h3; subst h3
   exact reg_sound h1 (allOk_strip h2) hS hv (fun g' S' a' w' h1 h2 => hQ .normal g' S' a' w' h1 h2)
  all_goals cases h5
 | dreg q ms =>
  intro c g S a w K Q hc hS hv hQ
  cases c <;> simp only [MC.strip] at hc <;> try (simp only [comp] at hc; (repeat' (split at hc)) <;> cases hc; done)
  obtain ⟨ms0, h1, h2, ⟨rfl, h3⟩ | ⟨rfl, q', k, h3, h4, h5⟩ | ⟨rfl, ks, h3, h4, h5⟩ | ⟨rfl, ks, h3, h5⟩⟩ := comp_region hc
  ·cases h3
  ·injection h5 with h5 h6; subst h5; subst h6
   exact draw_sound hm h1 (allOk_strip h2) h4 hS hv (fun g' S' a' w' h1 h2 => hQ .normal g' S' a' w' h1 h2)
  all_goals cases h5
 | dreg2 ms =>
  intro c g S a w K Q hc hS hv hQ
  cases c <;> simp only [MC.strip] at hc <;> try (simp only [comp] at hc; (repeat' (split at hc)) <;> cases hc; done)
  obtain ⟨ms0, h1, h2, ⟨rfl, h3⟩ | ⟨rfl, q', k, h3, h4, h5⟩ | ⟨rfl, ks, h3, h4, h5⟩ | ⟨rfl, ks, h3, h5⟩⟩ := comp_region hc
  ·cases h3
  ·cases h5
  ·injection h5 with h5
   injection h3 with h3
   have hlen : (ms.map fun x => (x.1.strip, x.2)).length = ms0.length := by
    have e1 := (draw2_len (drawB2_ok h4)).trans (compOps_get0 h1).1.symm
    rw [h5]; simpa using e1
   have h0 : (ms.map (·.1)).map MO.strip = ms0 := by
    have e2 : ((ms.map fun x => (x.1.strip, x.2)).map (·.1)) = ms0 := by
     rw [h5, List.map_fst_zip]
     rw [← h3]; simpa using Nat.le_of_eq hlen.symm
    rw [← e2]; simp [List.map_map, Function.comp_def]
   rw [← h5] at h4
   exact draw2_sound hm (h1.trans (congrArg some h0.symm)) (allOk_strip (by rw [h0]; exact h2)) h4 hS hv (fun g' S' a' w' h1 h2 => hQ .normal g' S' a' w' h1 h2)
  ·cases h5
 | dany ms =>
  intro c g S a w K Q hc hS hv hQ
  cases c <;> simp only [MC.strip] at hc <;> try (simp only [comp] at hc; (repeat' (split at hc)) <;> cases hc; done)
  rename_i ops _
  obtain ⟨ms0, h1, h2, ⟨rfl, h3⟩ | ⟨rfl, q', k, h3, h4, h5⟩ | ⟨rfl, ks, h3, h4, h5⟩ | ⟨rfl, ks, h3, h5⟩⟩ := comp_region hc
  ·cases h3
  ·cases h5
  ·cases h5
  ·injection h5 with h5
   have hlen : ms0.length = (ops.toList.map predsOf).length := by rw [List.length_map]; exact (compOps_get0 h1).1
   have h0 : (ms.map (·.1)).map MO.strip = ms0 := by
    have e2 : ((ms.map fun x => (x.1.strip, x.2)).map (·.1)) = ms0 := by rw [h5, List.map_fst_zip (by omega)]
    rw [← e2]; simp [List.map_map, Function.comp_def]
   have h6 : ms.map (·.2) = ops.toList.map predsOf := by
    have e2 : ((ms.map fun x => (x.1.strip, x.2)).map (·.2)) = ops.toList.map predsOf := by rw [h5, List.map_snd_zip (by omega)]
    rw [← e2]; simp [List.map_map, Function.comp_def]
   exact dany_sound hm h6 (h1.trans (congrArg some h0.symm)) (allOk_strip (by rw [h0]; exact h2)) hS hv (fun g' S' a' w' h1 h2 => hQ .normal g' S' a' w' h1 h2)
 | bad => intro c g S a w K Q hc hS hv hQ; exact hv.elim
 | seq x y ihx ihy =>
  intro c g S a w K Q hc hS hv hQ
  cases c <;> simp only [comp, MC.strip] at hc <;> (repeat' (split at hc)) <;> (try (cases hc; done))
  rename_i hx hy
  injection hc with hc; injection hc with hc1 hc2; subst hc1; subst hc2
  refine wp_seq (ihx _ g S a w _ _ hx hS hv (fun e g' S' a' w' h1 h2 => ?_))
  cases e with
  | normal => exact ihy _ g' S' a' w' K Q hy h1 h2 hQ
  | exit id => exact hQ _ _ _ _ _ h1 h2
  | ret => exact hQ _ _ _ _ _ h1 h2
 | cond o x y ihx ihy =>
  intro c g S a w K Q hc hS hv hQ
  cases c <;> simp only [comp, MC.strip] at hc <;> (repeat' (split at hc)) <;> (try (cases hc; done))
  rename_i hx hy
  injection hc with hc; injection hc with hc0 hc1 hc2; subst hc0; subst hc1; subst hc2
  simp only [ev] at hv
  split at hv
  ·rename_i t hl
   exact wp_cond_split (t := t) ((hS.core.look hl).val_inv) (fun ht => ihx _ g S a w K Q hx hS (hv.1 ht) hQ) (fun ht => ihy _ g S a w K Q hy hS (hv.2 ht) hQ)
  ·exact hv.elim
 | block id x ih =>
  intro c g S a w K Q hc hS hv hQ
  cases c <;> simp only [comp, MC.strip] at hc <;> (repeat' (split at hc)) <;> (try (cases hc; done))
  rename_i hx
  injection hc with hc; injection hc with hc0 hc1; subst hc0; subst hc1
  refine wp_block (ih _ g S a w _ _ hx hS hv (fun e g' S' a' w' h1 h2 => ?_))
  cases e with
  | normal => exact hQ _ _ _ _ _ h1 h2
  | exit id' =>
   simp only [Ex.up, Exit.inBlock]
   simp only at h2
   split
   ·rename_i he; rw [if_pos he] at h2; exact hQ .normal _ _ _ _ h1 h2
   ·rename_i he; rw [if_neg he] at h2; exact hQ (.exit id') _ _ _ _ h1 h2
  | ret => exact hQ .ret _ _ _ _ h1 h2
 | loop x ih =>
  intro c g S a w K Q hc hS hv hQ
  cases c <;> simp only [comp, MC.strip] at hc <;> (repeat' (split at hc)) <;> (try (cases hc; done))
  rename_i body _ hx
  injection hc with hc; injection hc with hc0; subst hc0
  obtain ⟨n, hn⟩ := hv
  refine wp_loop_rounds n ?_
  induction n generalizing g S a w with
  | zero => exact hn.elim
  | succ n ihn =>
   rw [rounds_succ]
   simp only [iter] at hn
   refine ih _ g S a w _ _ hx hS hn (fun e g' S' a' w' h1 h2 => ?_)
   cases e with
   | normal => exact ihn g' S' a' w' h1 h2
   | exit id => exact hQ _ _ _ _ _ h1 h2
   | ret => exact hQ _ _ _ _ _ h1 h2
 | loop2 y x ihy ih =>
  intro c g S a w K Q hc hS hv hQ
  obtain ⟨he, n, hv⟩ := hv
  cases c <;> simp only [comp, MC.strip] at hc <;> (repeat' (split at hc)) <;> (try (cases hc; done))
  rename_i body _ hx
  injection hc with hc; injection hc with hc0; subst hc0
  refine wp_loop_rounds (n + 1) ?_
  rw [rounds_succ]
  refine ihy _ g S a w _ _ (by rw [he]; exact hx) hS hv (fun e g' S' a' w' h1 h2 => ?_)
  cases e with
  | exit id => exact hQ _ _ _ _ _ h1 h2
  | ret => exact hQ _ _ _ _ _ h1 h2
  | normal =>
   clear hv hS
   show Code.rounds _ _ _ n a' w'
   induction n generalizing g' S' a' w' with
   | zero => exact h2.elim
   | succ n ihn =>
    rw [rounds_succ]
    simp only [iter] at h2
    refine ih _ g' S' a' w' _ _ hx h1 h2 (fun e g1 S1 a1 w1 k1 k2 => ?_)
    cases e with
    | normal => exact ihn g1 S1 a1 w1 k1 k2
    | exit id => exact hQ _ _ _ _ _ k1 k2
    | ret => exact hQ _ _ _ _ _ k1 k2
 | exit id =>
  intro c g S a w K Q hc hS hv hQ
  cases c <;> simp only [comp, MC.strip] at hc <;> (repeat' (split at hc)) <;> (try (cases hc; done))
  injection hc with hc; injection hc with hc; subst hc
  exact wp_exit (hQ _ _ _ _ _ hS hv)
 | ret =>
  intro c g S a w K Q hc hS hv hQ
  cases c <;> simp only [comp, MC.strip] at hc <;> (repeat' (split at hc)) <;> (try (cases hc; done))
  exact wp_ret (hQ _ _ _ _ _ hS hv)
 | trim ts os gs x ih =>
  intro c g S a w K Q hc hS hv hQ
  exact ih c g _ a w K Q hc (hS.trim ts os gs) hv hQ
 | fz ts x ih =>
  intro c g S a w K Q hc hS hv hQ
  simp only [ev] at hv
  split at hv
  ·rename_i S' hf
   obtain ⟨g', h'⟩ := hS.fz hf
   exact ih c g' S' a w K Q hc h' hv hQ
  ·exact hv.elim
 | fzb o x ih =>
  intro c g S a w K Q hc hS hv hQ
  simp only [ev] at hv
  split at hv
  ·rename_i S' hf
   obtain ⟨g', h'⟩ := hS.fzB hf
   exact ih c g' S' a w K Q hc h' hv hQ
  ·exact hv.elim
 | own o l x ih =>
  intro c g S a w K Q hc hS hv hQ
  simp only [ev] at hv
  split at hv
  ·rename_i S' hf
   obtain ⟨g', h'⟩ := hS.ownB hf
   exact ih c g' S' a w K Q hc h' hv hQ
  ·exact hv.elim
 | shr k x ih =>
  intro c g S a w K Q hc hS hv hQ
  simp only [ev] at hv
  split at hv
  ·rename_i S' hf
   obtain ⟨g', h'⟩ := hS.shr hf
   exact ih c g' S' a w K Q hc h' hv hQ
  ·exact hv.elim
 | fzc o off x ih =>
  intro c g S a w K Q hc hS hv hQ
  simp only [ev] at hv
  split at hv
  ·rename_i S' hf
   obtain ⟨g', h'⟩ := hS.fzC hf
   exact ih c g' S' a w K Q hc h' hv hQ
  ·exact hv.elim
 | ren bs ts x ih =>
  intro c g S a w K Q hc hS hv hQ
  simp only [ev] at hv
  split at hv
  ·rename_i S' hf
   obtain ⟨g', h'⟩ := hS.ren hf
   exact ih c g' S' a w K Q hc h' hv hQ
  ·exact hv.elim
end Go.Vm

namespace Go.Vm
open Go.RowKit
variable {P : Program} {w0 w w' : World} {W F0 : Reg} {V : Pins} {N : Nat} {g g' : Gh} {S S' : St} {a : Act} {ops : Array Oper} {K K' : Ex → St → Prop}
theorem evOps_mono {J J' : St → Prop} (hJ : ∀ S, J S → J' S) : ∀ (ms : List MO) (S : St), evOps P ms S J → evOps P ms S J'
 | [], S, h => hJ S h
 | o :: ms, S, h => by
  have step : ∀ (m : MOp) (dst : Option Nat) (L L' : St → Prop), (∀ S, L S → L' S) → ∀ S, vstep P m dst S L → vstep P m dst S L' := fun m dst L L' hL S h => vstep_mono hL h
  simp only [evOps] at h ⊢
  split at h
  ·exact step _ _ _ _ (fun S' hS' => evOps_mono hJ ms S' hS') S h
  ·exact evOps_mono hJ ms _ h
  ·exact h.elim
theorem evDraw_mono {J J' : St → Prop} (hJ : ∀ S, J S → J' S) : ∀ (q : Nat) (ms : List MO) (S : St), evDraw P q ms S J → evDraw P q ms S J'
 | 0, ms, S, h => by simp only [evDraw] at h ⊢; exact evOps_mono hJ ms S h
 | q + 1, [], S, h => hJ S h
 | q + 1, m :: ms, S, h => by
  simp only [evDraw] at h ⊢
  split at h
  ·obtain ⟨d, h1, h2⟩ := h
   exact ⟨d, h1, evDraw_mono hJ q ms _ h2⟩
  ·exact evDraw_mono hJ q ms _ h
  ·exact h.elim
theorem evK_mono {κ : DK} : ∀ (ms : List (MO × DK)) {J J' : St → Prop}, (∀ S, J S → J' S) → ∀ (S : St), evK P κ ms S J → evK P κ ms S J'
 | [], _, _, hJ, S, h => hJ S h
 | (m, k) :: r, J, J', hJ, S, h => by
  simp only [evK] at h ⊢
  split
  ·rename_i hk
   rw [if_pos hk] at h
   split at h
   ·exact vstep_mono (fun S' h' => evK_mono r hJ S' h') h
   ·exact evK_mono r hJ _ h
   ·exact h.elim
  ·rename_i hk
   rw [if_neg hk] at h
   exact evK_mono r hJ S h
theorem evS_mono {os : List Nat} {ts : List Tag} : ∀ (ms : List (MO × DK)) {J J' : St → Prop}, (∀ S, J S → J' S) → ∀ (S : St), evS P os ts ms S J → evS P os ts ms S J'
 | [], _, _, hJ, S, h => hJ S h
 | (m, k) :: r, J, J', hJ, S, h => by
  cases k with
  | s =>
   simp only [evS] at h ⊢
   split at h
   ·exact ⟨h.1, vstep_mono (fun S' h' => evS_mono r hJ _ h') h.2⟩
   ·exact evS_mono r hJ _ h
   ·exact h.elim
  | q => exact evS_mono r hJ S h
  | a => exact evS_mono r hJ S h
  | h => exact evS_mono r hJ S h
theorem evQ_mono {os : List Nat} {ts : List Tag} : ∀ (ms : List (MO × DK)) {J J' : St → Prop}, (∀ S, J S → J' S) → ∀ (S : St), evQ P os ts ms S J → evQ P os ts ms S J'
 | [], _, _, hJ, S, h => hJ S h
 | (m, k) :: r, J, J', hJ, S, h => by
  cases k with
  | q =>
   simp only [evQ] at h ⊢
   split at h
   ·obtain ⟨d, h1, h2, h3⟩ := h
    exact ⟨d, h1, h2, evQ_mono r hJ _ h3⟩
   ·exact evQ_mono r hJ _ h
   ·exact h.elim
  | s => exact evQ_mono r hJ S h
  | a => exact evQ_mono r hJ S h
  | h => exact evQ_mono r hJ S h
theorem evDraw2_mono {J J' : St → Prop} (hJ : ∀ S, J S → J' S) (ms : List (MO × DK)) (S : St) (h : evDraw2 P ms S J) : evDraw2 P ms S J' :=
 evQ_mono ms (fun S1 h1 => evS_mono ms (fun S2 h2 => evK_mono ms (fun S3 h3 => evK_mono ms hJ S3 h3) S2 h2) S1 h1) _ h
theorem evOne_mono {J J' : St → Prop} (hJ : ∀ S, J S → J' S) {m : MO} {S : St} (h : evOne P m S J) : evOne P m S J' := by
 unfold evOne at h ⊢
 split at h
 ·exact vstep_mono hJ h
 ·exact hJ _ h
 ·exact h.elim
theorem evAlt_mono {k k' : Nat → St → Prop} (hk : ∀ i S, k i S → k' i S) {S : St} : ∀ (r : List (Nat × MO)), evAlt P k S r → evAlt P k' S r
 | [], _ => trivial
 | (i, m) :: r, h => ⟨evOne_mono (hk i) h.1, evAlt_mono hk r h.2⟩
theorem evAny_mono {J J' : St → Prop} (hJ : ∀ S, J S → J' S) (l : List (MO × List Nat)) : ∀ (n : Nat) (done : List Nat) (S : St), evAny P l J n done S → evAny P l J' n done S
 | 0, _, S, h => hJ S h
 | n + 1, done, S, h => ⟨h.1, evAlt_mono (fun i S' h' => evAny_mono hJ l n (i :: done) S' h') _ h.2⟩
theorem ev_mono : ∀ (m : MC) (S : St) (K K' : Ex → St → Prop), (∀ e S, K e S → K' e S) → ev P m S K → ev P m S K' := by
 intro m
 induction m with
 | skip => intro S K K' hK h; exact hK _ _ h
 | reg ms => intro S K K' hK h; exact evOps_mono (fun S => hK _ S) ms S h
 | dreg q ms => intro S K K' hK h; exact evDraw_mono (fun S => hK _ S) q ms S h
 | dreg2 ms => intro S K K' hK h; exact evDraw2_mono (fun S => hK _ S) ms S h
 | dany ms => intro S K K' hK h; exact evAny_mono (fun S => hK _ S) ms _ _ S h
 | bad => intro S K K' hK h; exact h
 | seq x y ihx ihy =>
  intro S K K' hK h
  refine ihx S _ _ (fun e S' h' => ?_) h
  cases e with
  | normal => exact ihy S' _ _ hK h'
  | exit id => exact hK _ _ h'
  | ret => exact hK _ _ h'
 | cond c x y ihx ihy =>
  intro S K K' hK h
  simp only [ev] at h ⊢
  split at h
  ·exact ⟨fun ht => ihx S _ _ hK (h.1 ht), fun ht => ihy S _ _ hK (h.2 ht)⟩
  ·exact h.elim
 | block id x ih =>
  intro S K K' hK h
  refine ih S _ _ (fun e S' h' => ?_) h
  cases e with
  | normal => exact hK _ _ h'
  | exit id' =>
   simp only at h' ⊢
   split at h'
   ·rename_i he; rw [if_pos he]; exact hK _ _ h'
   ·rename_i he; rw [if_neg he]; exact hK _ _ h'
  | ret => exact hK _ _ h'
 | loop x ih =>
  intro S K K' hK h
  obtain ⟨n, hn⟩ := h
  refine ⟨n, ?_⟩
  induction n generalizing S with
  | zero => exact hn.elim
  | succ n ihn =>
   simp only [iter] at hn ⊢
   refine ih S _ _ (fun e S' h' => ?_) hn
   cases e with
   | normal => exact ihn S' h'
   | exit id => exact hK _ _ h'
   | ret => exact hK _ _ h'
 | loop2 y x ihy ih =>
  intro S K K' hK h
  obtain ⟨he, n, hn⟩ := h
  refine ⟨he, n, ihy S _ _ (fun e S' h' => ?_) hn⟩
  cases e with
  | exit id => exact hK _ _ h'
  | ret => exact hK _ _ h'
  | normal =>
   clear hn
   simp only at h' ⊢
   induction n generalizing S' with
   | zero => exact h'.elim
   | succ n ihn =>
    simp only [iter] at h' ⊢
    refine ih S' _ _ (fun e S1 h1 => ?_) h'
    cases e with
    | normal => exact ihn S1 h1
    | exit id => exact hK _ _ h1
    | ret => exact hK _ _ h1
 | exit id => intro S K K' hK h; exact hK _ _ h
 | ret => intro S K K' hK h; exact hK _ _ h
 | trim ts os gs x ih => intro S K K' hK h; exact ih _ _ _ hK h
 | fz ts x ih =>
  intro S K K' hK h
  simp only [ev] at h ⊢
  split at h
  ·exact ih _ _ _ hK h
  ·exact h.elim
 | fzb o x ih =>
  intro S K K' hK h
  simp only [ev] at h ⊢
  split at h
  ·exact ih _ _ _ hK h
  ·exact h.elim
 | own o l x ih =>
  intro S K K' hK h
  simp only [ev] at h ⊢
  split at h
  ·exact ih _ _ _ hK h
  ·exact h.elim
 | shr k x ih =>
  intro S K K' hK h
  simp only [ev] at h ⊢
  split at h
  ·exact ih _ _ _ hK h
  ·exact h.elim
 | fzc o off x ih =>
  intro S K K' hK h
  simp only [ev] at h ⊢
  split at h
  ·exact ih _ _ _ hK h
  ·exact h.elim
 | ren bs ts x ih =>
  intro S K K' hK h
  simp only [ev] at h ⊢
  split at h
  ·exact ih _ _ _ hK h
  ·exact h.elim
theorem iter_by {x : MC} (I : St → Nat → Prop) (h : ∀ n S, I S n → ev P x S fun e S' => match e with | .normal => ∃ k, k < n ∧ I S' k | .exit id => K (.exit id) S' | .ret => K .ret S') :
    ∀ n, ∀ k, k ≤ n → ∀ S, I S k → iter (ev P x) K (n + 1) S := by
 intro n
 induction n with
 | zero =>
  intro k hk S hI
  simp only [iter]
  refine ev_mono x S _ _ (fun e S' h' => ?_) (h k S hI)
  cases e with
  | normal => obtain ⟨j, hj, -⟩ := h'; omega
  | exit id => exact h'
  | ret => exact h'
 | succ n ih =>
  intro k hk S hI
  rw [iter]
  refine ev_mono x S _ _ (fun e S' h' => ?_) (h k S hI)
  cases e with
  | normal => obtain ⟨j, hj, h'⟩ := h'; exact ih j (by omega) S' h'
  | exit id => exact h'
  | ret => exact h'
theorem ev_loop {x : MC} (I : St → Nat → Prop) (h : ∀ n S, I S n → ev P x S fun e S' => match e with | .normal => ∃ k, k < n ∧ I S' k | .exit id => K (.exit id) S' | .ret => K .ret S') :
    ∀ (n : Nat) (S : St), I S n → ev P (.loop x) S K := by
 have key : ∀ n, ∀ k, k ≤ n → ∀ S, I S k → iter (ev P x) K (n + 1) S := by
  intro n
  induction n with
  | zero =>
   intro k hk S hI
   simp only [iter]
   refine ev_mono x S _ _ (fun e S' h' => ?_) (h k S hI)
   cases e with
   | normal => obtain ⟨j, hj, -⟩ := h'; omega
   | exit id => exact h'
   | ret => exact h'
  | succ n ih =>
   intro k hk S hI
   rw [iter]
   refine ev_mono x S _ _ (fun e S' h' => ?_) (h k S hI)
   cases e with
   | normal => obtain ⟨j, hj, h'⟩ := h'; exact ih j (by omega) S' h'
   | exit id => exact h'
   | ret => exact h'
 exact fun n S hI => ⟨n + 1, key n n (Nat.le_refl n) S hI⟩
def resOp (P : Program) : ResultVar → Option MOp
 | .tmp t => some (.mov (.tmp t))
 | .cell x t => match aggT P t with
  | some sz => some (.load sz (.tmp x))
  | none => none
def resOps (P : Program) : List ResultVar → Option (List MOp)
 | [] => some []
 | r :: rs => match resOp P r, resOps P rs with
  | some m, some ms => some (m :: ms)
  | _, _ => none
def resD (S : St) : List MOp → Option (List D)
 | [] => some []
 | m :: ms => match pop S m, resD S ms with
  | some d, some ds => some (d :: ds)
  | _, _ => none
def oneD : List D → D
 | [d] => d
 | ds => .tup ds
theorem resOps_sound (h : Core g S a.tmps w) : ∀ {l : List ResultVar} {ms : List MOp} {ds : List D}, resOps P l = some ms → resD S ms = some ds →
    ∃ vs : List Value, (l.mapM fun | .tmp t => pure (a.tmps.getD t undef) | .cell x t => do loadVar t (← asAddr (a.tmps.getD x undef)) : Sem (List Value)).run P w = .ok vs w ∧ vs.length = ds.length ∧
     ∀ (i : Nat) (d : D) (v : Value), ds[i]? = some d → vs[i]? = some v → Rep g w d v
 | [], ms, ds, hm, hd => by
  simp only [resOps, Option.some.injEq] at hm; subst hm
  simp only [resD, Option.some.injEq] at hd; subst hd
  exact ⟨[], by simp, rfl, fun i d v h => by simp at h⟩
 | r :: l, ms, ds, hm, hd => by
  simp only [resOps] at hm
  split at hm
  ·rename_i m ms' h1 h2
   injection hm with hm; subst hm
   simp only [resD] at hd
   split at hd
   ·rename_i d ds' h3 h4
    injection hd with hd; subst hd
    obtain ⟨vs, e1, e2, e3⟩ := resOps_sound h h2 h4
    have hone : ∃ v, ((match r with | .tmp t => pure (a.tmps.getD t undef) | .cell x t => do loadVar t (← asAddr (a.tmps.getD x undef)) : Sem Value)).run P w = .ok v w ∧ Rep g w d v := by
     cases r with
     | tmp t =>
      simp only [resOp, Option.some.injEq] at h1; subst h1
      exact ⟨_, rfl, h.look (x := .tmp t) h3⟩
     | cell x t =>
      simp only [resOp] at h1
      split at h1
      ·rename_i sz hsz
       injection h1 with h1; subst h1
       simp only [pop] at h3
       split at h3
       ·rename_i p hp
        have hr := h.look (x := .tmp x) hp
        obtain ⟨u, hu1, hu2⟩ := load_sound (P := P) h hsz hr h3
        refine ⟨u, ?_, hu2⟩
        have hev : a.eval (.tmp x) = a.tmps.getD x undef := rfl
        rw [hev] at hr hu1
        have hptr : ∃ ad, a.tmps.getD x undef = .pointer (some ad) := by
         cases p <;> simp only [loadD] at h3 <;> try (cases h3; done)
         ·obtain ⟨b, k, e, -⟩ := hr.ptr_inv
          exact ⟨_, e⟩
         ·split at h3
          ·rename_i hlv
           obtain ⟨b, o, e, -⟩ := hr.rp_inv h (live_some hlv)
           exact ⟨_, e⟩
          ·cases h3
        obtain ⟨ad, had⟩ := hptr
        rw [had] at hu1
        show (do let q ← asAddr (a.tmps.getD x undef); loadVar t q : Sem Value).run P w = .ok u w
        rw [had]
        simp only [Instr.loadAt, Instr.sureAddr, Sem.run_bind, Sem.run_pure, Result.andThen_ok] at hu1
        simp only [asAddr, Sem.run_bind, Sem.run_pure, Result.andThen_ok]
        exact hu1
       ·cases h3
      ·cases h1
    obtain ⟨v, e4, e5⟩ := hone
    refine ⟨v :: vs, ?_, by simp [e2], fun i d' v' hd' hv' => ?_⟩
    ·rw [List.mapM_cons]
     simp only [Sem.run_bind, e4, e1, Result.andThen_ok, Sem.run_pure]
    ·cases i with
     | zero => simp at hd' hv'; subst hd'; subst hv'; exact e5
     | succ i => exact e3 i d' v' (by simpa using hd') (by simpa using hv')
   ·cases hd
  ·cases hm
theorem results_sound (h : Core g S a.tmps w) {fn : Func} {ms : List MOp} {ds : List D} (hm : resOps P fn.results.toList = some ms) (hd : resD S ms = some ds) :
    ∃ v, (results fn a.tmps).run P w = .ok v w ∧ Rep g w (oneD ds) v := by
 obtain ⟨vs, e1, e2, e3⟩ := resOps_sound h hm hd
 refine ⟨if hz : vs.toArray.size = 1 then vs.toArray[0] else .tuple vs.toArray, ?_, ?_⟩
 ·unfold results
  rw [Array.mapM_eq_mapM_toList]
  simp only [Sem.run_bind, map_eq_pure_bind]
  erw [e1]
  simp only [Result.andThen_ok, Sem.run_pure]
 ·by_cases hz : vs.length = 1
  ·obtain ⟨v, rfl⟩ := List.length_eq_one_iff.1 hz
   have : ds.length = 1 := by rw [← e2]; rfl
   obtain ⟨d, rfl⟩ := List.length_eq_one_iff.1 this
   simp only [oneD]
   exact e3 0 d v rfl rfl
  ·rw [dif_neg (by simpa using hz)]
   have : oneD ds = .tup ds := by
    match ds, e2 with
    | [], _ => rfl
    | [d], e2 => exact absurd e2 hz
    | _ :: _ :: _, _ => rfl
   rw [this]
   exact .tup ds _ (by simpa using e2) (fun i d v hd hv => e3 i d v hd (by simpa using hv))
def S0 (ds : List D) : St := ⟨num 0 ds, [], []⟩
def fin (rs : List MOp) (R : D → Prop) (e : Ex) (S : St) : Prop :=
 match e with
 | .exit _ => False
 | _ => match resD S rs with
  | some ds => match (oneD ds).frz with
   | some r => (oneD ds).tags.all (fun t => (S.tag t).isSome) = true ∧ R r
   | none => False
  | none => False
theorem start_SR {F : Reg} {ds : List D} {vs : Array Value} (hF : FB F w) (hs : vs.size = ds.length) (hl : ds.length ≤ N) (hcap : N ≤ 999999) (hrep : ∀ (i : Nat) (d : D) (v : Value), ds[i]? = some d → vs[i]? = some v → RepF F w d v) :
    SR w (fun _ _ => False) F (fun _ => none, fun _ => none) N ⟨fun _ => none, fun _ => none, F⟩ (S0 ds) { tmps := vs ++ Array.replicate (N - vs.size) undef, defers := [] } w := by
 refine ⟨⟨fun t d hd => ?_, fun o cs h => by simp [S0, St.box, lkp] at h, fun o cs b k i h => by simp [S0, St.box, lkp] at h, fun o o' cs cs' b k k' h => by simp [S0, St.box, lkp] at h, fun t x h => by simp [S0, St.tag, lkp] at h,
  fun t x ti o cs b k h => by simp [S0, St.tag, lkp] at h, fun t x ti t' x' ti' b h => by simp [S0, St.tag, lkp] at h, hF⟩,
  ⟨fun o cs b k i h => by simp [S0, St.box, lkp] at h, fun t x ti b h => by simp [S0, St.tag, lkp] at h⟩, Keep.refl _ _, ?_, rfl, fun _ _ h => h, fun _ _ h => .inl h, hcap, (fun t ti _ (h : none = some ti) => by cases h), (fun o b _ (h : none = some b) => by cases h)⟩
 ·obtain ⟨-, h2⟩ := num_lkp hd
  simp only [Nat.sub_zero] at h2
  have ht : t < vs.size := by rw [hs]; exact (List.getElem?_eq_some_iff.1 h2).1
  refine .fz _ _ (hrep t d _ h2 ?_)
  rw [Array.getD_eq_getD_getElem?, Array.getElem?_append_left ht, Array.getElem?_eq_getElem ht]; rfl
 ·simp; omega
def finF (rs : List MOp) (e sz : Nat) (R : List (List D) → Prop) (x : Ex) (S : St) : Prop :=
 match x with
 | .exit _ => False
 | _ => match resD S rs with
  | some [.sl (some t) es] => t.2 = (e, sz) ∧ S.tag t = some true ∧ R es
  | _ => False
theorem fresh_of_ev {k : FuncId} {fn : Func} {c : Code} {m : MC} {rs : List MOp} {ds : List D} {e sz : Nat} {R : List (List D) → Prop} (hm : P.follows .mixedOrders = true) (hf : P.funcs[k]? = some fn) (hn : (fn.name == "runtime.NumGoroutine") = false) (hb : fn.body = some c)
    (hc : comp P fn.ntmps c m.strip = some m.strip) (hr : resOps P fn.results.toList = some rs) (hl : Nat.ble ds.length fn.ntmps = true) (hcap : Nat.ble fn.ntmps 999999 = true) (hv : ev P m (S0 ds) (finF rs e sz R)) : FreshAt P k ds e sz R := by
 refine ⟨⟨fn, hf, hn, by rw [hb]; rfl⟩, fun F w vs hF hs hrep => ?_⟩
 refine calls_of_wp hf hb ?_
 have hS := start_SR (N := fn.ntmps) hF hs (Nat.le_of_ble_eq_true hl) (Nat.le_of_ble_eq_true hcap) hrep
 refine ev_sound hm m c _ _ _ _ _ _ hc hS hv (fun x g' S' a' w' hS' hK => ?_)
 have done : finF rs e sz R .normal S' → a'.defers = [] ∧ ∃ v, (results fn a'.tmps).run P w' = .ok v w' ∧ ∃ es u xs, Ending.returned v = .returned u ∧ R es ∧ w'.ownsRow 0 e sz u es.length xs ∧ (∀ u ∈ xs, u.oneCell' = true) ∧ (∀ b, u.ownBlock = some b → w.heap.size ≤ b) ∧ Keep (fun _ _ => False) w w' ∧
     (∀ (i : Nat) (l : List D), es[i]? = some l → l.length = sz) ∧
     ∀ (i : Nat) (l : List D) (j : Nat) (d : D), es[i]? = some l → l[j]? = some d → ∃ z, xs[i * sz + j]? = some z ∧ RepF (fun b j => F b j ∨ (w.heap.size ≤ b ∧ b < w'.heap.size ∧ u.ownBlock ≠ some b)) w' d z := by
  intro hK
  refine ⟨hS'.defers, ?_⟩
  simp only [finF] at hK
  split at hK
  ·rename_i t es hes
   obtain ⟨h1, h2, h3⟩ := hK
   obtain ⟨v, e1, e2⟩ := results_sound hS'.core hr hes
   simp only [oneD] at e2
   obtain ⟨ti, q1, q2⟩ := hS'.core.tag t true h2
   cases e2 with
   | fz _ _ h0 => cases h0
   | slT _ _ ti2 ht2 hn hlen hcont =>
    rw [q1] at ht2; injection ht2 with ht2; subst ht2
    obtain ⟨ty1, ty2⟩ := q2.ty
    rw [h1] at ty1 ty2
    simp only at ty1 ty2
    have hown := q2.own
    rw [ty1, ty2, ← hn] at hown
    have hnew : ∀ b, ti.v.ownBlock = some b → w.heap.size ≤ b := fun b hb => by
     rcases hS'.wr.tag t true ti b h2 q1 hb with h4 | h4
     ·exact h4
     ·exact (h4 0).elim
    refine ⟨ti.v, e1, es, ti.v, ti.xs, rfl, h3, hown, q2.one, hnew, hS'.keep, fun i l hl => by rw [← ty2]; exact hlen i l hl, fun i l j d hl hd => ?_⟩
    obtain ⟨z, hz, hrz⟩ := hcont i l j d hl hd
    refine ⟨z, by rw [← ty2]; exact hz, hrz.mono (fun b j hbj => ?_) (fun _ _ _ => rfl)⟩
    rcases hS'.fnew b j hbj with h4 | h4 | h4
    ·exact .inl h4
    ·refine .inr ⟨h4, hS'.core.frz.1 b j hbj, fun hb => ?_⟩
     have := (q2.out b j hb hbj).1
     cases this
    ·exact h4.elim
  ·exact hK.elim
 cases x with
 | normal => exact done hK
 | exit id => exact hK.elim
 | ret => exact done hK
theorem pure_of_ev {k : FuncId} {fn : Func} {c : Code} {m : MC} {rs : List MOp} {ds : List D} {R : D → Prop} (hm : P.follows .mixedOrders = true) (hf : P.funcs[k]? = some fn) (hn : (fn.name == "runtime.NumGoroutine") = false) (hb : fn.body = some c)
    (hc : comp P fn.ntmps c m.strip = some m.strip) (hr : resOps P fn.results.toList = some rs) (hl : Nat.ble ds.length fn.ntmps = true) (hcap : Nat.ble fn.ntmps 999999 = true) (hv : ev P m (S0 ds) (fin rs R)) : PureAt P k ds R := by
 refine ⟨⟨fn, hf, hn, by rw [hb]; rfl⟩, fun F w vs hF hs hrep => ?_⟩
 refine calls_of_wp hf hb ?_
 have hS := start_SR (N := fn.ntmps) hF hs (Nat.le_of_ble_eq_true hl) (Nat.le_of_ble_eq_true hcap) hrep
 refine ev_sound hm m c _ _ _ _ _ _ hc hS hv (fun e g' S' a' w' hS' hK => ?_)
 have done : fin rs R .normal S' → a'.defers = [] ∧ ∃ v, (results fn a'.tmps).run P w' = .ok v w' ∧ ∃ r u, Ending.returned v = .returned u ∧ R r ∧ RepF (fun b j => F b j ∨ (w.heap.size ≤ b ∧ b < w'.heap.size)) w' r u ∧ Keep (fun _ _ => False) w w' := by
  intro hK
  refine ⟨hS'.defers, ?_⟩
  simp only [fin] at hK
  split at hK
  ·rename_i es hes
   split at hK
   ·rename_i r hfr
    obtain ⟨v, h1, h2⟩ := results_sound hS'.core hr hes
    have h3 := frz_sound hS'.core (live_all hK.1) _ h2 (fun t ht => ht) hfr
    refine ⟨v, h1, r, v, rfl, hK.2, h3.mono (fun b j hbj => ?_) (fun _ _ _ => rfl), hS'.keep⟩
    have hsh := hS'.share (oneD es).tags
    rcases hsh.fnew b j hbj with h4 | h4 | h4
    ·exact .inl h4
    ·exact .inr ⟨h4, hsh.core.frz.1 b j hbj⟩
    ·exact h4.elim
   ·exact hK.elim
  ·exact hK.elim
 cases e with
 | normal => exact done hK
 | exit id => exact hK.elim
 | ret => exact done hK
def finO (rs : List MOp) (os : List Nat) (ts : List Tag) (R : D → List (Nat × List D) → List (Tag × Bool) → Prop) (x : Ex) (S : St) : Prop :=
 match x with
 | .exit _ => False
 | _ => match resD S rs with
  | some es => R (oneD es) ((pickL os S.hp).filter fun x => !x.2.isEmpty) (pickL ts S.tg)
  | none => False
theorem Core.ofPart {tm tm' : Array Value} (c : Core g S tm w) {env : List (Nat × D)} {hp : List (Nat × List D)} {tg : List (Tag × Bool)} (he : ∀ t d, lkp t env = some d → Rep g w d (tm'.getD t undef)) (hh : ∀ o cs, lkp o hp = some cs → S.box o = some cs) (ht : ∀ t x, lkp t tg = some x → S.tag t = some x) :
    Core g ⟨env, hp, tg⟩ tm' w :=
 ⟨he, fun o cs ho => c.box o cs (hh _ _ ho), fun o cs b k i ho => c.boxF o cs b k i (hh _ _ ho), fun o o' cs cs' b k k' h1 h2 => c.boxI o o' cs cs' b k k' (hh _ _ h1) (hh _ _ h2),
  fun t x h1 => c.tag t x (ht _ _ h1), fun t x ti o cs b k h1 h2 h3 => c.tagB t x ti o cs b k (ht _ _ h1) h2 (hh _ _ h3), fun t x ti t' x' ti' b h1 h2 h3 => c.tagI t x ti t' x' ti' b (ht _ _ h1) h2 (ht _ _ h3), c.frz⟩
theorem pickB_lkp {os : List Nat} {hp : List (Nat × List D)} {o : Nat} {cs : List D} (h : lkp o ((pickL os hp).filter fun x => !x.2.isEmpty) = some cs) : lkp o (pickL os hp) = some cs ∧ cs ≠ [] := by
 have uniq : ∀ (os : List Nat) (d : List D), (o, d) ∈ pickL os hp → lkp o hp = some d := fun os => by
  induction os with
  | nil => intro d hm; simp [pickL] at hm
  | cons k ks ih =>
   intro d hm
   simp only [pickL] at hm
   split at hm
   ·rename_i d' hk
    rcases List.mem_cons.1 hm with h | h
    ·injection h with h1 h2; subst h1; subst h2; exact hk
    ·exact ih d h
   ·exact ih d hm
 have hex : ∀ (os : List Nat) (d : List D), (o, d) ∈ pickL os hp → lkp o (pickL os hp) = some d := fun os => by
  induction os with
  | nil => intro d hm; simp [pickL] at hm
  | cons k ks ih =>
   intro d hm
   have hd := uniq _ d hm
   simp only [pickL] at hm ⊢
   split at hm
   ·rename_i d' hk
    simp only [lkp]
    by_cases hok : o = k
    ·subst hok; rw [hd] at hk; rw [if_pos rfl]; exact hk.symm ▸ rfl
    ·rw [if_neg hok]
     rcases List.mem_cons.1 hm with h | h
     ·injection h with h1 h2; exact absurd h1 hok
     ·exact ih d h
   ·rename_i hk
    exact ih d hm
 have hm : (o, cs) ∈ (pickL os hp).filter fun x => !x.2.isEmpty := by
  have : ∀ {l : List (Nat × List D)}, lkp o l = some cs → (o, cs) ∈ l := fun {l} hl => by
   induction l with
   | nil => simp [lkp] at hl
   | cons p l ih =>
    obtain ⟨k, v⟩ := p
    simp only [lkp] at hl
    split at hl
    ·rename_i he; subst he; injection hl with hl; subst hl; simp
    ·exact List.mem_cons_of_mem _ (ih hl)
  exact this h
 rw [List.mem_filter] at hm
 exact ⟨hex os cs hm.1, by have := hm.2; simpa using this⟩
theorem obj_of_ev {k : FuncId} {fn : Func} {c : Code} {m : MC} {rs : List MOp} {S : St} {n : Nat} {os : List Nat} {ts : List Tag} {R : D → List (Nat × List D) → List (Tag × Bool) → Prop} (hm : P.follows .mixedOrders = true) (hf : P.funcs[k]? = some fn) (hn : (fn.name == "runtime.NumGoroutine") = false) (hb : fn.body = some c)
    (hc : comp P fn.ntmps c m.strip = some m.strip) (hr : resOps P fn.results.toList = some rs) (hl : Nat.ble n fn.ntmps = true) (hcap : Nat.ble fn.ntmps 999999 = true) (hv : ev P m S (finO rs os ts R)) : ObjAt P k S n R := by
 refine ⟨⟨fn, hf, hn, by rw [hb]; rfl⟩, fun W w g vs hs hcore hwr hpin => ?_⟩
 refine calls_of_wp hf hb ?_
 have hl := Nat.le_of_ble_eq_true hl
 have hcap := Nat.le_of_ble_eq_true hcap
 have hS : SR w W g.F (fun _ => none, g.μ) fn.ntmps g S { tmps := vs ++ Array.replicate (fn.ntmps - vs.size) undef, defers := [] } w := by
  refine ⟨hcore.ofPart (S := S) (fun t d hd => ?_) (fun _ _ h => h) (fun _ _ h => h), hwr, Keep.refl _ _, by simp; omega, rfl, fun _ _ h => h, fun _ _ h => .inl h, hcap, fun t ti ht hti => absurd hti (hpin t ti ht), fun o b _ h => h⟩
  have h1 := hcore.env t d hd
  have : (vs ++ Array.replicate (fn.ntmps - vs.size) undef).getD t undef = vs.getD t undef := by
   simp only [Array.getD_eq_getD_getElem?]
   by_cases ht : t < vs.size
   ·rw [Array.getElem?_append_left ht]
   ·rw [Array.getElem?_append_right (by omega), Array.getElem?_eq_none (xs := vs) (by omega)]
    by_cases h2 : t - vs.size < fn.ntmps - vs.size
    ·simp [h2]
    ·rw [Array.getElem?_eq_none (by simp; omega)]
  rw [this]; exact h1
 refine ev_sound hm m c _ _ _ _ _ _ hc hS hv (fun x g' S' a' w' hS' hK => ?_)
 have done : finO rs os ts R .normal S' → a'.defers = [] ∧ ∃ v, (results fn a'.tmps).run P w' = .ok v w' ∧ ∃ g' r z hp tg, Ending.returned v = .returned z ∧ R r hp tg ∧ Core g' ⟨[(0, r)], hp, tg⟩ #[z] w' ∧ Wr w.heap.size W g' ⟨[(0, r)], hp, tg⟩ ∧ Keep W w w' ∧ (∀ o cs, lkp o hp = some cs → cs ≠ []) ∧
     (∀ b k, g.F b k → g'.F b k) ∧ (∀ b k, g'.F b k → g.F b k ∨ w.heap.size ≤ b ∨ W b k) ∧ (∀ o b, 999999 ≤ o % mapB → g'.μ o = some b → g.μ o = some b) := by
  intro hK
  refine ⟨hS'.defers, ?_⟩
  simp only [finO] at hK
  split at hK
  ·rename_i es hes
   obtain ⟨v, e1, e2⟩ := results_sound hS'.core hr hes
   have hh : ∀ o cs, lkp o ((pickL os S'.hp).filter fun x => !x.2.isEmpty) = some cs → S'.box o = some cs := fun o cs ho => pickL_lkp (pickB_lkp ho).1
   have ht : ∀ t x, lkp t (pickL ts S'.tg) = some x → S'.tag t = some x := fun t x hx => pickL_lkp hx
   refine ⟨v, e1, g', _, v, _, _, rfl, hK, hS'.core.ofPart (fun t d hd => ?_) hh ht, ⟨fun o cs b k i ho => hS'.wr.box o cs b k i (hh _ _ ho), fun t x ti b hx => hS'.wr.tag t x ti b (ht _ _ hx)⟩, hS'.keep, fun o cs ho => (pickB_lkp ho).2, hS'.fext, fun b k hF => hS'.fnew b k hF, fun o b ho hb => hS'.pin.2 o b ho hb⟩
   simp only [lkp] at hd
   split at hd
   ·rename_i he; subst he; injection hd with hd; subst hd; exact e2
   ·cases hd
  ·exact hK.elim
 cases x with
 | normal => exact done hK
 | exit id => exact hK.elim
 | ret => exact done hK
def S1 (e sz : Nat) (es : List (List D)) (ds : List D) : St := ⟨(0, .sl (some (999999, e, sz)) es) :: num 1 ds, [], [((999999, e, sz), true)]⟩
def finT (rs : List MOp) (e sz n : Nat) (R : List (List D) → D → Prop) (x : Ex) (S : St) : Prop :=
 match x with
 | .exit _ => False
 | _ => match S.get 0, resD S rs with
  | some (.sl (some t) es'), some ds => match (oneD ds).frz with
   | some r => t = (999999, e, sz) ∧ es'.length = n ∧ S.tag t = some true ∧ (oneD ds).tags = [] ∧ R es' r
   | none => False
  | _, _ => False
def finK (rs : List MOp) (e sz n : Nat) (R : List (List D) → D → Prop) (x : Ex) (S : St) : Prop :=
 match x with
 | .exit _ => False
 | _ => match S.get 0, resD S rs with
  | some (.sl (some t) es'), some ds => match (oneD ds).frz with
   | some r => t = (999999, e, sz) ∧ es'.length = n ∧ S.tag t = some true ∧ (∀ t' ∈ (oneD ds).tags, t' = (999999, e, sz)) ∧ R es' r
   | none => False
  | _, _ => False
structure Runs (P : Program) (k : FuncId) (m : MC) (rs : List MOp) (N : Nat) : Prop where
 mixed : P.follows .mixedOrders = true
 small : Nat.ble N 999999 = true
 fn : ∃ (fn : Func) (c : Code), P.funcs[k]? = some fn ∧ (fn.name == "runtime.NumGoroutine") = false ∧ fn.body = some c ∧ fn.ntmps = N ∧ comp P N c m = some m ∧ resOps P fn.results.toList = some rs
theorem pure_of {k : FuncId} {m : MC} {rs : List MOp} {N : Nat} {ds : List D} {R : D → Prop} (h : Runs P k m.strip rs N) (hl : Nat.ble ds.length N = true) (hv : ev P m (S0 ds) (fin rs R)) : PureAt P k ds R := by
 obtain ⟨h0, hs, fn, c, h1, h2, h3, rfl, h4, h5⟩ := h
 exact pure_of_ev h0 h1 h2 h3 h4 h5 hl hs hv
theorem fresh_of {k : FuncId} {m : MC} {rs : List MOp} {N : Nat} {ds : List D} {e sz : Nat} {R : List (List D) → Prop} (h : Runs P k m.strip rs N) (hl : Nat.ble ds.length N = true) (hv : ev P m (S0 ds) (finF rs e sz R)) : FreshAt P k ds e sz R := by
 obtain ⟨h0, hs, fn, c, h1, h2, h3, rfl, h4, h5⟩ := h
 exact fresh_of_ev h0 h1 h2 h3 h4 h5 hl hs hv
theorem obj_of {k : FuncId} {m : MC} {rs : List MOp} {N : Nat} {S : St} {n : Nat} {R : D → List (Nat × List D) → List (Tag × Bool) → Prop} (os : List Nat) (ts : List Tag) (h : Runs P k m.strip rs N) (hl : Nat.ble n N = true) (hv : ev P m S (finO rs os ts R)) : ObjAt P k S n R := by
 obtain ⟨h0, hs, fn, c, h1, h2, h3, rfl, h4, h5⟩ := h
 exact obj_of_ev h0 h1 h2 h3 h4 h5 hl hs hv
theorem runsOf {P : Program} {k : FuncId} {m : MC} {rs : List MOp} {N : Nat} {fn : Func} (h : P.funcs[k]? = some fn)
 (e : (P.follows .mixedOrders, Nat.ble N 999999, fn.name == "runtime.NumGoroutine", fn.body.isSome, fn.ntmps, comp P N (fn.body.getD .skip) m, resOps P fn.results.toList) = (true, true, false, true, N, some m, some rs)) : Runs P k m rs N := by
 simp only [Prod.mk.injEq] at e
 obtain ⟨e1, e2, e3, e4, e5, e6, e7⟩ := e
 exact ⟨e1, e2, fn, fn.body.getD .skip, h, e3, by cases hb : fn.body with
  | none => rw [hb] at e4; cases e4
  | some c => rfl, e5, e6, e7⟩
end Go.Vm
