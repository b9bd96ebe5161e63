/- The value machine, 19b: a statement whose order is drawn, with rows that grow and boxes that are laid: its states. -/
import Derived.Test.YtaoppmjidjdgdaaGreatVF
set_option linter.unusedVariables false
set_option maxRecDepth 2000
namespace Go.Vm
open Go.RowKit
variable {P : Program} {w0 w w' : World} {W F0 : Reg} {V : Pins} {N : Nat} {g g' : Gh} {S S' X Y : St} {a : Act} {K : St → Prop} {ops : Array Oper}
inductive DK | q | s | a | h
 deriving DecidableEq, Inhabited
def poL (os : List Nat) (o : Nat) : Bool := !os.contains o
def ptL (ts : List Tag) (t : Tag) : Bool := !ts.contains t
theorem avoids_mono {po po' : Nat → Bool} {pt pt' : Tag → Bool} (ho : ∀ o, po o = true → po' o = true) (ht : ∀ t, pt t = true → pt' t = true) (d : D) : d.avoids po pt = true → d.avoids po' pt' = true := by
 refine D.rec (motive_1 := fun d => d.avoids po pt = true → d.avoids po' pt' = true) (motive_2 := fun _ => True) (motive_3 := fun ds => D.avoids.avoidsL po pt ds = true → D.avoids.avoidsL po' pt' ds = true)
  (fun _ => rfl) (fun _ _ => rfl) ?_ (fun o off h => ho o h) ?_ ?_ ?_ ?_ (fun t _ _ _ _ h => ht t h) (fun o h => ho o h) (fun _ _ _ => rfl) trivial (fun _ _ _ _ => trivial) (fun _ => rfl) ?_ d
 ·intro tag es _ h; cases tag with
  | none => rfl
  | some t => exact ht t h
 ·intro own cs off _ h; cases own with
  | none => rfl
  | some x => exact ht x.1 h
 ·intro f first caps h1 h2 h; simp only [D.avoids, Bool.and_eq_true] at h ⊢; exact ⟨h1 h.1, h2 h.2⟩
 ·intro ds h1 h; exact h1 h
 ·intro ds h1 h; exact h1 h
 ·intro d ds h1 h2 h; simp only [D.avoids.avoidsL, Bool.and_eq_true] at h ⊢; exact ⟨h1 h.1, h2 h.2⟩
theorem keep_id {po : Nat → Bool} {pt : Tag → Bool} {d : D} (h : d.avoids po pt = true) : d.keep po pt = d := by
 unfold D.keep; rw [if_pos h]
theorem keep_avoids (po : Nat → Bool) (pt : Tag → Bool) (d : D) : (d.keep po pt).avoids po pt = true := by
 unfold D.keep
 split
 ·assumption
 ·rfl
theorem keep_or (po : Nat → Bool) (pt : Tag → Bool) (d : D) : d.keep po pt = d ∨ d.keep po pt = .undef := by
 unfold D.keep
 split
 ·exact .inl rfl
 ·exact .inr rfl
theorem lkp_filter {α β : Type} [DecidableEq α] (p : α → Bool) (l : List (α × β)) (t : α) : lkp t (l.filter fun y => p y.1) = if p t then lkp t l else none := by
 induction l with
 | nil => simp [lkp]
 | cons x l ih =>
  obtain ⟨k, v⟩ := x
  simp only [List.filter_cons, lkp]
  by_cases h : p k = true
  ·rw [if_pos h]
   simp only [lkp, ih]
   by_cases h2 : t = k
   ·subst h2; simp [h]
   ·simp [h2]
  ·rw [if_neg h, ih]
   by_cases h2 : t = k
   ·subst h2; simp [h]
   ·simp [h2]
theorem SR.sub (h : SR w0 W F0 V N g S a w) (hg : ∀ t d, S'.get t = some d → S.get t = some d) (hp : ∀ o c, S'.box o = some c → S.box o = some c) (ht : ∀ t x, S'.tag t = some x → S.tag t = some x) : SR w0 W F0 V N g S' a w := by
 have c := h.core
 exact ⟨⟨fun t d hd => c.env t d (hg _ _ hd), fun o cs ho => c.box o cs (hp _ _ ho), fun o cs b k i ho => c.boxF o cs b k i (hp _ _ ho), fun o o' cs cs' b k k' h1 h2 => c.boxI o o' cs cs' b k k' (hp _ _ h1) (hp _ _ h2),
  fun t x h1 => c.tag t x (ht _ _ h1), fun t x ti o cs b k h1 h2 h3 => c.tagB t x ti o cs b k (ht _ _ h1) h2 (hp _ _ h3), fun t x ti t' x' ti' b h1 h2 h3 => c.tagI t x ti t' x' ti' b (ht _ _ h1) h2 (ht _ _ h3), c.frz⟩,
  ⟨fun o cs b k i h1 => h.wr.box o cs b k i (hp _ _ h1), fun t x ti b h1 => h.wr.tag t x ti b (ht _ _ h1)⟩, h.keep, h.size, h.defers, h.fext, h.fnew, h.cap, h.pin⟩
theorem SR.putSame (h : SR w0 W F0 V N g S a w) {t : Nat} {d : D} (hr : Rep g w d (a.tmps.getD t undef)) : SR w0 W F0 V N g (S.put (some t) d) a w := by
 have c := h.core
 refine ⟨⟨fun t' d' hd => ?_, c.box, c.boxF, c.boxI, c.tag, c.tagB, c.tagI, c.frz⟩, ⟨h.wr.box, h.wr.tag⟩, h.keep, h.size, h.defers, h.fext, h.fnew, h.cap, h.pin⟩
 rw [put_get] at hd
 split at hd
 ·rename_i he; subst he; injection hd with hd; subst hd; exact hr
 ·exact c.env t' d' hd
def St.cut (S : St) (os : List Nat) (ts : List Tag) : St := match os, ts with
 | [], [] => S
 | os, ts => ({ S with hp := S.hp.filter fun y => poL os y.1, tg := S.tg.filter fun y => ptL ts y.1 } : St).only (poL os) (ptL ts)
theorem cut_get (os : List Nat) (ts : List Tag) (t : Nat) : (S.cut os ts).get t = (S.get t).map (D.keep (poL os) (ptL ts)) := by
 unfold St.cut
 split
 ·have : (D.keep (poL []) (ptL [])) = id := by
    funext d; exact keep_id (avoids_mono (fun _ _ => rfl) (fun _ _ => rfl) d (avoids_all d))
  rw [this]; simp
 ·exact only_get _ _ _
theorem cut_box (os : List Nat) (ts : List Tag) (o : Nat) : (S.cut os ts).box o = if poL os o then (S.box o).map (List.map (D.keep (poL os) (ptL ts))) else none := by
 unfold St.cut
 split
 ·have : (D.keep (poL []) (ptL [])) = id := by
    funext d; exact keep_id (avoids_mono (fun _ _ => rfl) (fun _ _ => rfl) d (avoids_all d))
  rw [this]; simp [poL]
 ·rw [only_box]
  show (lkp o (S.hp.filter fun y => poL _ y.1)).map _ = _
  rw [lkp_filter]
  by_cases h : poL os o = true
  ·rw [if_pos h, if_pos h]; rfl
  ·rw [if_neg h, if_neg h]; rfl
theorem SR.cut (h : SR w0 W F0 V N g S a w) (os : List Nat) (ts : List Tag) : SR w0 W F0 V N g (S.cut os ts) a w := by
 unfold St.cut
 split
 ·exact h
 ·have h1 := h.sub (S' := { S with hp := S.hp.filter fun y => poL os y.1, tg := S.tg.filter fun y => ptL ts y.1 }) (fun _ _ hd => hd) (fun o c hd => by
    simp only [St.box, lkp_filter] at hd
    split at hd
    ·exact hd
    ·cases hd) (fun t x hd => by
    simp only [St.tag, lkp_filter] at hd
    split at hd
    ·exact hd
    ·cases hd)
  have hl : Later g g w w (poL os) (ptL ts) := ⟨fun _ _ _ h => h, fun _ _ _ h => h, fun _ _ h => h, fun _ _ _ => rfl⟩
  have hc := h1.core.later hl (fun o cs hb => by
   simp only [St.box, lkp_filter] at hb
   split at hb
   ·assumption
   ·cases hb) (fun t x hx => by
   simp only [St.tag, lkp_filter] at hx
   split at hx
   ·assumption
   ·cases hx) (fun _ _ h => h) (fun _ _ h => .inl h) (fun b k hF => h.core.frz.1 b k hF)
  refine ⟨hc, ⟨fun o cs b k i hb hμ hi => ?_, h1.wr.tag⟩, h1.keep, h1.size, h1.defers, h1.fext, h1.fnew, h1.cap, h1.pin⟩
  rw [only_box] at hb
  obtain ⟨c0, hc0, rfl⟩ := Option.map_eq_some_iff.1 hb
  exact h1.wr.box o c0 b k i hc0 hμ (by simpa using hi)
theorem vstep_mono {m : MOp} {dst : Option Nat} {L L' : St → Prop} (hL : ∀ S, L S → L' S) {S : St} (h : vstep P m dst S L) : vstep P m dst S L' := by
 have pure : (match pop S m with | some d => L (S.put dst d) | none => False) → (match pop S m with | some d => L' (S.put dst d) | none => False) := fun h => by
  split at h
  ·exact hL _ h
  ·exact h.elim
 cases m
 case nilsl e sz =>
  simp only [vstep] at h ⊢
  split at h
  ·exact hL _ h
  ·exact h.elim
 case alloc t z =>
  simp only [vstep] at h ⊢
  split at h
  ·exact hL _ h
  ·exact h.elim
 case box t sz x =>
  simp only [vstep] at h ⊢
  split at h
  ·split at h
   ·exact ⟨h.1, hL _ h.2⟩
   ·exact h.elim
  ·exact h.elim
 case bslice e sz z len ps =>
  simp only [vstep] at h ⊢
  split at h
  ·split at h
   ·exact ⟨h.1, h.2.1, hL _ h.2.2⟩
   ·exact h.elim
  ·exact h.elim
 case store sz x v =>
  simp only [vstep] at h ⊢
  split at h
  ·split at h
   ·exact ⟨h.1, h.2.1, hL _ h.2.2⟩
   ·exact h.elim
  ·split at h
   ·split at h
    ·exact ⟨h.1, h.2.1, h.2.2.1, h.2.2.2.1, hL _ h.2.2.2.2⟩
    ·exact h.elim
   ·exact h.elim
  ·exact h.elim
 case append e sz bytes x y =>
  simp only [vstep] at h ⊢
  split at h
  ·obtain ⟨h1, h2, h3, h4, h5, h6, h7, h8, h9⟩ := h
   exact ⟨h1, h2, h3, h4, h5, h6, h7, h8, hL _ h9⟩
  ·exact h.elim
 case call f args md =>
  simp only [vstep] at h ⊢
  split at h
  ·cases md with
   | pure =>
    simp only at h ⊢
    split at h
    ·exact ⟨h.1, h.2.mono fun r hr => hL _ hr⟩
    ·exact h.elim
   | fresh e sz =>
    simp only at h ⊢
    split at h
    ·exact ⟨h.1, h.2.mono fun r hr => hL _ hr⟩
    ·exact h.elim
   | freshV e sz =>
    simp only at h ⊢
    split at h
    ·exact ⟨h.1, h.2.mono fun r hr => hL _ hr⟩
    ·exact h.elim
   | turn =>
    simp only at h ⊢
    split at h
    ·split at h
     ·exact ⟨h.1, h.2.1, h.2.2.mono fun es r hr => hL _ hr⟩
     ·exact h.elim
    ·exact h.elim
   | take =>
    simp only at h ⊢
    split at h
    ·split at h
     ·exact ⟨h.1, h.2.1, h.2.2.mono fun es r hr => hL _ hr⟩
     ·exact h.elim
    ·exact h.elim
   | lend =>
    simp only at h ⊢
    split at h
    ·exact ⟨h.1, h.2.mono fun r hr => ⟨hr.1, hL _ hr.2⟩⟩
    ·exact h.elim
   | copy e sz =>
    simp only at h ⊢
    split at h
    ·exact ⟨h.1, h.2.1, h.2.2.1, hL _ h.2.2.2⟩
    ·exact h.elim
   | obj bs ts nb nt =>
    simp only [objP] at h ⊢
    split at h
    ·split at h
     ·exact ⟨h.1, h.2.1, h.2.2.1, h.2.2.2.mono fun r hp tg hr => hL _ hr⟩
     ·exact h.elim
    ·exact h.elim
  ·exact h.elim
 case isnil neg x =>
  simp only [vstep] at h ⊢
  split at h
  ·exact ⟨h.1, fun b hb => hL _ (h.2 b hb)⟩
  ·exact h.elim
 case xop k => exact xstep_mono h hL
 all_goals exact pure h
structure More (X Y : St) (xs : List Operand) : Prop where
 look : ∀ x ∈ xs, look Y x = look X x
 box : ∀ o cs, Y.box o = some cs → X.box o = some cs
 live : ∀ t, (Y.tag t).isSome = true → (X.tag t).isSome = true
theorem More.sub {xs ys : List Operand} (h : More X Y xs) (hs : ∀ y ∈ ys, y ∈ xs) : More X Y ys := ⟨fun y hy => h.look y (hs y hy), h.box, h.live⟩
theorem More.looks : ∀ {xs : List Operand}, More X Y xs → Vm.looks Y xs = Vm.looks X xs
 | [], _ => rfl
 | x :: xs, h => by
  simp only [Vm.looks]
  rw [h.look x (by simp), More.looks (h.sub (fun y hy => by simp [hy]))]
theorem More.fill : ∀ {ps : List (Nat × Nat × Operand)} (_ : More X Y (ps.map fun p => p.2.2)) (cs : List D), fillD Y cs ps = fillD X cs ps
 | [], _, _ => rfl
 | (off, sz, x) :: ps, h, cs => by
  simp only [fillD]
  rw [h.look x (by simp)]
  have := More.fill (ps := ps) (h.sub (fun y hy => by simp at hy ⊢; exact .inr hy))
  split
  ·split
   ·split
    ·exact this _
    ·rfl
   ·rfl
  ·rfl
theorem More.bound {xs : List Operand} (h : More X Y xs) {x : Option Operand} (hx : ∀ y, x = some y → y ∈ xs) (dflt top : Nat) : boundD Y dflt top x = boundD X dflt top x := by
 cases x with
 | none => rfl
 | some y => simp only [boundD]; rw [h.look y (hx y rfl)]
theorem More.part {xs : List Operand} (h : More X Y xs) {lo hi : Option Operand} (h1 : ∀ y, hi = some y → y ∈ xs) (h2 : ∀ y, lo = some y → y ∈ xs) {sz : Nat} {t : Tag} {lo0 n : Nat} {es : List (List D)} {d : D} (hp : partD Y sz lo hi t lo0 n es = some d) : partD X sz lo hi t lo0 n es = some d := by
 unfold partD at hp ⊢
 split at hp
 ·rename_i hc
  rw [if_pos ⟨h.live t hc.1, hc.2⟩, ← h.bound h1]
  split at hp
  ·rw [← h.bound h2]; exact hp
  ·cases hp
 ·cases hp
theorem More.pop {m : MOp} {d : D} (h : More X Y m.reads) (hp : Vm.pop Y m = some d) : Vm.pop X m = some d := by
 cases m <;> simp only [Vm.pop] at hp ⊢ <;> simp only [MOp.reads] at h
 case build z ps => rw [← h.fill]; exact hp
 case slcS x lo hi =>
  rw [← h.look x (by simp)]
  split at hp
  ·rename_i d0 hd
   simp only [slcSD] at hp ⊢
   split at hp
   ·rw [← h.bound (x := hi) (fun y hy => by subst hy; simp)]
    split at hp
    ·rw [← h.bound (x := lo) (fun y hy => by subst hy; simp)]
     exact hp
    ·cases hp
   ·cases hp
  ·cases hp
 case slc sz x lo hi =>
  rw [← h.look x (by simp)]
  split at hp
  ·rename_i d0 hd
   simp only [slcD] at hp ⊢
   split at hp
   ·exact h.part (fun y hy => by subst hy; simp) (fun y hy => by subst hy; simp) hp
   ·exact h.part (fun y hy => by subst hy; simp) (fun y hy => by subst hy; simp) hp
   ·split at hp
    ·rename_i hall
     rw [if_pos hall, ← h.bound (x := hi) (fun y hy => by subst hy; simp)]
     split at hp
     ·rename_i hh hhi
      rw [← h.bound (x := lo) (fun y hy => by subst hy; simp)]
      exact hp
     ·cases hp
    ·cases hp
   ·cases hp
  ·cases hp
 case slcA n x lo hi =>
  rw [← h.look x (by simp)]
  split at hp
  ·rename_i d0 hd
   simp only [slcAD] at hp ⊢
   split at hp
   ·split at hp
    ·rename_i hall
     rw [if_pos hall, ← h.bound (x := hi) (fun y hy => by subst hy; simp)]
     split at hp
     ·rename_i hh hhi
      rw [← h.bound (x := lo) (fun y hy => by subst hy; simp)]
      exact hp
     ·cases hp
    ·cases hp
   ·cases hp
  ·cases hp
 case minmax mx xs => rw [← h.looks]; exact hp
 case mkfn f x y => rw [← (h.sub (ys := x) (fun z hz => by simp [hz])).looks, ← (h.sub (ys := y) (fun z hz => by simp [hz])).looks]; exact hp
 case b2s x =>
  rw [← h.look x (by simp)]
  split at hp
  ·rename_i d0 hd
   simp only [b2sD] at hp ⊢
   split at hp
   ·rename_i own es
    have hlive : Y.live (own.map fun t => (t, 0)) = true → X.live (own.map fun t => (t, 0)) = true := fun hl => by
     cases own with
     | none => rfl
     | some x => exact h.live x hl
    split at hp
    ·rename_i hl; rw [if_pos (hlive hl)]; exact hp
    ·cases hp
   ·cases hp
  ·cases hp
 case load sz x =>
  rw [← h.look x (by simp)]
  split at hp
  ·rename_i d0 hd
   simp only [loadD] at hp ⊢
   split at hp
   ·rename_i o off
    cases hb : Y.box o with
    | none => rw [hb] at hp; cases hp
    | some cs => rw [hb] at hp; rw [h.box o cs hb]; exact hp
   ·rename_i own cs off
    have hlive : Y.live own = true → X.live own = true := fun hl => by
     cases own with
     | none => rfl
     | some x => exact h.live x.1 hl
    split at hp
    ·rename_i hl; rw [if_pos (hlive hl)]; exact hp
    ·cases hp
   ·cases hp
  ·cases hp
 all_goals first
  | (cases hp; done)
  | exact hp
  | (rw [← h.look _ List.mem_cons_self, ← h.look _ (List.mem_cons_of_mem _ List.mem_cons_self), ← h.look _ (List.mem_cons_of_mem _ (List.mem_cons_of_mem _ List.mem_cons_self))]; exact hp)
  | (rw [← h.look _ List.mem_cons_self, ← h.look _ (List.mem_cons_of_mem _ List.mem_cons_self)]; exact hp)
  | (rw [← h.look _ List.mem_cons_self]; exact hp)
theorem More.QV {m : MOp} {d : D} (h : More X Y m.reads) (hq : Vm.QV P m Y d) : Vm.QV P m X d := by
 cases m <;> simp only [Vm.QV] at hq ⊢ <;> first
  | exact h.pop hq
  | exact hq
  | (obtain ⟨cs, fs, h1, h2⟩ := hq; exact ⟨cs, fs, by rw [← More.fill (by simpa [MOp.reads] using h)]; exact h1, h2⟩)
  | (obtain ⟨h0, k, first, caps, ds, fs, h1, h2, h3⟩ := hq
     simp only [MOp.reads] at h
     exact ⟨h0, k, first, caps, ds, fs, by rw [← h.look _ (by simp)]; exact h1, by rw [← (h.sub (fun y hy => by simp [hy])).looks]; exact h2, h3⟩)
def okD (os : List Nat) (ts : List Tag) (dst : Option Nat) (d : D) : Prop := match os, ts, dst with
 | [], [], _ => True
 | _, _, none => True
 | os, ts, some _ => d.avoids (poL os) (ptL ts) = true
theorem okD_some {os : List Nat} {ts : List Tag} {t : Nat} {d : D} (h : okD os ts (some t) d) : d.avoids (poL os) (ptL ts) = true := by
 unfold okD at h
 split at h
 ·exact avoids_mono (fun _ _ => rfl) (fun _ _ => rfl) d (avoids_all d)
 ·cases ‹some t = none›
 ·exact h
def evQ (P : Program) (os : List Nat) (ts : List Tag) : List (MO × DK) → St → (St → Prop) → Prop
 | [], S, K => K S
 | (m, .q) :: r, S, K => match want S m.guard with
  | some true => ∃ d, QV P m.op S d ∧ okD os ts m.dst d ∧ evQ P os ts r (S.put m.dst d) K
  | some false => evQ P os ts r (S.put m.dst (.val undef)) K
  | none => False
 | _ :: r, S, K => evQ P os ts r S K
def softOk (ts : List Tag) (S : St) : MOp → Prop
 | .append _ _ _ x _ => match look S x with
  | some (.sl (some t) _) => t ∈ ts
  | _ => False
 | .call _ _ .turn | .call _ _ .take | .call _ _ (.obj ..) | .call _ _ (.freshV ..) | .call _ _ (.copy ..) => False
 | .store .. | .alloc .. | .box .. | .isnil .. | .xop _ => False
 | _ => True
def St.kd (S : St) (dst : Option Nat) (os : List Nat) : St := match os, dst with
 | [], _ => S
 | _, none => S
 | os, some t => match S.get t with
  | some d => S.put (some t) (d.keep (poL os) fun _ => true)
  | none => S
def evS (P : Program) (os : List Nat) (ts : List Tag) : List (MO × DK) → St → (St → Prop) → Prop
 | [], S, K => K S
 | (m, .s) :: r, S, K => match want S m.guard with
  | some true => softOk ts S m.op ∧ vstep P m.op m.dst S fun S' => evS P os ts r (S'.kd m.dst os) K
  | some false => evS P os ts r (S.put m.dst (.val undef)) K
  | none => False
 | _ :: r, S, K => evS P os ts r S K
def evK (P : Program) (k : DK) : List (MO × DK) → St → (St → Prop) → Prop
 | [], S, K => K S
 | (m, k') :: r, S, K => if k' = k then (match want S m.guard with
  | some true => vstep P m.op m.dst S fun S' => evK P k r S' K
  | some false => evK P k r (S.put m.dst (.val undef)) K
  | none => False) else evK P k r S K
def osOf : List (MO × DK) → List Nat
 | [] => []
 | (m, .a) :: r => (match m.dst with | some d => d :: osOf r | none => osOf r)
 | _ :: r => osOf r
def tagOf (m : MO) : List Tag := match m.dst, m.op with
 | some d, .nilsl e sz => [(d, e, sz)]
 | some d, .bslice e sz _ _ _ => [(d, e, sz)]
 | some d, .call _ _ (.fresh e sz) => [(d, e, sz)]
 | _, _ => []
def tsOf : List (MO × DK) → List Tag
 | [] => []
 | (m, .s) :: r => tagOf m ++ tsOf r
 | _ :: r => tsOf r
def evDraw2 (P : Program) (ms : List (MO × DK)) (S : St) (K : St → Prop) : Prop :=
 evQ P (osOf ms) (tsOf ms) ms (S.cut (osOf ms) (tsOf ms)) fun S1 => evS P (osOf ms) (tsOf ms) ms S1 fun S2 => evK P .a ms S2 fun S3 => evK P .h ms S3 K
structure Lock (ts : List Tag) (dst : Option Nat) (κ : D → D) (r : D) (X X' Y Y' : St) : Prop where
 x : ∀ t, X'.get t = if dst = some t then some r else (X.get t).map κ
 y : ∀ t, Y'.get t = if dst = some t then some r else (Y.get t).map κ
 bx : ∀ o, X'.box o = (X.box o).map (List.map κ)
 yb : ∀ o, Y'.box o = (Y.box o).map (List.map κ)
 tg : ∀ t, X'.tag t = Y'.tag t
 live : ∀ t, (Y.tag t).isSome = true → (Y'.tag t).isSome = true
 id : ∀ d : D, d.avoids (fun _ => true) (ptL ts) = true → κ d = d
 or : ∀ d : D, κ d = d ∨ κ d = .undef
theorem Lock.put (htg : ∀ t, X.tag t = Y.tag t) (ts : List Tag) (dst : Option Nat) (r : D) : Lock ts dst (fun d => d) r X (X.put dst r) Y (Y.put dst r) :=
 ⟨fun t => by rw [put_get']; simp, fun t => by rw [put_get']; simp, fun o => by cases dst <;> simp [St.put, St.box], fun o => by cases dst <;> simp [St.put, St.box], fun t => by cases dst <;> exact htg t, fun t h => by cases dst <;> exact h, fun _ _ => rfl, fun _ => .inl rfl⟩
theorem share_get' (S : St) (l : List Tag) (t : Nat) : (S.share l).get t = S.get t := rfl
theorem share_box' (S : St) (l : List Tag) (o : Nat) : (S.share l).box o = S.box o := rfl
theorem put_box' (S : St) (dst : Option Nat) (d : D) (o : Nat) : (S.put dst d).box o = S.box o := by cases dst <;> rfl
theorem put_tag' (S : St) (dst : Option Nat) (d : D) (t : Tag) : (S.put dst d).tag t = S.tag t := by cases dst <;> rfl
theorem newTag_get' (S : St) (T : Tag) (x : Bool) (t : Nat) : (S.newTag T x).get t = (S.get t).map (D.keep (fun _ => true) fun y => decide (y ≠ T)) := only_get _ _ _
theorem newTag_box' (S : St) (T : Tag) (x : Bool) (o : Nat) : (S.newTag T x).box o = (S.box o).map (List.map (D.keep (fun _ => true) fun y => decide (y ≠ T))) := only_box _ _ _
theorem keepT_id {ts : List Tag} {T : Tag} (hT : T ∈ ts) (d : D) (h : d.avoids (fun _ => true) (ptL ts) = true) : d.keep (fun _ => true) (fun y => decide (y ≠ T)) = d :=
 keep_id (avoids_mono (fun _ h => h) (fun t ht => by
  have : ¬ t ∈ ts := by simpa [ptL] using ht
  simp only [ne_eq, decide_eq_true_eq]
  rintro rfl
  exact this hT) d h)
theorem Lock.share (htg : ∀ t, X.tag t = Y.tag t) (ts : List Tag) (dst : Option Nat) (r : D) (l : List Tag) : Lock ts dst (fun d => d) r X ((X.share l).put dst r) Y ((Y.share l).put dst r) :=
 ⟨fun t => by rw [put_get', share_get']; simp, fun t => by rw [put_get', share_get']; simp, fun o => by rw [put_box', share_box']; simp, fun o => by rw [put_box', share_box']; simp, fun t => by rw [put_tag', put_tag', share_tag, share_tag, htg],
  fun t h => by rw [put_tag', share_tag]; simpa using h, fun _ _ => rfl, fun _ => .inl rfl⟩
theorem Lock.row (htg : ∀ t, X.tag t = Y.tag t) {ts : List Tag} {dst : Option Nat} {r : D} {l : List Tag} {T : Tag} (hT : T ∈ ts) : Lock ts dst (D.keep (fun _ => true) fun y => decide (y ≠ T)) r X (((X.share l).newTag T true).put dst r) Y (((Y.share l).newTag T true).put dst r) :=
 ⟨fun t => by rw [put_get', newTag_get', share_get'], fun t => by rw [put_get', newTag_get', share_get'], fun o => by rw [put_box', newTag_box', share_box'], fun o => by rw [put_box', newTag_box', share_box'],
  fun t => by rw [put_tag', put_tag', newTag_tag, newTag_tag, share_tag, share_tag, htg], fun t h => by
   rw [put_tag', newTag_tag]
   split
   ·rfl
   ·rw [share_tag]; simpa using h, fun d h => keepT_id hT d h, fun d => keep_or _ _ d⟩
theorem soft_sim {ts : List Tag} {m : MO} (hok : softOk ts Y m.op) (hm : More X Y m.op.reads) (htg : ∀ t, X.tag t = Y.tag t) (hts : ∀ t ∈ tagOf m, t ∈ ts) (hv : vstep P m.op m.dst Y K) :
    vstep P m.op m.dst X (fun X' => ∃ Y' κ r, K Y' ∧ Lock ts m.dst κ r X X' Y Y') := by
 obtain ⟨dst, m, gd⟩ := m
 simp only at hok hm hv hts ⊢
 have pure : (match pop Y m with | some d => K (Y.put dst d) | none => False) → (match pop X m with | some d => (∃ Y' κ r, K Y' ∧ Lock ts dst κ r X (X.put dst d) Y Y') | none => False) := fun h => by
  split at h
  ·rename_i d hd
   rw [hm.pop hd]
   exact ⟨_, _, _, h, Lock.put htg ts dst d⟩
  ·exact h.elim
 have live : ∀ l : List Tag, (l.all fun t => (Y.tag t).isSome) = true → (l.all fun t => (X.tag t).isSome) = true := fun l h => by
  simp only [htg]; exact h
 cases m
 case nilsl e sz =>
  simp only [vstep] at hv ⊢
  cases dst with
  | none => exact hv
  | some d =>
   have hL := Lock.row (X := X) (Y := Y) htg (ts := ts) (dst := some d) (r := .sl (some (d, e, sz)) []) (l := []) (T := (d, e, sz)) (hts _ (by simp [tagOf]))
   rw [share_nil, share_nil] at hL
   exact ⟨_, _, _, hv, hL⟩
 case alloc t z => exact hok.elim
 case box t sz x => exact hok.elim
 case store sz x v => exact hok.elim
 case isnil neg x => exact hok.elim
 case xop k => exact hok.elim
 case bslice e sz z len ps =>
  simp only [vstep] at hv ⊢
  rw [← More.fill (by simpa [MOp.reads] using hm)]
  split at hv
  ·split at hv
   ·rename_i fs hfs
    exact ⟨live _ hv.1, hv.2.1, _, _, _, hv.2.2, Lock.row htg (hts _ (by simp [tagOf]))⟩
   ·exact hv.elim
  ·exact hv.elim
 case append e sz bytes x y =>
  simp only [MOp.reads] at hm
  simp only [vstep] at hv ⊢
  simp only [softOk] at hok
  rw [← hm.look x (by simp), ← hm.look y (by simp)]
  split at hv
  ·rename_i t es tag ys hx hy
   rw [hx] at hok
   simp only at hok
   obtain ⟨h1, h2, h3, h4, h5, h6, h7, h8, h9⟩ := hv
   refine ⟨h1, h2, by rw [htg]; exact h3, ?_, h5, h6, h7, h8, _, D.keep (fun _ => true) (fun y => decide (y ≠ t)), .sl (some t) (es ++ ys), h9, ?_⟩
   ·cases tag with
    | none => rfl
    | some t' => simp only [Option.all_some, htg] at h4 ⊢; exact h4
   ·exact ⟨fun t => by rw [put_get', only_get], fun t => by rw [put_get', only_get], fun o => by rw [put_box', only_box], fun o => by rw [put_box', only_box], fun t => by rw [put_tag', put_tag', only_tag, only_tag, htg], fun t h => by rw [put_tag', only_tag]; exact h,
      fun d h => keepT_id hok d h, fun d => keep_or _ _ d⟩
  ·exact hv.elim
 case call f args md =>
  simp only [MOp.reads] at hm
  simp only [vstep] at hv ⊢
  rw [← hm.look f (by simp), ← (hm.sub (ys := args) (fun y hy => by simp [hy])).looks]
  split at hv
  ·rename_i k first caps ds hf ha
   cases md with
   | pure =>
    simp only at hv ⊢
    split at hv
    ·rename_i fs hfs
     exact ⟨live _ hv.1, hv.2.mono fun r hr => ⟨_, _, _, hr, Lock.share htg ts dst r _⟩⟩
    ·exact hv.elim
   | fresh e sz =>
    simp only at hv ⊢
    split at hv
    ·rename_i d fs hd hfs
     exact ⟨live _ hv.1, hv.2.mono fun r hr => ⟨_, _, _, hr, Lock.row htg (hts _ (by simp [tagOf]))⟩⟩
    ·exact hv.elim
   | turn => exact hok.elim
   | take => exact hok.elim
   | obj bs ts nb nt => exact hok.elim
   | freshV e sz => exact hok.elim
   | copy e sz => exact hok.elim
   | lend =>
    simp only at hv ⊢
    split at hv
    ·rename_i fs hfs
     exact ⟨live _ hv.1, hv.2.mono fun r hr => ⟨hr.1, _, _, _, hr.2, Lock.put htg ts dst r⟩⟩
    ·exact hv.elim
  ·exact hv.elim
 all_goals exact pure hv
end Go.Vm
