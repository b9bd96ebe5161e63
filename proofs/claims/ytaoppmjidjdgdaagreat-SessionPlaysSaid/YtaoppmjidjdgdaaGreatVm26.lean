/- The value machine, 26: of a statement in any order, what only looks may be told first. -/
import Derived.Test.YtaoppmjidjdgdaaGreatVm24
set_option linter.unusedVariables false
set_option maxRecDepth 2000
namespace Go.Vm
open Go.RowKit
set_option linter.unusedVariables false
variable {P : Program} {S S' X Y : St} {K L J : St → Prop} {l : List (Nat × D)} {fr : Nat → Bool}
def D.freeF (fr : Nat → Bool) (d : D) : Bool := d.avoids fr (fun _ => false)
theorem keep_free {d : D} (h : d.freeF fr = true) (po : Nat → Bool) (pt : Tag → Bool) (hp : ∀ o, fr o = true → po o = true := by simp) : d.keep po pt = d := keep_id (avoids_mono hp (by simp) d h)
theorem far_ne {d : Nat} (h : fr d = false) : ∀ o, fr o = true → decide (o ≠ d) = true := fun o ho => by
 rw [decide_eq_true_eq]
 rintro rfl
 rw [h] at ho; cases ho
theorem remake_free {d : D} (h : d.freeF fr = true) (t : Tag) (es : List (List D)) : d.remake t es = d := by
 unfold D.remake
 split
 ·simp [D.freeF, D.avoids] at h
 ·simp [D.freeF, D.avoids] at h
 ·exact keep_free h _ _
theorem upd_free {d : D} (h : d.freeF fr = true) (t : Tag) (i off : Nat) (ds : List D) : d.upd t i off ds = d := by
 unfold D.upd
 split
 ·simp [D.freeF, D.avoids] at h
 ·simp [D.freeF, D.avoids] at h
 ·simp [D.freeF, D.avoids] at h
 ·exact keep_free h _ _
structure Xt (l : List (Nat × D)) (X Y : St) : Prop where
 get : ∀ k, X.get k = (lkp k l).or (Y.get k)
 box : ∀ o, X.box o = Y.box o
 tag : ∀ t, X.tag t = Y.tag t
structure Tr (fr : Nat → Bool) (T : St → St) : Prop where
 f : ∃ f : D → D, (∀ S k, (T S).get k = (S.get k).map f) ∧ ∀ d, d.freeF fr = true → f d = d
 bt : ∀ X Y : St, (∀ o, X.box o = Y.box o) → (∀ t, X.tag t = Y.tag t) → (∀ o, (T X).box o = (T Y).box o) ∧ ∀ t, (T X).tag t = (T Y).tag t
theorem Tr.id : Tr fr (fun S => S) := ⟨⟨fun d => d, fun S k => by simp, fun _ _ => rfl⟩, fun _ _ h1 h2 => ⟨h1, h2⟩⟩
theorem Tr.comp {T U : St → St} (h : Tr fr T) (h' : Tr fr U) : Tr fr (fun S => U (T S)) := by
 obtain ⟨f, f1, f2⟩ := h.f
 obtain ⟨g, g1, g2⟩ := h'.f
 exact ⟨⟨fun d => g (f d), fun S k => by rw [g1, f1, Option.map_map]; rfl, fun d hd => by show g (f d) = d; rw [f2 d hd, g2 d hd]⟩, fun X Y h1 h2 => by
  have := h.bt X Y h1 h2
  exact h'.bt _ _ this.1 this.2⟩
theorem Tr.newTag (t : Tag) (x : Bool) : Tr fr (fun S => S.newTag t x) := ⟨⟨_, fun S k => newTag_get' S t x k, fun d hd => keep_free hd _ _⟩, fun X Y h1 h2 => ⟨fun o => by rw [newTag_box', newTag_box', h1], fun t' => by rw [newTag_tag, newTag_tag, h2]⟩⟩
theorem newBox_get' (S : St) (o : Nat) (cs : List D) (t : Nat) : (S.newBox o cs).get t = (S.get t).map (D.keep (fun y => decide (y ≠ o)) fun _ => true) := only_get _ _ _
theorem Tr.newBox (o : Nat) (cs : List D) (ho : ∀ y, fr y = true → decide (y ≠ o) = true) : Tr fr (fun S => S.newBox o cs) := ⟨⟨_, fun S k => newBox_get' S o cs k, fun d hd => keep_free hd _ _ ho⟩, fun X Y h1 h2 => ⟨fun o' => by rw [newBox_box, newBox_box, h1], fun t' => h2 t'⟩⟩
theorem Tr.setBox (o : Nat) (cs : List D) : Tr fr (fun S => S.setBox o cs) := ⟨⟨fun d => d, fun S k => by simp [St.setBox, St.get], fun d hd => rfl⟩, fun X Y h1 h2 => ⟨fun o' => by rw [setBox_box, setBox_box, h1], fun t' => h2 t'⟩⟩
theorem Tr.share (ts : List Tag) : Tr fr (fun S => S.share ts) := ⟨⟨fun d => d, fun S k => by simp [St.share, St.get], fun d hd => rfl⟩, fun X Y h1 h2 => ⟨fun o' => h1 o', fun t' => by rw [share_tag, share_tag, h2]⟩⟩
theorem Tr.remake (t : Tag) (es : List (List D)) : Tr fr (fun S => S.remake t es) := ⟨⟨_, fun S k => remake_get t es k, fun d hd => remake_free hd _ _⟩, fun X Y h1 h2 => (Tr.newTag (fr := fr) t true).bt X Y h1 h2⟩
theorem Tr.upd (t : Tag) (i off : Nat) (ds : List D) : Tr fr (fun S => S.upd t i off ds) := ⟨⟨_, fun S k => upd_get t i off ds k, fun d hd => upd_free hd _ _ _ _⟩, fun X Y h1 h2 => ⟨fun o' => by rw [upd_box, upd_box, h1], fun t' => h2 t'⟩⟩
theorem Tr.only (pt : Tag → Bool) : Tr fr (fun S => S.only (fun _ => true) pt) := ⟨⟨_, fun S k => only_get (fun _ => true) pt k, fun d hd => keep_free hd _ _⟩, fun X Y h1 h2 => ⟨fun o' => by rw [only_box, only_box, h1], fun t' => h2 t'⟩⟩
theorem Tr.back (L : Lend) (hp : List (Nat × List D)) (tg : List (Tag × Bool)) (hL : ∀ x ∈ L.nb, fr x.2 = false) : Tr fr (fun S => S.back L hp tg) := ⟨⟨_, fun S k => back_get L hp tg k, fun d hd => keep_free hd _ _ fun o ho => notIn_iff.2 fun hm => by
    obtain ⟨⟨a, b⟩, h1, rfl⟩ := List.mem_map.1 hm
    have := hL _ h1
    rw [this] at ho; cases ho⟩, fun X Y h1 h2 => ⟨fun o' => by rw [back_box, back_box, h1], fun t' => by rw [back_tag, back_tag, h2]⟩⟩
def okN (fr : Nat → Bool) (m : MOp) (dst : Option Nat) : Prop := (∀ t, dst = some t → fr t = false ∧ fr (mapB + t) = false ∧ fr (itB + t) = false) ∧ match m with | .call _ _ (.obj _ _ nb _) => ∀ x ∈ nb, fr x.2 = false | _ => True
def Frees (fr : Nat → Bool) (l : List (Nat × D)) : Prop := ∀ k d, lkp k l = some d → d.freeF fr = true
def Sta (fr : Nat → Bool) (dst : Option Nat) (Y Y' : St) : Prop := ∀ k d, dst ≠ some k → Y.get k = some d → d.freeF fr = true → Y'.get k = some d
theorem Tr.fin {T : St → St} (hT : Tr fr T) (h : Xt l X Y) (hl : Frees fr l) {dst : Option Nat} (hd : ∀ t, dst = some t → lkp t l = none) (r : D) (hL : L ((T X).put dst r)) : Sta fr dst Y ((T Y).put dst r) ∧ ∃ X', Xt l X' ((T Y).put dst r) ∧ L X' := by
 obtain ⟨f, f1, f2⟩ := hT.f
 refine ⟨fun k d hk hg hf => ?_, _, ⟨fun k => ?_, fun o => ?_, fun t => ?_⟩, hL⟩
 ·rw [put_get', if_neg hk, f1, hg, Option.map_some, f2 d hf]
 ·rw [put_get', put_get']
  by_cases hk : dst = some k
  ·rw [if_pos hk, if_pos hk, hd k hk]; rfl
  ·rw [if_neg hk, if_neg hk, f1, f1, h.get]
   cases hx : lkp k l with
   | none => rfl
   | some d => simp [f2 d (hl k d hx)]
 ·rw [put_box', put_box']; exact (hT.bt X Y h.box h.tag).1 o
 ·rw [put_tag', put_tag']; exact (hT.bt X Y h.box h.tag).2 t
theorem Tr.fin' {T : St → St} (hT : Tr fr T) (h : Xt l X Y) (hl : Frees fr l) {dst : Option Nat} (hL : L (T X)) : Sta fr dst Y (T Y) ∧ ∃ X', Xt l X' (T Y) ∧ L X' := by
 have := hT.fin (dst := none) h hl (fun t ht => by cases ht) .undef hL
 exact ⟨fun k d _ hg hf => this.1 k d (by simp) hg hf, this.2⟩
theorem Xt.look (h : Xt l X Y) {x : Operand} (hx : ∀ t, x = .tmp t → lkp t l = none) : look X x = look Y x := by
 cases x with
 | tmp t => show X.get t = Y.get t; rw [h.get, hx t rfl]; rfl
 | _ => rfl
theorem Xt.more (h : Xt l X Y) {xs : List Operand} (hx : ∀ x ∈ xs, ∀ t, x = .tmp t → lkp t l = none) : More X Y xs := ⟨fun x hm => (h.look (hx x hm)).symm, fun o cs ho => by rw [h.box]; exact ho, fun t ht => by rw [h.tag]; exact ht⟩
theorem Xt.more' (h : Xt l X Y) {xs : List Operand} (hx : ∀ x ∈ xs, ∀ t, x = .tmp t → lkp t l = none) : More Y X xs := ⟨fun x hm => h.look (hx x hm), fun o cs ho => by rw [← h.box]; exact ho, fun t ht => by rw [← h.tag]; exact ht⟩
theorem Xt.pop (h : Xt l X Y) {m : MOp} (hx : ∀ x ∈ m.reads, ∀ t, x = .tmp t → lkp t l = none) : Vm.pop X m = Vm.pop Y m := by
 cases hX : Vm.pop X m with
 | some d => exact ((h.more' hx).pop hX).symm
 | none =>
  cases hY : Vm.pop Y m with
  | none => rfl
  | some d => have := (h.more hx).pop hY; rw [hX] at this; cases this
theorem Xt.seen (h : Xt l X Y) (bs0 : List (Nat × Nat)) (ts : List (Tag × Tag)) : ∀ bs, seenH X bs0 ts bs = seenH Y bs0 ts bs
 | [] => rfl
 | (o, o') :: r => by simp only [seenH, h.box, h.seen bs0 ts r]
theorem xstep_ex {k : XOp} {dst : Option Nat} (h : Xt l X Y) (hl : Frees fr l) (hr : ∀ x ∈ k.reads, ∀ t, x = .tmp t → lkp t l = none) (hd : ∀ t, dst = some t → lkp t l = none) (hlt : ∀ t, dst = some t → fr t = false ∧ fr (mapB + t) = false ∧ fr (itB + t) = false) (hv : xstep k dst X L) : xstep k dst Y (fun Y' => Sta fr dst Y Y' ∧ ∃ X', Xt l X' Y' ∧ L X') := by
 cases k <;> simp only [XOp.reads] at hr <;> simp only [xstep] at hv ⊢
 case clr sz zero x =>
  rw [h.look (hr x (by simp))] at hv
  split at hv
  ·rw [h.tag] at hv
   exact ⟨hv.1, hv.2.1, hv.2.2.1, hv.2.2.2.1, (Tr.remake _ _).fin h hl hd _ hv.2.2.2.2⟩
  ·exact hv.elim
 case slc3 sz x lo hi mx =>
  rw [h.look (hr x (by simp))] at hv
  split at hv
  ·obtain ⟨h0, m, q, j, h1, h2, h3, h4, h5⟩ := hv
   have hm := h.more (xs := x :: mx :: (lo.toList ++ hi.toList)) hr
   refine ⟨by simpa only [h.tag] using h0, m, q, j, ?_, h2, ?_, ?_, Tr.id.fin h hl hd _ h5⟩
   ·rw [hm.bound (fun y hy => by injection hy with hy; subst hy; simp)]; exact h1
   ·rw [hm.bound (fun y hy => by subst hy; simp)]; exact h3
   ·rw [hm.bound (fun y hy => by subst hy; simp)]; exact h4
  ·exact hv.elim
 case appP e sz b x y =>
  rw [h.look (hr x (by simp)), h.look (hr y (by simp))] at hv
  split at hv
  ·rw [h.tag] at hv
   exact ⟨hv.1, hv.2.1, hv.2.2.1, hv.2.2.2.1, hv.2.2.2.2.1, hv.2.2.2.2.2.1, hv.2.2.2.2.2.2.1, (Tr.remake _ _).fin h hl hd _ hv.2.2.2.2.2.2.2⟩
  ·exact hv.elim
 case mkmap =>
  split at hv
  ·exact (Tr.newBox _ _ (far_ne (hlt _ rfl).2.1)).fin h hl hd _ hv
  ·exact hv.elim
 case mget ks zero ok m k =>
  rw [h.look (hr m (by simp)), h.look (hr k (by simp))] at hv
  split at hv
  ·rw [h.box] at hv
   split at hv
   ·refine ⟨hv.1, hv.2.1, ?_⟩
    have h3 := hv.2.2
    split at h3
    ·exact Tr.id.fin h hl hd _ h3
    ·exact h3.elim
   ·exact hv.elim
  ·exact hv.elim
 case mput ks m k v =>
  rw [h.look (hr m (by simp)), h.look (hr k (by simp)), h.look (hr v (by simp))] at hv
  split at hv
  ·rw [h.box] at hv
   split at hv
   ·refine ⟨hv.1, hv.2.1, by simpa only [h.tag] using hv.2.2.1, ?_⟩
    have h3 := hv.2.2.2
    split at h3
    ·exact ((Tr.share _).comp (Tr.setBox _ _)).fin h hl hd _ h3
    ·exact h3.elim
   ·exact hv.elim
  ·exact hv.elim
 case mdel ks m k =>
  rw [h.look (hr m (by simp)), h.look (hr k (by simp))] at hv
  split at hv
  ·rw [h.box] at hv
   split at hv
   ·refine ⟨hv.1, hv.2.1, ?_⟩
    have h3 := hv.2.2
    split at h3
    ·exact (Tr.setBox _ _).fin h hl hd _ h3
    ·exact h3.elim
   ·exact hv.elim
  ·exact hv.elim
 case mlen m =>
  rw [h.look (hr m (by simp))] at hv
  split at hv
  ·rw [h.box] at hv
   split at hv
   ·exact ⟨hv.1, Tr.id.fin h hl hd _ hv.2⟩
   ·exact hv.elim
  ·exact hv.elim
 case isnilI neg x =>
  rw [h.look (hr x (by simp))] at hv
  split at hv
  ·exact Tr.id.fin h hl hd _ hv
  ·exact Tr.id.fin h hl hd _ hv
  ·exact hv.elim
 case mrange m =>
  rw [h.look (hr m (by simp))] at hv
  split at hv
  ·rw [h.box] at hv
   split at hv
   ·exact ⟨hv.1, fun st c h1 h2 => ((Tr.setBox _ _).comp (Tr.newBox _ _ (far_ne (hlt _ rfl).2.2))).fin h hl hd _ (hv.2 st c h1 h2)⟩
   ·exact hv.elim
  ·exact hv.elim
 case mnext m =>
  rw [h.look (hr m (by simp))] at hv
  split at hv
  ·obtain ⟨o, c, es, seen, st, h1, h2, h3, h4, h5, h6⟩ := hv
   refine ⟨o, c, es, seen, st, h1, h2, by rw [← h.box]; exact h3, by rw [← h.box]; exact h4, fun hs => Tr.id.fin h hl hd _ (h5 hs), fun j s a b c => (Tr.setBox _ _).fin h hl hd _ (h6 j s a b c)⟩
  ·exact hv.elim
 case mentry m =>
  rw [h.look (hr m (by simp))] at hv
  split at hv
  ·obtain ⟨o, c, es, seen, st, j, s, r, h1, h2, h3, h4, h5, h6, h7, h8⟩ := hv
   exact ⟨o, c, es, seen, st, j, s, r, h1, h2, by rw [← h.box]; exact h3, by rw [← h.box]; exact h4, h5, h6, h7, Tr.id.fin h hl hd _ h8⟩
  ·exact hv.elim
theorem vstep_ex {m : MOp} {dst : Option Nat} (h : Xt l X Y) (hl : Frees fr l) (hr : ∀ x ∈ m.reads, ∀ t, x = .tmp t → lkp t l = none) (hd : ∀ t, dst = some t → lkp t l = none) (hlt : okN fr m dst) (hv : vstep P m dst X L) : vstep P m dst Y (fun Y' => Sta fr dst Y Y' ∧ ∃ X', Xt l X' Y' ∧ L X') := by
 have pure : (match pop X m with | some d => L (X.put dst d) | none => False) → (match pop Y m with | some d => Sta fr dst Y (Y.put dst d) ∧ ∃ X', Xt l X' (Y.put dst d) ∧ L X' | none => False) := fun hv => by
  rw [h.pop hr] at hv
  split at hv
  ·exact Tr.id.fin h hl hd _ hv
  ·exact hv.elim
 cases m
 case nilsl e sz =>
  simp only [vstep] at hv ⊢
  split at hv
  ·exact (Tr.newTag _ _).fin h hl hd _ hv
  ·exact hv.elim
 case alloc t z =>
  simp only [vstep] at hv ⊢
  split at hv
  ·exact (Tr.newBox _ _ (far_ne (hlt.1 _ rfl).1)).fin h hl hd _ hv
  ·exact hv.elim
 case box t sz x =>
  simp only [MOp.reads] at hr
  simp only [vstep] at hv ⊢
  rw [h.look (hr x (by simp))] at hv
  split at hv
  ·split at hv
   ·exact ⟨hv.1, (Tr.newBox _ _ (far_ne (hlt.1 _ rfl).1)).fin h hl hd _ hv.2⟩
   ·exact hv.elim
  ·exact hv.elim
 case bslice e sz z len ps =>
  simp only [MOp.reads] at hr
  simp only [vstep] at hv ⊢
  rw [← (h.more hr).fill] at hv
  split at hv
  ·split at hv
   ·exact ⟨by simpa only [h.tag] using hv.1, hv.2.1, ((Tr.share _).comp (Tr.newTag _ _)).fin h hl hd _ hv.2.2⟩
   ·exact hv.elim
  ·exact hv.elim
 case store sz x v =>
  simp only [MOp.reads] at hr
  simp only [vstep] at hv ⊢
  rw [h.look (hr x (by simp)), h.look (hr v (by simp))] at hv
  split at hv
  ·rw [h.box] at hv
   split at hv
   ·exact ⟨hv.1, hv.2.1, (Tr.setBox _ _).fin' h hl hv.2.2⟩
   ·exact hv.elim
  ·split at hv
   ·split at hv
    ·exact ⟨by rw [← h.tag]; exact hv.1, hv.2.1, hv.2.2.1, by simpa only [h.tag] using hv.2.2.2.1, ((Tr.share _).comp (Tr.upd _ _ _ _)).fin' h hl hv.2.2.2.2⟩
    ·exact hv.elim
   ·exact hv.elim
  ·exact hv.elim
 case append e sz bytes x y =>
  simp only [MOp.reads] at hr
  simp only [vstep] at hv ⊢
  rw [h.look (hr x (by simp)), h.look (hr y (by simp))] at hv
  split at hv
  ·obtain ⟨h1, h2, h3, h4, h5, h6, h7, h8, h9⟩ := hv
   exact ⟨h1, h2, by rw [← h.tag]; exact h3, by simpa only [h.tag] using h4, h5, h6, h7, h8, (Tr.only _).fin h hl hd _ h9⟩
  ·exact hv.elim
 case call f args md =>
  simp only [MOp.reads] at hr
  simp only [vstep] at hv ⊢
  have hlk := h.more (xs := f :: args) hr
  rw [h.look (hr f (by simp)), ← (hlk.sub (fun y hy => by simp [hy])).looks] at hv
  split at hv
  ·cases md with
   | pure =>
    simp only at hv ⊢
    split at hv
    ·exact ⟨by simpa only [h.tag] using hv.1, hv.2.mono fun r hr => (Tr.share _).fin h hl hd _ hr⟩
    ·exact hv.elim
   | fresh e sz =>
    simp only at hv ⊢
    split at hv
    ·exact ⟨by simpa only [h.tag] using hv.1, hv.2.mono fun r hr => ((Tr.share _).comp (Tr.newTag _ _)).fin h hl hd _ hr⟩
    ·exact hv.elim
   | freshV e sz =>
    simp only at hv ⊢
    split at hv
    ·exact ⟨by simpa only [h.tag] using hv.1, hv.2.mono fun r hr => ((Tr.share _).comp (Tr.newTag _ _)).fin h hl hd _ hr⟩
    ·exact hv.elim
   | turn =>
    simp only at hv ⊢
    split at hv
    ·split at hv
     ·exact ⟨by rw [← h.tag]; exact hv.1, by simpa only [h.tag] using hv.2.1, hv.2.2.mono fun es r hr => ((Tr.share _).comp (Tr.remake _ _)).fin h hl hd _ hr⟩
     ·exact hv.elim
    ·exact hv.elim
   | take =>
    simp only at hv ⊢
    split at hv
    ·split at hv
     ·exact ⟨by rw [← h.tag]; exact hv.1, by simpa only [h.tag] using hv.2.1, hv.2.2.mono fun es r hr => (((Tr.share _).comp (Tr.remake _ _)).comp (Tr.share _)).fin h hl hd _ hr⟩
     ·exact hv.elim
    ·exact hv.elim
   | copy e sz =>
    simp only at hv ⊢
    split at hv
    ·exact ⟨hv.1, by simpa only [h.tag] using hv.2.1, hv.2.2.1, (Tr.newTag _ _).fin h hl hd _ hv.2.2.2⟩
    ·exact hv.elim
   | lend =>
    simp only at hv ⊢
    split at hv
    ·exact ⟨by simpa only [h.tag] using hv.1, hv.2.mono fun r hr => ⟨hr.1, Tr.id.fin h hl hd _ hr.2⟩⟩
    ·exact hv.elim
   | obj bs ts nb nt =>
    simp only [objP] at hv ⊢
    split at hv
    ·rw [h.seen] at hv
     split at hv
     ·exact ⟨hv.1, by simpa only [h.tag] using hv.2.1, by simpa only [h.tag] using hv.2.2.1, hv.2.2.2.mono fun r hp tg hr => ((Tr.share _).comp (Tr.back _ _ _ hlt.2)).fin h hl hd _ hr⟩
     ·exact hv.elim
    ·exact hv.elim
  ·exact hv.elim
 case isnil neg x =>
  simp only [MOp.reads] at hr
  simp only [vstep] at hv ⊢
  rw [h.look (hr x (by simp))] at hv
  split at hv
  ·exact ⟨by simpa only [h.tag] using hv.1, fun b hb => Tr.id.fin h hl hd _ (hv.2 b hb)⟩
  ·exact hv.elim
 case xop k => exact xstep_ex h hl hr hd hlt.1 hv
 all_goals exact pure hv
theorem evOne_mo {m : MO} (hL : ∀ S, L S → K S) (h : evOne P m S L) : evOne P m S K := by
 unfold evOne at h ⊢
 split at h
 ·exact vstep_mono hL h
 ·exact hL _ h
 ·exact h.elim
theorem evOne_ex {m : MO} (h : Xt l X Y) (hl : Frees fr l) (hr : ∀ t ∈ m.readT, lkp t l = none) (hd : ∀ t, m.dst = some t → lkp t l = none) (hlt : okN fr m.op m.dst) (hv : evOne P m X L) : evOne P m Y (fun Y' => Sta fr m.dst Y Y' ∧ ∃ X', Xt l X' Y' ∧ L X') := by
 have hg : want X m.guard = want Y m.guard := by
  unfold want
  split
  ·rfl
  ·rename_i t b hgd
   rw [h.get, hr t (by simp [MO.readT, hgd])]; rfl
 unfold evOne at hv ⊢
 rw [hg] at hv
 split at hv
 ·refine vstep_ex h hl (fun x hx t ht => hr t ?_) hd hlt hv
  subst ht
  simp only [MO.readT, List.mem_append, List.mem_filterMap]
  exact .inl ⟨_, hx, rfl⟩
 ·exact Tr.id.fin h hl hd _ hv
 ·exact hv.elim
theorem evAlt_of {k : Nat → St → Prop} : ∀ {r : List (Nat × MO)}, (∀ i m, (i, m) ∈ r → evOne P m S (k i)) → evAlt P k S r
 | [], _ => trivial
 | (i, m) :: r, h => ⟨h i m (by simp), evAlt_of fun j m' hm => h j m' (by simp [hm])⟩
theorem okR_congr {done done' : List Nat} (h : ∀ k, done.contains k = done'.contains k) (i : Nat) (ps : List Nat) : okR done i ps = okR done' i ps := by
 unfold okR
 rw [h]
 congr 1
 congr 1
 funext k
 exact h k
theorem ready1_congr {done done' : List Nat} (h : ∀ k, done.contains k = done'.contains k) : ∀ (q : List (MO × List Nat)) (i : Nat), ready1 done i q = ready1 done' i q
 | [], _ => rfl
 | (m, ps) :: r, i => by simp only [ready1, okR_congr h, ready1_congr h r]
theorem evAny_perm {q : List (MO × List Nat)} : ∀ (n : Nat) {done done' : List Nat}, (∀ k, done.contains k = done'.contains k) → ∀ {S : St}, evAny P q K n done S → evAny P q K n done' S
 | 0, _, _, _, _, h => h
 | n + 1, done, done', hc, S, h => by
  simp only [evAny] at h ⊢
  rw [← ready1_congr hc]
  refine ⟨h.1, evAlt_of fun i m hm => evOne_mo (fun S' h' => evAny_perm n (fun k => ?_) h') (evAlt_mem h.2 hm)⟩
  simp only [List.contains_cons, hc]
theorem evAny_ex {q : List (MO × List Nat)} (hq : ∀ x ∈ q, okN fr x.1.op x.1.dst) (hK : ∀ X Y, Xt [] X Y → K X → K Y) : ∀ (n : Nat) {done : List Nat} {X Y : St}, Xt [] X Y → evAny P q K n done X → evAny P q K n done Y
 | 0, _, X, Y, h, hv => hK X Y h hv
 | n + 1, done, X, Y, h, hv => by
  simp only [evAny] at hv ⊢
  exact ⟨hv.1, evAlt_of fun i m hm => evOne_mo (fun Y' ⟨_, X', h1, h2⟩ => evAny_ex hq hK n h1 h2) (evOne_ex (fr := fr) h (fun k d hk => by simp [lkp] at hk) (fun t _ => rfl) (fun t _ => rfl) (by
   obtain ⟨-, ps, h1, -⟩ := ready1_mem hm
   exact hq _ (List.mem_of_getElem? h1)) (evAlt_mem hv.2 hm))⟩
def qv (S : St) (m : MO) (d : D) : Prop := (want S m.guard = some true ∧ pop S m.op = some d) ∨ (want S m.guard = some false ∧ d = .val undef)
theorem vstep_q1 {m : MOp} {dst : Option Nat} {d : D} (h : pop S m = some d) (hK : K (S.put dst d)) : vstep P m dst S K := by
 cases m <;> first
  | (simp [pop] at h; done)
  | (simp only [vstep]; rw [h]; exact hK)
theorem evOne_q {m : MO} {d : D} (h : qv S m d) (hK : K (S.put m.dst d)) : evOne P m S K := by
 unfold evOne
 rcases h with ⟨h1, h2⟩ | ⟨h1, rfl⟩
 ·rw [h1]; exact vstep_q1 h2 hK
 ·rw [h1]; exact hK
theorem okR_spec {done : List Nat} {i : Nat} {ps : List Nat} : okR done i ps = true ↔ i ∉ done ∧ ∀ k ∈ ps, k ∈ done := by
 simp [okR]
theorem por {q : List (MO × List Nat)} {i : Nat} {m : MO} {ps : List Nat} {t : Nat} {d : D} (hi : q[i]? = some (m, ps)) (ht : m.dst = some t) (hdf : d.freeF fr = true) (hq : ∀ x ∈ q, okN fr x.1.op x.1.dst)
    (hc : ∀ j m' ps', q[j]? = some (m', ps') → j ≠ i → m'.dst ≠ some t ∧ (t ∈ m'.readT → i ∈ ps')) (hK : ∀ X Y, Xt [] X Y → K X → K Y) :
    ∀ (n : Nat) (done : List Nat) (S X : St), done.Nodup → (∀ k ∈ done, k < q.length) → n + 1 + done.length = q.length →
     (∀ j m' ps', q[j]? = some (m', ps') → j ∉ done → j ≠ i → ∀ k ∈ m.readT, m'.dst ≠ some k) → (∀ k ∈ m.readT, ∃ d0, S.get k = some d0 ∧ d0.freeF fr = true) →
     (∀ S', (∀ k ∈ m.readT, S'.get k = S.get k) → qv S' m d) → okR done i ps = true → Xt [(t, d)] X S → evAny P q K n (i :: done) X → evAny P q K (n + 1) done S := by
 intro n
 induction n with
 | zero =>
  intro done S X hnd hlt hlen hdst hop hst hok hX hv
  have hi' : i < q.length := (List.getElem?_eq_some_iff.1 hi).1
  obtain ⟨ok1, ok2⟩ := okR_spec.1 hok
  simp only [evAny]
  have hmem : (i, m) ∈ ready1 done 0 q := by
   have := mem_ready1 (done := done) (l := q) (i := 0) hi (by rw [Nat.zero_add]; exact hok)
   rwa [Nat.zero_add] at this
  refine ⟨fun h0 => (by rw [h0] at hmem; cases hmem), evAlt_of fun j m' hm => ?_⟩
  obtain ⟨-, ps', h1, h2⟩ := ready1_mem hm
  rw [Nat.sub_zero] at h1
  by_cases hji : j = i
  ·subst hji
   rw [hi] at h1; injection h1 with h1; injection h1 with h1 h3; subst h1; subst h3
   refine evOne_q (hst S fun _ _ => rfl) (hK X _ ?_ hv)
   refine ⟨fun k => ?_, fun o => by rw [hX.box, put_box'], fun g => by rw [hX.tag, put_tag']⟩
   rw [hX.get, put_get', ht]
   by_cases hk : k = t
   ·subst hk; simp [lkp]
   ·simp [lkp, hk, Ne.symm hk]
  ·exfalso
   obtain ⟨hj1, -⟩ := okR_spec.1 h2
   have hj' : j < q.length := (List.getElem?_eq_some_iff.1 h1).1
   have := nodup_lt q.length (i :: j :: done) (List.nodup_cons.2 ⟨by simp [ok1, Ne.symm hji], List.nodup_cons.2 ⟨hj1, hnd⟩⟩) (fun k hk => by
    simp only [List.mem_cons] at hk
    rcases hk with rfl | rfl | hk
    ·exact hi'
    ·exact hj'
    ·exact hlt k hk)
   simp only [List.length_cons] at this
   omega
 | succ n ih =>
  intro done S X hnd hlt hlen hdst hop hst hok hX hv
  obtain ⟨ok1, ok2⟩ := okR_spec.1 hok
  have hfr : Frees fr [(t, d)] := fun k d' hk => by
   simp only [lkp] at hk
   split at hk
   ·injection hk with hk; subst hk; exact hdf
   ·cases hk
  rw [evAny]
  have hmem : (i, m) ∈ ready1 done 0 q := by
   have := mem_ready1 (done := done) (l := q) (i := 0) hi (by rw [Nat.zero_add]; exact hok)
   rwa [Nat.zero_add] at this
  refine ⟨fun h0 => (by rw [h0] at hmem; cases hmem), evAlt_of fun j m' hm => ?_⟩
  obtain ⟨-, ps', h1, h2⟩ := ready1_mem hm
  rw [Nat.sub_zero] at h1
  by_cases hji : j = i
  ·subst hji
   rw [hi] at h1; injection h1 with h1; injection h1 with h1 h3; subst h1; subst h3
   refine evOne_q (hst S fun _ _ => rfl) (evAny_ex hq hK _ (X := X) ?_ hv)
   refine ⟨fun k => ?_, fun o => by rw [hX.box, put_box'], fun g => by rw [hX.tag, put_tag']⟩
   rw [hX.get, put_get', ht]
   by_cases hk : k = t
   ·subst hk; simp [lkp]
   ·simp [lkp, hk, Ne.symm hk]
  ·obtain ⟨hj1, hj2⟩ := okR_spec.1 h2
   have hj' : j < q.length := (List.getElem?_eq_some_iff.1 h1).1
   obtain ⟨c1, c2⟩ := hc j m' ps' h1 hji
   have c3 : t ∉ m'.readT := fun hm => ok1 (hj2 i (c2 hm))
   simp only [evAny] at hv
   have hmem2 : (j, m') ∈ ready1 (i :: done) 0 q := by
    have := mem_ready1 (done := i :: done) (l := q) (i := 0) h1 (by
     rw [Nat.zero_add]
     exact okR_spec.2 ⟨by simp [hji, hj1], fun k hk => by simp [hj2 k hk]⟩)
    rwa [Nat.zero_add] at this
   refine evOne_mo (fun S' ⟨hs, X', e1, e2⟩ => ?_) (evOne_ex hX hfr (fun k hk => by
    have : k ≠ t := fun e => c3 (e ▸ hk)
    simp [lkp, this]) (fun k hk => by
    have : k ≠ t := fun e => c1 (e ▸ hk)
    simp [lkp, this]) (hq _ (List.mem_of_getElem? h1)) (evAlt_mem hv.2 hmem2))
   have hkeep : ∀ k ∈ m.readT, S'.get k = S.get k := fun k hk => by
    obtain ⟨d0, g1, g2⟩ := hop k hk
    rw [g1]
    exact hs k d0 (hdst j m' ps' h1 hj1 hji k hk) g1 g2
   refine ih (j :: done) S' X' (List.nodup_cons.2 ⟨hj1, hnd⟩) (fun k hk => ?_) (by simp only [List.length_cons]; omega) (fun j' m'' ps'' g1 g2 g3 => hdst j' m'' ps'' g1 (fun hm => g2 (by simp [hm])) g3) (fun k hk => ?_) (fun S'' hS'' => hst S'' fun k hk => (hS'' k hk).trans (hkeep k hk))
    (okR_spec.2 ⟨by simp [Ne.symm hji, ok1], fun k hk => by simp [ok2 k hk]⟩) e1 (evAny_perm n (fun k => ?_) e2)
   ·rcases List.mem_cons.1 hk with rfl | hk
    ·exact hj'
    ·exact hlt k hk
   ·rw [hkeep k hk]; exact hop k hk
   ·simp only [List.contains_cons]
    rw [← Bool.or_assoc, ← Bool.or_assoc, Bool.or_comm (k == j)]
def evAnyI (P : Program) (l : List (MO × List Nat)) (I K : St → Prop) : Nat → List Nat → St → Prop
 | 0, _, S => I S ∧ K S
 | n + 1, done, S => I S ∧ ready1 done 0 l ≠ [] ∧ evAlt P (fun i S' => evAnyI P l I K n (i :: done) S') S (ready1 done 0 l)
theorem evAnyI_any {I : St → Prop} {q : List (MO × List Nat)} : ∀ (n : Nat) {done : List Nat} {S : St}, evAnyI P q I K n done S → evAny P q K n done S
 | 0, _, _, h => h.2
 | n + 1, done, S, h => ⟨h.2.1, evAlt_of fun i m hm => evOne_mo (fun S' h' => evAnyI_any n h') (evAlt_mem h.2.2 hm)⟩
theorem evAnyI_perm {I : St → Prop} {q : List (MO × List Nat)} : ∀ (n : Nat) {done done' : List Nat}, (∀ k, done.contains k = done'.contains k) → ∀ {S : St}, evAnyI P q I K n done S → evAnyI P q I K n done' S
 | 0, _, _, _, _, h => h
 | n + 1, done, done', hc, S, h => by
  simp only [evAnyI] at h ⊢
  rw [← ready1_congr hc]
  refine ⟨h.1, h.2.1, evAlt_of fun i m hm => evOne_mo (fun S' h' => evAnyI_perm n (fun k => ?_) h') (evAlt_mem h.2.2 hm)⟩
  simp only [List.contains_cons, hc]
theorem evAnyI_ex {I : St → Prop} (hI : ∀ X Y : St, (∀ o, X.box o = Y.box o) → I X → I Y) {q : List (MO × List Nat)} (hq : ∀ x ∈ q, okN fr x.1.op x.1.dst) (hK : ∀ X Y, Xt [] X Y → K X → K Y) : ∀ (n : Nat) {done : List Nat} {X Y : St}, Xt [] X Y → evAnyI P q I K n done X → evAnyI P q I K n done Y
 | 0, _, X, Y, h, hv => ⟨hI X Y h.box hv.1, hK X Y h hv.2⟩
 | n + 1, done, X, Y, h, hv => by
  simp only [evAnyI] at hv ⊢
  exact ⟨hI X Y h.box hv.1, hv.2.1, evAlt_of fun i m hm => evOne_mo (fun Y' ⟨_, X', h1, h2⟩ => evAnyI_ex hI hq hK n h1 h2) (evOne_ex (fr := fr) h (fun k d hk => by simp [lkp] at hk) (fun t _ => rfl) (fun t _ => rfl) (by
   obtain ⟨-, ps, h1, -⟩ := ready1_mem hm
   exact hq _ (List.mem_of_getElem? h1)) (evAlt_mem hv.2.2 hm))⟩
theorem porI {I : St → Prop} (hI : ∀ X Y : St, (∀ o, X.box o = Y.box o) → I X → I Y) {q : List (MO × List Nat)} {i : Nat} {m : MO} {ps : List Nat} {t : Nat} {d : D} (hi : q[i]? = some (m, ps)) (ht : m.dst = some t) (hdf : d.freeF fr = true) (hq : ∀ x ∈ q, okN fr x.1.op x.1.dst)
    (hc : ∀ j m' ps', q[j]? = some (m', ps') → j ≠ i → m'.dst ≠ some t ∧ (t ∈ m'.readT → i ∈ ps')) (hK : ∀ X Y, Xt [] X Y → K X → K Y) :
    ∀ (n : Nat) (done : List Nat) (S X : St), done.Nodup → (∀ k ∈ done, k < q.length) → n + 1 + done.length = q.length →
     (∀ j m' ps', q[j]? = some (m', ps') → j ∉ done → j ≠ i → ∀ k ∈ m.readT, m'.dst ≠ some k) → (∀ k ∈ m.readT, ∃ d0, S.get k = some d0 ∧ d0.freeF fr = true) →
     (∀ S', (∀ k ∈ m.readT, S'.get k = S.get k) → I S' → qv S' m d) → okR done i ps = true → Xt [(t, d)] X S → evAnyI P q I K n (i :: done) X → evAnyI P q I K (n + 1) done S := by
 intro n
 induction n with
 | zero =>
  intro done S X hnd hlt hlen hdst hop hst hok hX hv
  have hi' : i < q.length := (List.getElem?_eq_some_iff.1 hi).1
  obtain ⟨ok1, ok2⟩ := okR_spec.1 hok
  have hIS : I S := hI X S hX.box hv.1
  simp only [evAnyI]
  have hmem : (i, m) ∈ ready1 done 0 q := by
   have := mem_ready1 (done := done) (l := q) (i := 0) hi (by rw [Nat.zero_add]; exact hok)
   rwa [Nat.zero_add] at this
  refine ⟨hIS, fun h0 => (by rw [h0] at hmem; cases hmem), evAlt_of fun j m' hm => ?_⟩
  obtain ⟨-, ps', h1, h2⟩ := ready1_mem hm
  rw [Nat.sub_zero] at h1
  by_cases hji : j = i
  ·subst hji
   rw [hi] at h1; injection h1 with h1; injection h1 with h1 h3; subst h1; subst h3
   refine evOne_q (hst S (fun _ _ => rfl) hIS) ⟨hI S _ (fun o => by rw [put_box']) hIS, hK X _ ?_ hv.2⟩
   refine ⟨fun k => ?_, fun o => by rw [hX.box, put_box'], fun g => by rw [hX.tag, put_tag']⟩
   rw [hX.get, put_get', ht]
   by_cases hk : k = t
   ·subst hk; simp [lkp]
   ·simp [lkp, hk, Ne.symm hk]
  ·exfalso
   obtain ⟨hj1, -⟩ := okR_spec.1 h2
   have hj' : j < q.length := (List.getElem?_eq_some_iff.1 h1).1
   have := nodup_lt q.length (i :: j :: done) (List.nodup_cons.2 ⟨by simp [ok1, Ne.symm hji], List.nodup_cons.2 ⟨hj1, hnd⟩⟩) (fun k hk => by
    simp only [List.mem_cons] at hk
    rcases hk with rfl | rfl | hk
    ·exact hi'
    ·exact hj'
    ·exact hlt k hk)
   simp only [List.length_cons] at this
   omega
 | succ n ih =>
  intro done S X hnd hlt hlen hdst hop hst hok hX hv
  obtain ⟨ok1, ok2⟩ := okR_spec.1 hok
  have hfr : Frees fr [(t, d)] := fun k d' hk => by
   simp only [lkp] at hk
   split at hk
   ·injection hk with hk; subst hk; exact hdf
   ·cases hk
  have hIS : I S := hI X S hX.box hv.1
  rw [evAnyI]
  have hmem : (i, m) ∈ ready1 done 0 q := by
   have := mem_ready1 (done := done) (l := q) (i := 0) hi (by rw [Nat.zero_add]; exact hok)
   rwa [Nat.zero_add] at this
  refine ⟨hIS, fun h0 => (by rw [h0] at hmem; cases hmem), evAlt_of fun j m' hm => ?_⟩
  obtain ⟨-, ps', h1, h2⟩ := ready1_mem hm
  rw [Nat.sub_zero] at h1
  by_cases hji : j = i
  ·subst hji
   rw [hi] at h1; injection h1 with h1; injection h1 with h1 h3; subst h1; subst h3
   refine evOne_q (hst S (fun _ _ => rfl) hIS) (evAnyI_ex hI hq hK _ (X := X) ?_ hv)
   refine ⟨fun k => ?_, fun o => by rw [hX.box, put_box'], fun g => by rw [hX.tag, put_tag']⟩
   rw [hX.get, put_get', ht]
   by_cases hk : k = t
   ·subst hk; simp [lkp]
   ·simp [lkp, hk, Ne.symm hk]
  ·obtain ⟨hj1, hj2⟩ := okR_spec.1 h2
   have hj' : j < q.length := (List.getElem?_eq_some_iff.1 h1).1
   obtain ⟨c1, c2⟩ := hc j m' ps' h1 hji
   have c3 : t ∉ m'.readT := fun hm => ok1 (hj2 i (c2 hm))
   simp only [evAnyI] at hv
   have hmem2 : (j, m') ∈ ready1 (i :: done) 0 q := by
    have := mem_ready1 (done := i :: done) (l := q) (i := 0) h1 (by
     rw [Nat.zero_add]
     exact okR_spec.2 ⟨by simp [hji, hj1], fun k hk => by simp [hj2 k hk]⟩)
    rwa [Nat.zero_add] at this
   refine evOne_mo (fun S' ⟨hs, X', e1, e2⟩ => ?_) (evOne_ex hX hfr (fun k hk => by
    have : k ≠ t := fun e => c3 (e ▸ hk)
    simp [lkp, this]) (fun k hk => by
    have : k ≠ t := fun e => c1 (e ▸ hk)
    simp [lkp, this]) (hq _ (List.mem_of_getElem? h1)) (evAlt_mem hv.2.2 hmem2))
   have hkeep : ∀ k ∈ m.readT, S'.get k = S.get k := fun k hk => by
    obtain ⟨d0, g1, g2⟩ := hop k hk
    rw [g1]
    exact hs k d0 (hdst j m' ps' h1 hj1 hji k hk) g1 g2
   refine ih (j :: done) S' X' (List.nodup_cons.2 ⟨hj1, hnd⟩) (fun k hk => ?_) (by simp only [List.length_cons]; omega) (fun j' m'' ps'' g1 g2 g3 => hdst j' m'' ps'' g1 (fun hm => g2 (by simp [hm])) g3) (fun k hk => ?_) (fun S'' hS'' hI'' => hst S'' (fun k hk => (hS'' k hk).trans (hkeep k hk)) hI'')
    (okR_spec.2 ⟨by simp [Ne.symm hji, ok1], fun k hk => by simp [ok2 k hk]⟩) e1 (evAnyI_perm n (fun k => ?_) e2)
   ·rcases List.mem_cons.1 hk with rfl | hk
    ·exact hj'
    ·exact hlt k hk
   ·rw [hkeep k hk]; exact hop k hk
   ·simp only [List.contains_cons]
    rw [← Bool.or_assoc, ← Bool.or_assoc, Bool.or_comm (k == j)]
def chk1 (q : List (MO × List Nat)) (done : List Nat) (i : Nat) (t : Nat) (rd : List Nat) : Nat → List (MO × List Nat) → Bool
 | _, [] => true
 | j, (m', ps') :: r => (j == i || ((m'.dst != some t) && (!m'.readT.contains t || ps'.contains i) && (done.contains j || rd.all fun k => m'.dst != some k))) && chk1 q done i t rd (j + 1) r
theorem chk1_at {q : List (MO × List Nat)} {done : List Nat} {i t : Nat} {rd : List Nat} : ∀ {r : List (MO × List Nat)} {b : Nat}, chk1 q done i t rd b r = true → ∀ j m' ps', r[j]? = some (m', ps') → b + j ≠ i → m'.dst ≠ some t ∧ (t ∈ m'.readT → i ∈ ps') ∧ (b + j ∉ done → ∀ k ∈ rd, m'.dst ≠ some k)
 | [], b, h, j, m', ps', hj, _ => by simp at hj
 | (m0, p0) :: r, b, h, j, m', ps', hj, hne => by
  simp only [chk1, Bool.and_eq_true] at h
  cases j with
  | zero =>
   simp only [List.getElem?_cons_zero, Option.some.injEq, Prod.mk.injEq] at hj
   obtain ⟨rfl, rfl⟩ := hj
   have h1 := h.1
   simp only [Nat.add_zero] at hne
   simp only [Bool.or_eq_true, beq_iff_eq, hne, false_or, Bool.and_eq_true, bne_iff_ne, Bool.not_eq_true', List.all_eq_true, List.contains_eq_mem, decide_eq_true_eq, decide_eq_false_iff_not] at h1
   obtain ⟨⟨a1, a2⟩, a3⟩ := h1
   refine ⟨a1, fun hm => a2.resolve_left (fun h => h hm), fun hn k hk => ?_⟩
   rcases a3 with a3 | a3
   ·exact absurd a3 (by simpa using hn)
   ·exact a3 k hk
  | succ j =>
   have := chk1_at h.2 j m' ps' (by simpa using hj) (by omega)
   rw [show b + 1 + j = b + (j + 1) by omega] at this
   exact this
def namesQ (q : List (MO × List Nat)) : List Nat := q.flatMap fun x => (match x.1.dst with | some t => [t, mapB + t, itB + t] | none => []) ++ (match x.1.op with | .call _ _ (.obj _ _ nb _) => nb.map (·.2) | _ => [])
def frQ (q : List (MO × List Nat)) (o : Nat) : Bool := notIn (namesQ q) o
theorem frQ_not {q : List (MO × List Nat)} {o : Nat} (h : o ∈ namesQ q) : frQ q o = false := by
 unfold frQ
 cases hb : notIn (namesQ q) o
 ·rfl
 ·exact absurd h (notIn_iff.1 hb)
theorem frQ_ok (q : List (MO × List Nat)) : ∀ x ∈ q, okN (frQ q) x.1.op x.1.dst := fun x hx => by
 refine ⟨fun t ht => ⟨frQ_not ?_, frQ_not ?_, frQ_not ?_⟩, ?_⟩
 ·refine List.mem_flatMap.2 ⟨x, hx, ?_⟩
  simp [ht]
 ·refine List.mem_flatMap.2 ⟨x, hx, ?_⟩
  simp [ht]
 ·refine List.mem_flatMap.2 ⟨x, hx, ?_⟩
  simp [ht]
 ·split
  ·rename_i f args bs ts nb nt hop
   intro y hy
   refine frQ_not (List.mem_flatMap.2 ⟨x, hx, ?_⟩)
   rw [hop]
   exact List.mem_append.2 (.inr (List.mem_map.2 ⟨y, hy, rfl⟩))
  ·trivial
def porB (q : List (MO × List Nat)) (done : List Nat) (n i : Nat) : Bool := match q[i]? with
 | some (m, ps) => match m.dst with
  | some t => okR done i ps && decide done.Nodup && done.all (fun k => decide (k < q.length)) && decide (n + 1 + done.length = q.length) && chk1 q done i t m.readT 0 q
  | none => false
 | none => false
def porM (q : List (MO × List Nat)) (i : Nat) : MO := (q[i]?.map (·.1)).getD ⟨none, .bad, none⟩
theorem por_by {q : List (MO × List Nat)} {n : Nat} {done : List Nat} (i : Nat) (d : D) (hB : porB q done n i = true) (hK : ∀ X Y, Xt [] X Y → K X → K Y) (hdf : d.freeF (frQ q) = true)
    (hop : ∀ k ∈ (porM q i).readT, ∃ d0, S.get k = some d0 ∧ d0.freeF (frQ q) = true) (hst : ∀ S', (∀ k ∈ (porM q i).readT, S'.get k = S.get k) → qv S' (porM q i) d) (h : evAny P q K n (i :: done) (S.put (porM q i).dst d)) : evAny P q K (n + 1) done S := by
 unfold porB at hB
 split at hB
 ·rename_i m ps hi
  have hM : porM q i = m := by unfold porM; rw [hi]; rfl
  rw [hM] at hop hst h
  split at hB
  ·rename_i t ht
   simp only [Bool.and_eq_true, decide_eq_true_eq, List.all_eq_true] at hB
   obtain ⟨⟨⟨⟨b1, b2⟩, b3⟩, b4⟩, b5⟩ := hB
   have hck := fun j m' ps' (hj : q[j]? = some (m', ps')) (hne : j ≠ i) => chk1_at b5 j m' ps' hj (by rwa [Nat.zero_add])
   refine por (fr := frQ q) hi ht hdf (frQ_ok q) (fun j m' ps' hj hne => ⟨(hck j m' ps' hj hne).1, (hck j m' ps' hj hne).2.1⟩) hK n done S _ b2 b3 b4 (fun j m' ps' hj hn hne k hk => (hck j m' ps' hj hne).2.2 (by rwa [Nat.zero_add]) k hk) hop hst b1 ?_ h
   refine ⟨fun k => ?_, fun o => by rw [put_box'], fun g => by rw [put_tag']⟩
   rw [ht, put_get']
   by_cases hk : k = t
   ·subst hk; simp [lkp]
   ·simp [lkp, hk, Ne.symm hk]
  ·cases hB
 ·cases hB
def MOp.scal : MOp → Bool
 | .mov _ | .movS _ | .pick .. | .bin .. | .binB .. | .binP .. | .eqs .. | .un .. | .conv .. | .faddr .. | .fld .. | .iaddrS .. | .iaddrA .. | .idxA .. | .idxS .. | .slcS .. | .lenS _ | .lenL _ | .minmax .. | .ext .. | .mkfn .. | .nilck _ | .r2s _ => true
 | _ => false
theorem looks_at : ∀ {xs : List Operand}, (∀ x ∈ xs, look S' x = look S x) → looks S' xs = looks S xs
 | [], _ => rfl
 | x :: xs, h => by
  simp only [looks]
  rw [h x (by simp), looks_at (fun y hy => h y (by simp [hy]))]
theorem bound_at {dflt top : Nat} {x : Option Operand} (h : ∀ y, x = some y → look S' y = look S y) : boundD S' dflt top x = boundD S dflt top x := by
 cases x with
 | none => rfl
 | some y => simp only [boundD]; rw [h y rfl]
theorem pop_scal {m : MOp} (hs : m.scal = true) (h : ∀ x ∈ m.reads, look S' x = look S x) : pop S' m = pop S m := by
 cases m <;> first
  | (cases hs; done)
  | skip
 case slcS x lo hi =>
  simp only [MOp.reads] at h
  simp only [pop]
  rw [h x (by simp)]
  split
  ·unfold slcSD
   split
   ·rw [bound_at (x := hi) (fun y hy => h y (by subst hy; simp))]
    split
    ·rw [bound_at (x := lo) (fun y hy => h y (by subst hy; simp))]
    ·rfl
   ·rfl
  ·rfl
 case minmax mx xs => simp only [MOp.reads] at h; simp only [pop]; rw [looks_at h]
 case mkfn f xs ys =>
  simp only [MOp.reads] at h
  simp only [pop]
  rw [looks_at (fun x hx => h x (by simp [hx])), looks_at (fun x hx => h x (by simp [hx]))]
 case pick c x y => simp only [MOp.reads] at h; simp only [pop]; rw [h c (by simp), h x (by simp), h y (by simp)]
 all_goals (simp only [MOp.reads, List.mem_cons, List.not_mem_nil, or_false, forall_eq_or_imp, forall_eq] at h; simp only [pop, h])
def freeT (fr : Nat → Bool) (S : St) (ks : List Nat) : Bool := ks.all fun k => match S.get k with | some d => d.freeF fr | none => false
theorem freeT_at {ks : List Nat} (h : freeT fr S ks = true) : ∀ k ∈ ks, ∃ d0, S.get k = some d0 ∧ d0.freeF fr = true := fun k hk => by
 have := List.all_eq_true.1 h k hk
 split at this
 ·exact ⟨_, by assumption, this⟩
 ·cases this
theorem porM_eq {q : List (MO × List Nat)} {i : Nat} {m : MO} {ps : List Nat} (hm : q[i]? = some (m, ps)) : porM q i = m := by unfold porM; rw [hm]; rfl
theorem want_at {g : Option (Nat × Bool)} (h : ∀ t b, g = some (t, b) → S'.get t = S.get t) : want S' g = want S g := by
 unfold want
 split
 ·rfl
 ·rw [h _ _ rfl]
theorem look_at {m : MO} (h : ∀ k ∈ m.readT, S'.get k = S.get k) : ∀ x ∈ m.op.reads, look S' x = look S x := fun x hx => by
 cases x with
 | tmp t => exact h t (by simp only [MO.readT, List.mem_append, List.mem_filterMap]; exact .inl ⟨_, hx, rfl⟩)
 | _ => rfl
theorem guard_at {m : MO} (h : ∀ k ∈ m.readT, S'.get k = S.get k) : want S' m.guard = want S m.guard := want_at fun t b hg => h t (by simp [MO.readT, hg])
theorem por_s {q : List (MO × List Nat)} {n : Nat} {done : List Nat} (i : Nat) {m : MO} {ps : List Nat} {d : D} (hm : q[i]? = some (m, ps)) (hB : porB q done n i = true) (hK : ∀ X Y, Xt [] X Y → K X → K Y) (hs : m.op.scal = true)
    (hfr : freeT (frQ q) S m.readT = true) (hg : want S m.guard = some true) (hp : pop S m.op = some d) (hdf : d.freeF (frQ q) = true) (h : evAny P q K n (i :: done) (S.put m.dst d)) : evAny P q K (n + 1) done S := by
 refine por_by i d hB hK hdf ?_ ?_ ?_ <;> rw [porM_eq hm]
 ·exact freeT_at hfr
 ·exact fun S' h' => .inl ⟨by rw [guard_at h', hg], by rw [pop_scal hs (look_at h'), hp]⟩
 ·exact h
theorem por_l {q : List (MO × List Nat)} {n : Nat} {done : List Nat} (i : Nat) {t0 : Option Nat} {sz : Option Nat} {x : Operand} {g : Option (Nat × Bool)} {ps : List Nat} {cs : List D} {off : Nat} {d : D} (hm : q[i]? = some (⟨t0, .load sz x, g⟩, ps)) (hB : porB q done n i = true) (hK : ∀ X Y, Xt [] X Y → K X → K Y)
    (hfr : freeT (frQ q) S (MO.readT ⟨t0, .load sz x, g⟩) = true) (hg : want S g = some true) (hx : look S x = some (.rp none cs off)) (hp : cut sz cs off = some d) (hdf : d.freeF (frQ q) = true) (h : evAny P q K n (i :: done) (S.put t0 d)) : evAny P q K (n + 1) done S := by
 refine por_by i d hB hK hdf ?_ ?_ ?_ <;> rw [porM_eq hm]
 ·exact freeT_at hfr
 ·refine fun S' h' => .inl ⟨(guard_at h').trans hg, ?_⟩
  have e : look S' x = some (.rp none cs off) := (look_at h' x (by simp [MOp.reads])).trans hx
  simp only [pop, e, loadD, St.live, Option.all_none, if_true]
  exact hp
 ·exact h
theorem por_f {q : List (MO × List Nat)} {n : Nat} {done : List Nat} (i : Nat) {m : MO} {ps : List Nat} (hm : q[i]? = some (m, ps)) (hB : porB q done n i = true) (hK : ∀ X Y, Xt [] X Y → K X → K Y)
    (hfr : freeT (frQ q) S m.readT = true) (hg : want S m.guard = some false) (h : evAny P q K n (i :: done) (S.put m.dst (.val undef))) : evAny P q K (n + 1) done S := by
 refine por_by i (.val undef) hB hK rfl ?_ ?_ ?_ <;> rw [porM_eq hm]
 ·exact freeT_at hfr
 ·exact fun S' h' => .inr ⟨by rw [guard_at h', hg], rfl⟩
 ·exact h
theorem por_b {q : List (MO × List Nat)} {n : Nat} {done : List Nat} (i : Nat) {o : Nat} {cs : List D} {t0 : Option Nat} {sz : Option Nat} {x : Operand} {ps : List Nat} {off : Nat} {d : D} (hm : q[i]? = some (⟨t0, .load sz x, none⟩, ps)) (hB : porB q done n i = true) (hK : ∀ X Y, Xt [] X Y → K X → K Y)
    (hfr : freeT (frQ q) S (MO.readT ⟨t0, .load sz x, none⟩) = true) (hx : look S x = some (.ptr o off)) (hp : cut sz cs off = some d) (hdf : d.freeF (frQ q) = true)
    (h : evAnyI P q (fun S => S.box o = some cs) K n (i :: done) (S.put t0 d)) : evAnyI P q (fun S => S.box o = some cs) K (n + 1) done S := by
 have hM : porM q i = ⟨t0, .load sz x, none⟩ := by unfold porM; rw [hm]; rfl
 unfold porB at hB
 rw [hm] at hB
 cases t0 with
 | none => cases hB
 | some t =>
  simp only [Bool.and_eq_true, decide_eq_true_eq, List.all_eq_true] at hB
  obtain ⟨⟨⟨⟨b1, b2⟩, b3⟩, b4⟩, b5⟩ := hB
  have hck := fun j m' ps' (hj : q[j]? = some (m', ps')) (hne : j ≠ i) => chk1_at b5 j m' ps' hj (by rwa [Nat.zero_add])
  refine porI (fr := frQ q) (fun X Y hb hX => by rw [← hb]; exact hX) hm rfl hdf (frQ_ok q) (fun j m' ps' hj hne => ⟨(hck j m' ps' hj hne).1, (hck j m' ps' hj hne).2.1⟩) hK n done S _ b2 b3 b4 (fun j m' ps' hj hn hne k hk => (hck j m' ps' hj hne).2.2 (by rwa [Nat.zero_add]) k hk) (freeT_at hfr) ?_ b1 ?_ h
  ·intro S' h' hI
   refine .inl ⟨rfl, ?_⟩
   have e : look S' x = some (.ptr o off) := (look_at (m := ⟨some t, .load sz x, none⟩) h' x (by simp [MOp.reads])).trans hx
   simp only [pop, e, loadD, hI]
   exact hp
  ·refine ⟨fun k => ?_, fun o => by rw [put_box'], fun g => by rw [put_tag']⟩
   rw [put_get']
   by_cases hk : k = t
   ·subst hk; simp [lkp]
   ·simp [lkp, hk, Ne.symm hk]
theorem anyI_1 {I : St → Prop} {q : List (MO × List Nat)} {n : Nat} {done : List Nat} (i : Nat) (m : MO) (hI : I S) (hr : ready1 done 0 q = [(i, m)]) (hg : want S m.guard = some true) (h : vstep P m.op m.dst S (fun S' => evAnyI P q I K n (i :: done) S')) : evAnyI P q I K (n + 1) done S := by
 rw [evAnyI, hr]
 refine ⟨hI, by simp, ?_, trivial⟩
 unfold evOne
 rw [hg]
 exact h
theorem anyI_q {I : St → Prop} {q : List (MO × List Nat)} {n : Nat} {done : List Nat} (i : Nat) (m : MO) (d : D) (hI : I S) (hr : ready1 done 0 q = [(i, m)]) (hg : want S m.guard = some true) (hp : pop S m.op = some d) (h : evAnyI P q I K n (i :: done) (S.put m.dst d)) : evAnyI P q I K (n + 1) done S :=
 anyI_1 i m hI hr hg (vstep_q1 hp h)
theorem dany_at {q : List (MO × List Nat)} {x : MC} {Q : Ex → St → Prop} (hx : x = .dany q) (h : evAny P q (Q .normal) q.length [] S) : ev P x S Q := by rw [hx]; exact h
theorem any_1 {q : List (MO × List Nat)} {n : Nat} {done : List Nat} (i : Nat) (m : MO) (hr : ready1 done 0 q = [(i, m)]) (hg : want S m.guard = some true) (h : vstep P m.op m.dst S (fun S' => evAny P q K n (i :: done) S')) : evAny P q K (n + 1) done S := by
 rw [evAny, hr]
 refine ⟨by simp, ?_, trivial⟩
 unfold evOne
 rw [hg]
 exact h
theorem any_q {q : List (MO × List Nat)} {n : Nat} {done : List Nat} (i : Nat) (m : MO) (d : D) (hr : ready1 done 0 q = [(i, m)]) (hg : want S m.guard = some true) (hp : pop S m.op = some d) (h : evAny P q K n (i :: done) (S.put m.dst d)) : evAny P q K (n + 1) done S :=
 any_1 i m hr hg (vstep_q1 hp h)
theorem any_f {q : List (MO × List Nat)} {n : Nat} {done : List Nat} (i : Nat) (m : MO) (hr : ready1 done 0 q = [(i, m)]) (hg : want S m.guard = some false) (h : evAny P q K n (i :: done) (S.put m.dst (.val undef))) : evAny P q K (n + 1) done S := by
 rw [evAny, hr]
 refine ⟨by simp, ?_, trivial⟩
 unfold evOne
 rw [hg]
 exact h
theorem any_2 {q : List (MO × List Nat)} {n : Nat} {done : List Nat} (i : Nat) (m : MO) (j : Nat) (m' : MO) (hr : ready1 done 0 q = [(i, m), (j, m')]) (hg : want S m.guard = some true) (hg' : want S m'.guard = some true) (h : vstep P m.op m.dst S (fun S' => evAny P q K n (i :: done) S'))
    (h' : vstep P m'.op m'.dst S (fun S' => evAny P q K n (j :: done) S')) : evAny P q K (n + 1) done S := by
 rw [evAny, hr]
 refine ⟨by simp, ?_, ?_, trivial⟩
 ·unfold evOne
  rw [hg]
  exact h
 ·unfold evOne
  rw [hg']
  exact h'
theorem anyI_2 {I : St → Prop} {q : List (MO × List Nat)} {n : Nat} {done : List Nat} (i : Nat) (m : MO) (j : Nat) (m' : MO) (hI : I S) (hr : ready1 done 0 q = [(i, m), (j, m')]) (hg : want S m.guard = some true) (hg' : want S m'.guard = some true) (h : vstep P m.op m.dst S (fun S' => evAnyI P q I K n (i :: done) S'))
    (h' : vstep P m'.op m'.dst S (fun S' => evAnyI P q I K n (j :: done) S')) : evAnyI P q I K (n + 1) done S := by
 rw [evAnyI, hr]
 refine ⟨hI, by simp, ?_, ?_, trivial⟩
 ·unfold evOne
  rw [hg]
  exact h
 ·unfold evOne
  rw [hg']
  exact h'
theorem v_mget_by {ks : List SK} {zero : D} {ok : Bool} {m k : Operand} {dst : Option Nat} {o : Nat} {kd : D} {es : List (List D)} {rest : List D} (r : Option (Nat × D)) (hm : look S m = some (.mh o)) (hk : look S k = some kd) (hb : S.box o = some (.mpc es :: rest)) (ho : Nat.ble (o + 1) 20000000 = true)
    (he : (eqKey ks kd kd).isSome = true) (hf : findE ks kd es 0 = some r) (h : K (S.put dst (mres ok zero r))) : vstep P (.xop (.mget ks zero ok m k)) dst S K := by
 simp only [vstep, xstep, hm, hk, hb, hf]
 exact ⟨Nat.le_of_ble_eq_true ho, he, h⟩
theorem v_obj_by {f : Operand} {args : List Operand} {bs : List (Nat × Nat)} {ts : List (Tag × Tag)} {nb : List (Nat × Nat)} {nt : List (Tag × Tag)} {dst : Option Nat} {k : FuncId} {first caps ds : List D} (hf : look S f = some (.fn k first caps)) (ha : looks S args = some ds) (h : objP P ⟨bs, ts, nb, nt⟩ k (first ++ ds ++ caps) dst S K) : vstep P (.call f args (.obj bs ts nb nt)) dst S K := by
 simp only [vstep, hf, ha]
 exact h
theorem pickL_congr {α β : Type} [DecidableEq α] {x y : List (α × β)} : ∀ (ks : List α), (∀ k, lkp k x = lkp k y) → pickL ks x = pickL ks y
 | [], _ => rfl
 | k :: ks, h => by simp only [pickL, h k, pickL_congr ks h]
theorem trim_ex {Q : Ex → St → Prop} {x : MC} {ts os : List Nat} {gs : List Tag} (X Y : St) (h : Xt [] X Y) (hv : seqK P (.trim ts os gs x) Q .normal X) : seqK P (.trim ts os gs x) Q .normal Y := by
 have e : X.trim ts os gs = Y.trim ts os gs := by
  unfold St.trim
  rw [pickL_congr ts (fun k => by have := h.get k; simpa [St.get, lkp] using this), pickL_congr os (fun o => h.box o), pickL_congr gs (fun t => h.tag t)]
 have hv' : ev P x (X.trim ts os gs) Q := hv
 rw [e] at hv'
 exact hv'
theorem resD_ex {X Y : St} (h : Xt [] X Y) : ∀ (rs : List MOp), resD X rs = resD Y rs
 | [] => rfl
 | m :: r => by simp only [resD, h.pop (m := m) (fun _ _ _ _ => rfl), resD_ex h r]
theorem ret_ex {rs : List MOp} {os : List Nat} {ts : List Tag} {R : D → List (Nat × List D) → List (Tag × Bool) → Prop} (X Y : St) (h : Xt [] X Y) (hv : seqK P .ret (finO rs os ts R) .normal X) : seqK P .ret (finO rs os ts R) .normal Y := by
 have hv' : finO rs os ts R .ret X := hv
 show finO rs os ts R .ret Y
 unfold finO at hv' ⊢
 rw [← resD_ex h, ← pickL_congr os (fun o => h.box o), ← pickL_congr ts (fun t => h.tag t)]
 exact hv'
theorem v_pure_by {f : Operand} {args : List Operand} {dst : Option Nat} {k : FuncId} {ds fs : List D} {d : D} (hf : look S f = some (.fn k [] [])) (ha : looks S args = some ds) (hz : frzL ds = some fs) (ht : tagsL ds = []) (h : PureAt P k fs (· = d)) (hK : K (S.put dst d)) : vstep P (.call f args .pure) dst S K := by
 simp only [vstep, hf, ha, List.append_nil, List.nil_append, hz, ht]
 refine ⟨rfl, h.mono ?_⟩
 rintro r rfl
 rw [share_nil]
 exact hK
theorem v_lend_by {f : Operand} {args : List Operand} {dst : Option Nat} {k : FuncId} {ds fs : List D} {d : D} (hf : look S f = some (.fn k [] [])) (ha : looks S args = some ds) (hz : frzL ds = some fs) (ht : ((tagsL ds).all fun t => (S.tag t).isSome) = true) (hp : d.plain = true) (h : PureAt P k fs (· = d)) (hK : K (S.put dst d)) : vstep P (.call f args .lend) dst S K := by
 simp only [vstep, hf, ha, List.append_nil, List.nil_append, hz]
 refine ⟨ht, h.mono ?_⟩
 rintro r rfl
 exact ⟨hp, hK⟩
theorem fzP_by {o : Option St} {S' : St} {x : MC} {Q : Ex → St → Prop} (h : o = some S') (hK : ev P x S' Q) : fzP P o x Q := by rw [h]; exact hK
end Go.Vm
