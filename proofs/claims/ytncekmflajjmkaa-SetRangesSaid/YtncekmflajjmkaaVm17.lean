/- The value machine, 17: a statement whose operations Go may carry out in more than one order. -/
import Derived.Test.YtncekmflajjmkaaVm16
namespace Go.Vm
open Go.RowKit
variable {P : Program} {w0 w w' : World} {W F0 : Reg} {V : Tag → Option Value} {N : Nat} {g g' : Gh} {S S' : St} {a : Act} {tm : Array Value} {K : St → Prop}

def MOp.reads : MOp → List Operand
  | .mov x | .movS x | .load _ x | .un _ x | .conv _ x | .faddr _ x | .fld _ _ x | .lenS x | .lenL x | .ext x _ | .nilck x | .b2s x | .box _ _ x | .isnil _ x => [x]
  | .bin _ x y | .binB _ x y | .binP _ x y | .eqs _ _ x y | .iaddrS _ x y | .iaddrA _ _ x y | .idxA _ _ _ x y | .idxS x y | .store _ x y | .append _ _ _ x y => [x, y]
  | .pick c x y => [c, x, y]
  | .build _ ps | .bslice _ _ _ _ ps => ps.map fun p => p.2.2
  | .slcS x lo hi | .slc _ x lo hi => x :: (lo.toList ++ hi.toList)
  | .minmax _ xs => xs
  | .mkfn _ x y => x ++ y
  | .call f xs _ => f :: xs
  | .alloc _ _ | .nilsl _ _ => []

/-- Two states alike, as far as some operands look. -/
structure Alike (S S' : St) (xs : List Operand) : Prop where
  look : ∀ x ∈ xs, look S x = look S' x
  hp : S.hp = S'.hp
  tg : S.tg = S'.tg

theorem Alike.sub {xs ys : List Operand} (h : Alike S S' xs) (hs : ∀ y ∈ ys, y ∈ xs) : Alike S S' ys := ⟨fun y hy => h.look y (hs y hy), h.hp, h.tg⟩
theorem Alike.box {xs : List Operand} (h : Alike S S' xs) (o : Nat) : S.box o = S'.box o := by simp [St.box, h.hp]
theorem Alike.tag {xs : List Operand} (h : Alike S S' xs) (t : Tag) : S.tag t = S'.tag t := by simp [St.tag, h.tg]
theorem Alike.looks : ∀ {xs : List Operand}, Alike S S' xs → Vm.looks S xs = Vm.looks S' xs
  | [], _ => rfl
  | x :: xs, h => by
    simp only [Vm.looks]
    rw [h.look x (by simp), Alike.looks (h.sub (fun y hy => by simp [hy]))]
theorem Alike.fill : ∀ {ps : List (Nat × Nat × Operand)} (_ : Alike S S' (ps.map fun p => p.2.2)) (cs : List D), fillD S cs ps = fillD S' cs ps
  | [], _, _ => rfl
  | (off, sz, x) :: ps, h, cs => by
    simp only [fillD]
    rw [h.look x (by simp)]
    have := Alike.fill (ps := ps) (h.sub (fun y hy => by simp at hy ⊢; exact .inr hy))
    split
    · split
      · split
        · exact this _
        · rfl
      · rfl
    · rfl
theorem Alike.bound {xs : List Operand} (h : Alike S S' xs) {x : Option Operand} (hx : ∀ y, x = some y → y ∈ xs) (dflt top : Nat) : boundD S dflt top x = boundD S' dflt top x := by
  cases x with
  | none => rfl
  | some y => simp only [boundD]; rw [h.look y (hx y rfl)]

theorem Alike.pop {m : MOp} (h : Alike S S' m.reads) : Vm.pop S m = Vm.pop S' m := by
  cases m <;> simp only [Vm.pop] <;> simp only [MOp.reads] at h
  case build z ps => rw [h.fill]
  case slcS x lo hi =>
    rw [h.look x (by simp)]
    split
    · rename_i d hd
      simp only [slcSD]
      split
      · rw [h.bound (x := hi) (fun y hy => by subst hy; simp)]
        split
        · rw [h.bound (x := lo) (fun y hy => by subst hy; simp)]
        · rfl
      · rfl
    · rfl
  case slc sz x lo hi =>
    rw [h.look x (by simp)]
    split
    · rename_i d hd
      simp only [slcD]
      split
      · rw [h.bound (x := hi) (fun y hy => by subst hy; simp)]
        split
        · split
          · rw [h.bound (x := lo) (fun y hy => by subst hy; simp)]
          · rfl
        · rfl
      · rfl
    · rfl
  case minmax mx xs => rw [h.looks]
  case mkfn f x y => rw [(h.sub (ys := x) (fun z hz => by simp [hz])).looks, (h.sub (ys := y) (fun z hz => by simp [hz])).looks]
  case load sz x =>
    rw [h.look x (by simp)]
    split
    · rename_i d hd
      simp only [loadD]
      split
      · rw [h.box]
      · have : ∀ own, S.live own = S'.live own := fun own => by simp only [St.live]; congr 1; funext y; rw [h.tag]
        rw [this]
      · rfl
    · rfl
  all_goals first
    | rfl
    | (rw [h.look _ List.mem_cons_self, h.look _ (List.mem_cons_of_mem _ List.mem_cons_self), h.look _ (List.mem_cons_of_mem _ (List.mem_cons_of_mem _ List.mem_cons_self))]; done)
    | (rw [h.look _ List.mem_cons_self, h.look _ (List.mem_cons_of_mem _ List.mem_cons_self)]; done)
    | (rw [h.look _ List.mem_cons_self]; done)

/-- What a quiet operation yields. -/
def QV (P : Program) (m : MOp) (S : St) (d : D) : Prop :=
  match m with
  | .nilsl _ _ => d = .sl none []
  | .bslice _ sz zero len parts => ∃ cs fs, fillD S (rept zero len) parts = some cs ∧ frzL cs = some fs ∧ tagsL cs = [] ∧ fs.all D.one = true ∧ d = .sl none (chunk sz len fs)
  | .call f args md => (match md with | .pure => True | _ => False) ∧ ∃ k first caps ds fs, look S f = some (.fn k first caps) ∧ looks S args = some ds ∧ frzL (first ++ ds ++ caps) = some fs ∧ tagsL (first ++ ds ++ caps) = [] ∧ PureAt P k fs fun r => r = d
  | m => pop S m = some d

theorem QV.alike {m : MOp} {d : D} (h : QV P m S d) (ha : Alike S S' m.reads) : QV P m S' d := by
  cases m <;> simp only [QV] at h ⊢ <;> first
    | (rw [← ha.pop]; exact h)
    | exact h
    | (obtain ⟨cs, fs, h1, h2⟩ := h; exact ⟨cs, fs, by rw [← Alike.fill (by simpa [MOp.reads] using ha)]; exact h1, h2⟩)
    | (obtain ⟨h0, k, first, caps, ds, fs, h1, h2, h3⟩ := h
       simp only [MOp.reads] at ha
       exact ⟨h0, k, first, caps, ds, fs, by rw [← ha.look _ (by simp)]; exact h1, by rw [← (ha.sub (fun y hy => by simp [hy])).looks]; exact h2, h3⟩)

theorem only_all (S : St) : S.only (fun _ => true) (fun _ => true) = S := by
  have hkeep : ∀ d : D, d.keep (fun _ => true) (fun _ => true) = d := fun d => by simp [D.keep, avoids_all]
  have h1 : ∀ l : List D, l.map (D.keep (fun _ => true) fun _ => true) = l := fun l => by
    rw [List.map_congr_left (g := id) (fun d _ => hkeep d)]; simp
  have h2 : ∀ l : List (Nat × D), (l.map fun x => (x.1, x.2.keep (fun _ => true) fun _ => true)) = l := fun l => by
    induction l with
    | nil => rfl
    | cons x l ih => rw [List.map_cons, ih, hkeep]
  have h3 : ∀ l : List (Nat × List D), (l.map fun x => (x.1, x.2.map (D.keep (fun _ => true) fun _ => true))) = l := fun l => by
    induction l with
    | nil => rfl
    | cons x l ih => rw [List.map_cons, ih, h1]
  simp only [St.only, h2, h3]

theorem share_nil (S : St) : S.share [] = S := by
  have h : ∀ l : List (Tag × Bool), (l.map fun y => (y.1, y.2 && !([] : List Tag).contains y.1)) = l := fun l => by
    induction l with
    | nil => rfl
    | cons x l ih => rw [List.map_cons, ih]; simp
  simp only [St.share, h]

/-- New memory that nobody will write. -/
theorem SR.newF (h : SR w0 W F0 V N g S a w) (vs : Array Value) (e : TypeId) :
    SR w0 W F0 V N { g with F := fun b k => g.F b k ∨ b = w.heap.size } S a (w.alloc (.cells vs e (0, 0))) := by
  have hl : Later g { g with F := fun b k => g.F b k ∨ b = w.heap.size } w (w.alloc (.cells vs e (0, 0))) (fun _ => true) (fun _ => true) :=
    ⟨fun _ _ _ h => h, fun _ _ _ h => h, fun _ _ h => .inl h, fun b k hF => World.cell?_of_block (a := ⟨b, k, none⟩) (heap_alloc_old w _ b (h.core.frz b k hF))⟩
  have hc := h.core.later hl (fun _ _ _ => rfl) (fun _ _ _ => rfl) (fun b ob hb => by rw [heap_alloc_old w _ b (Array.getElem?_eq_some_iff.1 hb).1]; exact hb) (fun b k hF => by
    rcases hF with hF | hF
    · exact .inl hF
    · exact .inr (by omega)) (fun b k hF => by
    rcases hF with hF | hF
    · have := h.core.frz b k hF; simp; omega
    · simp; omega)
  rw [only_all] at hc
  refine h.later hc ⟨h.wr.box, h.wr.tag⟩ (Keep.alloc (fun _ _ => False) w _) (fun _ _ _ h => h.elim) (fun _ _ h => .inl h) (fun b k hF => ?_) (fun t ti _ h => ⟨ti, h, rfl⟩)
  rcases hF with hF | hF
  · exact .inl hF
  · have := h.le
    exact .inr (.inl (by omega))

theorem q_sound (h : SR w0 W F0 V N g S a w) {o : Oper} {m : MOp} {d : D} {Q : Exit → Act → World → Prop} (hc : compOp P o = some m.strip) (hd : ∀ t, o.dst = some t → t < N) (hq : QV P m S d) :
    o.wp P a w (fun a' w' => ∃ g', SR w0 W F0 V N g' (S.put o.dst d) a' w') Q := by
  have pure : compOp P o = some m → pop S m = some d → o.wp P a w (fun a' w' => ∃ g', SR w0 W F0 V N g' (S.put o.dst d) a' w') Q := fun hc hp => by
    obtain ⟨v, hrun, hr⟩ := pop_sound h.core hc hp
    unfold Oper.wp
    rw [hrun, Oper.upon_value]
    exact ⟨g, h.put hd hr⟩
  cases m
  case nilsl e sz =>
    simp only [QV] at hq; subst hq
    have ho := comp_nilsl hc
    unfold Oper.wp
    simp only [execOp, ho, Sem.run_pure, Oper.upon_value]
    exact ⟨g, h.put hd (.fz _ _ .nil)⟩
  case call f args md =>
    simp only [QV] at hq
    obtain ⟨hmd, k, first, caps, ds, fs, h1, h2, h3, h4, h5⟩ := hq
    have : md = .pure := by cases md <;> simp_all
    subst this
    have := so_call (md := .pure) (K := fun S' => S' = S.put o.dst d) (Q := Q) h hc hd (by
      simp only [vstep, h1, h2, h3]
      refine ⟨by rw [h4]; rfl, h5.mono fun r hr => ?_⟩
      rw [h4, share_nil, hr])
    exact Oper.wp_mono (fun a' w' ⟨g', S', e1, e2⟩ => ⟨g', e2 ▸ e1⟩) this
  case bslice e sz z len ps =>
    simp only [QV] at hq
    obtain ⟨cs, fs, hfill, hfs, htags, hone, rfl⟩ := hq
    obtain ⟨t, parts, i, zv, ho, hu, hi, hz, rfl, h0, hzs, hbig, rfl, rfl⟩ := comp_bslice hc
    have hplace : (parts.toList.map fun p => (p.1 * i.size, i.size, p.2)).length = parts.toList.length ∧ ∀ (q : Nat) (p : Nat × Operand) (r : Nat × Nat × Operand), parts.toList[q]? = some p → (parts.toList.map fun p => (p.1 * i.size, i.size, p.2))[q]? = some r →
        (fun j => some (j * i.size, i.size)) p.1 = some (r.1, r.2.1) ∧ p.2 = r.2.2 := by
      refine ⟨by simp, fun q p r hp hr => ?_⟩
      simp only [List.getElem?_map, hp, Option.map_some, Option.some.injEq] at hr
      subst hr
      exact ⟨rfl, rfl⟩
    obtain ⟨us, e1, e2, e3⟩ := fill_sound h.core (place := fun j => some (j * i.size, i.size)) hplace (hzs ▸ rept_cells zv (by omega) len) hfill
    obtain ⟨l1, hF⟩ := frzL_sound (h.core) (ts := []) (fun t ht => by simp at ht) cs hfs (fun t ht => by rw [htags] at ht; exact ht)
    have hlen : fs.length = len * i.size := by rw [l1, ← e2.1, e3]; simp
    have husz : us.size = len * i.size := by rw [e3]; simp
    have hrun : (execOp a.eval o).run P w = .ok (.value (.slice (some ⟨w.heap.size, 0, none⟩) len len)) (w.alloc (.cells us e (0, 0))) := by
      simp only [execOp, ho, Sem.run_bind]
      rw [run_bslice t e len _ us i zv hu hi hz hbig (by rw [map_parts, ← hzs]; rw [← hzs] at e1; exact e1)]
      rfl
    unfold Oper.wp
    rw [hrun, Oper.upon_value]
    have hn := h.newF us e
    refine ⟨_, hn.put hd (.fz _ _ ?_)⟩
    have repf : ∀ (q : Nat) (d' : D), fs[q]? = some d' → ∃ u, us[q]? = some u ∧ RepF g.F w d' u := fun q d' hq => by
      have hq1 : q < fs.length := (List.getElem?_eq_some_iff.1 hq).1
      have hq2 : q < us.size := by omega
      have hq3 : q < cs.length := by rw [← e2.1]; omega
      refine ⟨us[q], Array.getElem?_eq_getElem hq2, (hF q d' _ hq _ (List.getElem?_eq_getElem hq3) (e2.2 q _ _ (List.getElem?_eq_getElem hq3) (Array.getElem?_eq_getElem hq2))).mono (fun b k hFk => ?_) (fun _ _ _ => rfl)⟩
      rcases hFk with h6 | ⟨t', ht', _⟩
      · exact h6
      · simp at ht'
    have hlt : ∀ q j, q < (chunk i.size len fs).length → j < i.size → 0 + q * i.size + j < us.size := fun q j hq hj => by
      rw [chunk_length] at hq
      have : (q + 1) * i.size ≤ len * i.size := Nat.mul_le_mul_right _ hq
      rw [Nat.succ_mul] at this; omega
    have := RepF.sl (F := fun b k => g.F b k ∨ b = w.heap.size) (w := w.alloc (.cells us e (0, 0))) w.heap.size 0 i.size len (chunk i.size len fs) (fun q j => us.getD (0 + q * i.size + j) undef) (by rw [chunk_length]; exact Nat.le_refl _)
      (fun q el hq => by
        have hq1 : q < len := by have := (List.getElem?_eq_some_iff.1 hq).1; rwa [chunk_length] at this
        have : (q + 1) * i.size ≤ len * i.size := Nat.mul_le_mul_right _ hq1
        rw [Nat.succ_mul] at this
        rw [chunk_get _ _ _ _ _ hq]
        simp; omega)
      (fun q j hq hj => .inr rfl)
      (fun q j hq hj => by
        have := hlt q j hq hj
        rw [cell_of_row _ _ _ us e (0, 0) (heap_alloc_new w _), Array.getElem?_eq_getElem this, Array.getD_eq_getD_getElem?, Array.getElem?_eq_getElem this]; rfl)
      (fun q j hq hj => by
        have h7 := hlt q j hq hj
        have h8 : 0 + q * i.size + j < fs.length := by omega
        obtain ⟨u, h9, h10⟩ := repf _ _ (List.getElem?_eq_getElem h8)
        rw [Array.getD_eq_getD_getElem?, h9]
        exact h10.one (List.all_eq_true.1 hone _ (List.getElem_mem h8)))
      (fun q el j d' hq hj => by
        rw [chunk_get _ _ _ _ _ hq, List.getElem?_take] at hj
        split at hj
        · rw [List.getElem?_drop] at hj
          obtain ⟨u, h9, h10⟩ := repf _ _ hj
          rw [Nat.zero_add, Array.getD_eq_getD_getElem?, h9]
          exact h10.mono (fun _ _ h => .inl h) (fun b k hFk => World.cell?_of_block (a := ⟨b, k, none⟩) (heap_alloc_old w _ b (h.core.frz b k hFk)))
        · cases hj)
    rw [chunk_length] at this
    exact this
  all_goals exact pure hc hq

end Go.Vm
