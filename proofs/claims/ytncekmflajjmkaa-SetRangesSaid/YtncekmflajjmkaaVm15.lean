/- The value machine, 15: append, a call; any operation. -/
import Derived.Test.YtncekmflajjmkaaVm14
namespace Go.Vm
open Go.RowKit
variable {P : Program} {w0 w w' : World} {W F0 : Reg} {V : Tag → Option Value} {N : Nat} {g g' : Gh} {S : St} {a : Act} {tm : Array Value} {K : St → Prop}

theorem so_append (h : SR w0 W F0 V N g S a w) {o : Oper} {e sz bytes : Nat} {x y : Operand} {Q : Exit → Act → World → Prop} (hc : compOp P o = some (.append e sz bytes x y)) (hd : ∀ t, o.dst = some t → t < N) (hv : vstep P (.append e sz bytes x y) o.dst S K) :
    o.wp P a w (fun a' w' => ∃ g' S', SR w0 W F0 V N g' S' a' w' ∧ K S') Q := by
  obtain ⟨t, i, zv, ho, hu, hi, hz, rfl, rfl, h0, hzs⟩ := comp_append hc
  simp only [vstep] at hv
  split at hv
  · rename_i tg es tag ys hx hy
    obtain ⟨htg, hpn, hl1, hl2, hes, hys, hb1, hb2, hK⟩ := hv
    obtain ⟨d0, e0, s0⟩ := tg
    have hpn := Nat.le_of_ble_eq_true hpn
    simp only [Prod.mk.injEq] at htg
    obtain ⟨rfl, rfl⟩ := htg
    obtain ⟨xx, htx⟩ := Option.isSome_iff_exists.1 hl1
    obtain ⟨ti, q1, q2⟩ := h.core.tag _ xx htx
    have hrx := h.core.look hx
    generalize hvx : a.eval x = vx at hrx
    cases hrx with
    | fz _ _ hr => cases hr
    | slT _ _ ti2 ht2 hn hlen hr =>
      rw [q1] at ht2; injection ht2 with ht2; subst ht2
      obtain ⟨e1, e2⟩ := q2.ty
      simp only at e1 e2
      have hown := q2.own
      rw [e1, e2] at hown
      have hmax : ti.n + ys.length ≤ maxLen := by simp only [maxLen]; omega
      have hsrc := src_cells h.core (h.core.look hy) (fun t' ht' => by
        subst ht'
        simp only [Option.all_some] at hl2
        exact Option.isSome_iff_exists.1 hl2) hys h0
      have fin : ∀ (v' : Value) (w' : World) (news : List Value), (Builtin.append_ #[t, t] o.type #[ti.v, a.eval y]).run P w = .ok v' w' → w'.ownsRow 0 e0 i.size v' (ti.n + ys.length) (ti.xs ++ news) → (w.grownBy w' ti.v.ownBlock ∧ w.drawn ≤ w'.drawn) →
          ((∀ b, v'.ownBlock = some b → w.heap.size ≤ b) ∧ (∀ b, ti.v.ownBlock = some b → w'.heap[b]? = w.heap[b]?) ∨
            ∃ b cur cur', ti.v.ownBlock = some b ∧ v'.ownBlock = some b ∧ w.heap[b]? = some (.cells cur e0 (0, 0)) ∧ w'.heap[b]? = some (.cells cur' e0 (0, 0)) ∧ cur'.size = cur.size) →
          news.length = ys.length * i.size → (∀ u ∈ news, u.oneCell' = true) → (∀ (q : Nat) (z : List D) (j : Nat) (d : D), ys[q]? = some z → z[j]? = some d → ∃ u, news[q * i.size + j]? = some u ∧ RepF g.F w d u) →
          o.wp P a w (fun a' w' => ∃ g' S', SR w0 W F0 V N g' S' a' w' ∧ K S') Q := by
        intro v' w' news hrun hown' ⟨hg, hdr⟩ hcase hnl hno hnr
        let ti' : TI := { v := v', e := e0, sz := i.size, n := ti.n + ys.length, xs := ti.xs ++ news, shape := own_shape hown' }
        have hcase2 : (∀ b, ti'.v.ownBlock = some b → w.heap.size ≤ b) ∧ (∀ b, ti.v.ownBlock = some b → w'.heap[b]? = w.heap[b]?) ∨ ti'.v.ownBlock = ti.v.ownBlock := by
          rcases hcase with h1 | ⟨b, cur, cur', h1, h2, _⟩
          · exact .inl h1
          · exact .inr (h2.trans h1.symm)
        obtain ⟨hcore, hlat⟩ := h.core.grow (ti' := ti') htx q1 ⟨rfl, rfl⟩ hown' (fun u hu => by
          rcases List.mem_append.1 hu with hu | hu
          · exact q2.one u hu
          · exact hno u hu) hg (fun j hj => by
            rw [e2] at hj
            exact List.getElem?_append_left (by rw [hown.1]; exact hj)) (by simp only [ti', e2]; exact Nat.mul_le_mul_right _ (by omega)) hcase2
        have hrunO : (execOp a.eval o).run P w = .ok (.value v') w' := by
          simp only [execOp, ho, resolve, invoke, builtin, Sem.run_bind, Sem.run_pure, Result.andThen_ok, List.map_toArray, List.map_cons, List.map_nil, hvx, hrun]
        unfold Oper.wp
        rw [hrunO, Oper.upon_value]
        have hsr := h.later hcore ⟨fun o' c b k q hb hμ hq => by
            rw [only_box] at hb
            obtain ⟨c0, h1, rfl⟩ := Option.map_eq_some_iff.1 hb
            exact h.wr.box o' c0 b k q h1 hμ (by simpa using hq), fun t' x' ti2 b ht' hti2 hb => by
            have ht2 : S.tag t' = some x' := ht'
            simp only at hti2
            split at hti2
            · rename_i he; subst he
              injection hti2 with hti2; subst hti2
              rcases hcase with ⟨h1, _⟩ | ⟨b', cur, cur', h1, h2, _⟩
              · have := h1 b hb
                have := h.le
                exact .inl (by omega)
              · have : b' = b := by
                  have : v'.ownBlock = some b := hb
                  rw [h2] at this; injection this
                subst this
                exact h.wr.tag _ _ ti b' htx q1 h1
            · exact h.wr.tag t' x' ti2 b ht2 hti2 hb⟩ (Keep.grown (W := fun b _ => ti.v.ownBlock = some b) hg hdr (fun b hb => by
              rcases hcase with ⟨_, h1⟩ | ⟨b', cur, cur', h1, h2, h3, h4, h5⟩
              · exact .inl (h1 b hb).symm
              · rw [h1] at hb; injection hb with hb; subst hb
                exact .inr ⟨cur, cur', e0, h3, h4, h5, fun k hk => absurd h1 hk⟩)) (fun b k hlt hW => by
              rcases h.wr.tag _ _ ti b htx q1 hW with h1 | h1
              · omega
              · exact h1 k) (fun b k hF => .inl hF) (fun b k hF => by
              rcases hF with hF | ⟨_, h1, _⟩
              · exact .inl hF
              · rcases hcase with ⟨h2, _⟩ | ⟨b', cur, cur', h2, h3, _⟩
                · have := h2 b h1
                  have := h.le
                  exact .inr (.inl (by omega))
                · have : b' = b := by
                    have : v'.ownBlock = some b := h1
                    rw [h3] at this; injection this
                  subst this
                  rcases h.wr.tag _ _ ti b' htx q1 h2 with h4 | h4
                  · exact .inr (.inl h4)
                  · exact .inr (.inr (h4 k))) (fun t' ti2 hge hti2 => by
              simp only at hti2
              split at hti2
              · rename_i he; subst he; exact absurd hge (Nat.not_le.2 (Nat.lt_of_le_of_lt hpn (by decide)))
              · exact ⟨ti2, hti2, rfl⟩)
        refine ⟨_, _, hsr.put hd ?_, hK⟩
        refine Rep.slT (d0, e0, i.size) _ ti' (if_pos rfl) (by simp [ti', hn]) (fun q z hz => ?_) (fun q z j d hz hj => ?_)
        · rw [List.getElem?_append] at hz
          split at hz
          · exact hes z (List.mem_of_getElem? hz)
          · exact hys z (List.mem_of_getElem? hz)
        · rw [List.getElem?_append] at hz
          split at hz
          · rename_i hq
            obtain ⟨u, h1, h2⟩ := hr q z j d hz hj
            rw [e2] at h1
            refine ⟨u, ?_, h2.mono (fun _ _ h => .inl h) hlat.cell⟩
            show (ti.xs ++ news)[q * i.size + j]? = some u
            rw [List.getElem?_append_left (List.getElem?_eq_some_iff.1 h1).1]; exact h1
          · rename_i hq
            obtain ⟨u, h1, h2⟩ := hnr _ z j d hz hj
            refine ⟨u, ?_, h2.mono (fun _ _ h => .inl h) hlat.cell⟩
            show (ti.xs ++ news)[q * i.size + j]? = some u
            have hxl : ti.xs.length = es.length * i.size := by rw [hown.1, hn]
            have : q * i.size + j = ti.xs.length + ((q - es.length) * i.size + j) := by
              rw [hxl, ← Nat.add_assoc, ← Nat.add_mul]; congr 2; omega
            rw [this, List.getElem?_append_right (by omega), Nat.add_sub_cancel_left]; exact h1
      rcases hsrc with ⟨hv0, rfl⟩ | ⟨ad, c, news, hv1, hnl, hnc, hno, hnr⟩
      · refine fin ti.v w [] (by rw [hv0]; exact run_append_owned_none (P := P) (w := w) 0 t o.type e0 i i.size hu hi ti.v ti.n ti.xs hown) (by simpa using hown) ⟨⟨rfl, rfl, rfl, Nat.le_refl _, fun _ _ _ => rfl⟩, Nat.le_refl _⟩ ?_ (by simp) (by simp) (fun q z j d hz => by simp at hz)
        cases hob : ti.v.ownBlock with
        | none => exact .inl ⟨fun b hb => by simp at hb, fun b hb => by simp at hb⟩
        | some b =>
          rcases hown.2 with ⟨h1, _⟩ | ⟨gg, cap, cur, h1, _, h2, _⟩
          · rw [h1] at hob; simp [Value.ownBlock] at hob
          · have : gg = b := by rw [h1] at hob; simpa [Value.ownBlock] using hob
            subst this
            exact .inr ⟨gg, cur, cur, rfl, rfl, h2, h2, rfl⟩
      · obtain ⟨v', w', hrun, hown', hg, hcase⟩ := run_append (P := P) (w := w) t o.type e0 i zv i.size i.bytes hu hi hz rfl rfl hzs h0 ti.v ti.n ti.xs hown ad ys.length c news hnl hnc hno hmax (by rw [← hn]; exact hb2)
        exact fin v' w' news (by rw [hv1]; exact hrun) hown' hg hcase hnl hno hnr
  · exact hv.elim

theorem args_rep {vs us : Array Value} {first ds caps : List D} {args : Array Operand} (c1 : Cells g w first vs) (c2 : Cells g w caps us) (l1 : (args.map a.eval).size = ds.length) (r1 : ∀ (i : Nat) (d : D) (v : Value), ds[i]? = some d → (args.map a.eval)[i]? = some v → Rep g w d v) :
    (vs ++ (args.map a.eval) ++ us).size = (first ++ ds ++ caps).length ∧ ∀ (i : Nat) (d : D) (v : Value), (first ++ ds ++ caps)[i]? = some d → (vs ++ (args.map a.eval) ++ us)[i]? = some v → Rep g w d v := by
  refine ⟨by simp only [Array.size_append, l1, c1.1, c2.1, List.length_append], fun i d v hd' hv' => ?_⟩
  rw [List.append_assoc] at hd'
  rw [Array.append_assoc] at hv'
  rw [List.getElem?_append] at hd'
  rw [Array.getElem?_append] at hv'
  rw [c1.1] at hv'
  split at hd'
  · rename_i hlt
    rw [if_pos hlt] at hv'
    exact c1.2 i d v hd' hv'
  · rename_i hlt
    rw [if_neg hlt] at hv'
    rw [List.getElem?_append] at hd'
    rw [Array.getElem?_append] at hv'
    rw [l1] at hv'
    split at hd'
    · rename_i hlt2
      rw [if_pos hlt2] at hv'
      exact r1 _ d v hd' hv'
    · rename_i hlt2
      rw [if_neg hlt2] at hv'
      exact c2.2 _ d v hd' hv'

/-- A call, entered. -/
theorem call_enter (h : SR w0 W F0 V N g S a w) {o : Oper} {f : Operand} {args : List Operand} (hc : compOp P o = some (.call f args .pure)) {k : FuncId} {first caps ds : List D} (hf : look S f = some (.fn k first caps)) (hargs : looks S args = some ds)
    (hfn : ∃ fn, P.funcs[k]? = some fn ∧ (fn.name == "runtime.NumGoroutine") = false ∧ fn.body.isNone = false) :
    ∃ vs : Array Value, (execOp a.eval o).run P w = .ok (.enter k vs) w ∧ vs.size = (first ++ ds ++ caps).length ∧ ∀ (i : Nat) (d : D) (v : Value), (first ++ ds ++ caps)[i]? = some d → vs[i]? = some v → Rep g w d v := by
  obtain ⟨c, ho, hcal, rfl⟩ := comp_call hc
  obtain ⟨fn, hfn, hname, hbody⟩ := hfn
  obtain ⟨vs, us, hfv, c1, c2⟩ := (h.core.look hf).fn_inv
  obtain ⟨l1, r1⟩ := looks_sound h.core hargs
  obtain ⟨h1, h2⟩ := args_rep (g := g) (w := w) (a := a) (args := c.args) c1 c2 (by simpa using l1) (fun i d v hd hv => r1 i d v hd (by simpa using hv))
  refine ⟨vs ++ (c.args.map a.eval) ++ us, ?_, h1, h2⟩
  simp only [execOp, ho, resolve, hcal, hfv, Deferred.ofValue, Sem.run_bind, Sem.run_pure, Result.andThen_ok, invoke, callFunc, run_program, hfn, hname, hbody, Bool.false_eq_true, if_false, Array.append_assoc]

theorem heap_kept {w w' : World} (hk : Keep (fun _ _ => False) w w') (b : Nat) (ob : Obj) (hb : w.heap[b]? = some ob) : w'.heap[b]? = some ob := by
  rcases hk.block b ob hb with h1 | ⟨x1, x2, ee, rfl, h2, h3, h4⟩
  · exact h1
  · have : x2 = x1 := Array.ext_getElem? (fun j => h4 j (fun hf => hf))
    rw [h2, this]

/-- New blocks, frozen. -/
theorem SR.grown (h : SR w0 W F0 V N g S a w) (hk : Keep (fun _ _ => False) w w') :
    SR w0 W F0 V N { g with F := fun b j => g.F b j ∨ (w.heap.size ≤ b ∧ b < w'.heap.size) } S a w' := by
  have hlat : Later g { g with F := fun b j => g.F b j ∨ (w.heap.size ≤ b ∧ b < w'.heap.size) } w w' (fun _ => true) (fun _ => true) := ⟨fun _ _ _ h => h, fun _ _ _ h => h, fun _ _ h => .inl h, fun b j hF => hk.cell (h.core.frz b j hF) (fun hf => hf)⟩
  have hcore := h.core.later hlat (fun _ _ _ => rfl) (fun _ _ _ => rfl) (heap_kept hk) (fun b j hF => by
    rcases hF with hF | hF
    · exact .inl hF
    · exact .inr hF.1) (fun b j hF => by
    rcases hF with hF | hF
    · have := h.core.frz b j hF
      have := hk.size
      omega
    · exact hF.2)
  have hkeep : ∀ d : D, d.keep (fun _ => true) (fun _ => true) = d := fun d => by simp [D.keep, avoids_all]
  have honly : S.only (fun _ => true) (fun _ => true) = S := by
    have h1 : ∀ l : List D, l.map (D.keep (fun _ => true) fun _ => true) = l := fun l => by
      rw [List.map_congr_left (g := id) (fun d _ => hkeep d)]; simp
    have h2 : ∀ l : List (Nat × D), (l.map fun x => (x.1, x.2.keep (fun _ => true) fun _ => true)) = l := fun l => by
      induction l with
      | nil => rfl
      | cons x l ih => rw [List.map_cons, ih, hkeep]
    have h3 : ∀ l : List (Nat × List D), (l.map fun x => (x.1, x.2.map (D.keep (fun _ => true) fun _ => true))) = l := fun l => by
      induction l with
      | nil => rfl
      | cons x l ih => rw [List.map_cons, ih, h1]
    simp only [St.only, h2, h3]
  rw [honly] at hcore
  refine h.later hcore ⟨h.wr.box, h.wr.tag⟩ hk (fun _ _ _ h => h.elim) (fun _ _ h => .inl h) (fun b j hF => by
    rcases hF with hF | hF
    · exact .inl hF
    · have := h.le
      exact .inr (.inl (by omega))) (fun t ti _ h => ⟨ti, h, rfl⟩)

theorem frz_args (h : SR w0 W F0 V N g S a w) {ds fs : List D} (hfs : frzL ds = some fs) (hl1 : ∀ t ∈ tagsL ds, ∃ x, S.tag t = some x) {vs : Array Value} (hsz : vs.size = ds.length) (hr : ∀ (i : Nat) (d : D) (v : Value), ds[i]? = some d → vs[i]? = some v → Rep g w d v) :
    vs.size = fs.length ∧ ∀ (i : Nat) (d : D) (v : Value), fs[i]? = some d → vs[i]? = some v → RepF (shareF g S (tagsL ds)) w d v := by
  obtain ⟨l2, r2⟩ := frzL_sound h.core hl1 _ hfs (fun t ht => ht)
  refine ⟨by rw [hsz, l2], fun i d v hd' hv' => ?_⟩
  have hi : i < ds.length := by rw [← l2]; exact (List.getElem?_eq_some_iff.1 hd').1
  exact r2 i d v hd' _ (List.getElem?_eq_getElem hi) (hr i _ v (List.getElem?_eq_getElem hi) hv')

theorem so_call (h : SR w0 W F0 V N g S a w) {o : Oper} {f : Operand} {args : List Operand} {md : CM} {Q : Exit → Act → World → Prop} (hc : compOp P o = some (.call f args .pure)) (hd : ∀ t, o.dst = some t → t < N) (hv : vstep P (.call f args md) o.dst S K) :
    o.wp P a w (fun a' w' => ∃ g' S', SR w0 W F0 V N g' S' a' w' ∧ K S') Q := by
  simp only [vstep] at hv
  split at hv
  · rename_i k first caps ds hf hargs
    cases md with
    | pure =>
      simp only at hv
      split at hv
      · rename_i fs hfs
        obtain ⟨hlive, hfn, hcalls⟩ := hv
        have hl1 := live_all hlive
        obtain ⟨vs, hrun, hsz, hr⟩ := call_enter h hc hf hargs hfn
        obtain ⟨e1, e2⟩ := frz_args h hfs hl1 hsz hr
        unfold Oper.wp
        rw [hrun, Oper.upon_enter]
        have hs := h.share (tagsL (first ++ ds ++ caps))
        refine (hcalls _ w vs hs.core.frz e1 e2).mono fun e w' ⟨r, v, he, hK, hr, hk⟩ => ?_
        subst he
        exact ⟨_, _, (hs.grown hk).put hd (.fz _ _ hr), hK⟩
      · exact hv.elim
    | fresh e sz =>
      simp only at hv
      split at hv
      · rename_i d fs hdst hfs
        obtain ⟨hlive, hfn, hcalls⟩ := hv
        have hl1 := live_all hlive
        obtain ⟨vs, hrun, hsz, hr⟩ := call_enter h hc hf hargs hfn
        obtain ⟨e1, e2⟩ := frz_args h hfs hl1 hsz hr
        unfold Oper.wp
        rw [hrun, Oper.upon_enter]
        have hs := h.share (tagsL (first ++ ds ++ caps))
        refine (hcalls _ w vs hs.core.frz e1 e2).mono fun en w' ⟨es, v, xs, he, hK, hown, hone, hnew, hk, hlen, hcont⟩ => ?_
        subst he
        have hn := hs.newRowU (w' := w') (d, e, sz) { v := v, e := e, sz := sz, n := es.length, xs := xs, shape := own_shape hown } (fun b j => shareF g S (tagsL (first ++ ds ++ caps)) b j ∨ (w.heap.size ≤ b ∧ b < w'.heap.size ∧ v.ownBlock ≠ some b)) ⟨rfl, rfl⟩
          (hk.mono (fun _ _ _ h => h.elim)) hown hone (fun b hb => .inl (hnew b hb)) (fun _ _ h => .inl h) (fun _ _ h => h) (fun hge => absurd hge (Nat.not_le.2 (Nat.lt_of_lt_of_le (hd d hdst) h.cap)))
        refine ⟨_, _, hn.put hd ?_, hK⟩
        exact Rep.slT (d, e, sz) es { v := v, e := e, sz := sz, n := es.length, xs := xs, shape := own_shape hown } (if_pos rfl) rfl hlen hcont
      · exact hv.elim
    | turn =>
      simp only at hv
      split at hv
      · rename_i t es rest hall
        split at hv
        · rename_i fs hfs
          obtain ⟨htag, hlive, hfn, hcalls⟩ := hv
          have hlive' : ∀ t' ∈ tagsL rest, (∃ x, S.tag t' = some x) ∧ t' ≠ t := fun t' ht' => by
            have := List.all_eq_true.1 hlive t' ht'
            simp only [Bool.and_eq_true, decide_eq_true_eq] at this
            exact ⟨Option.isSome_iff_exists.1 this.1, this.2⟩
          obtain ⟨vs, hrun, hsz, hr⟩ := call_enter h hc hf hargs hfn
          rw [hall] at hsz hr
          obtain ⟨v0, vs', rfl⟩ : ∃ v0 vs', vs = #[v0] ++ vs' := by
            have h0 : 0 < vs.size := by rw [hsz]; simp
            refine ⟨vs[0], (vs.toList.tail).toArray, ?_⟩
            apply Array.ext'
            simp only [Array.toList_append]
            have : vs.toList ≠ [] := by
              intro e
              have e' := congrArg List.length e
              rw [Array.length_toList] at e'
              simp at e'
              rw [e'] at h0
              simp at h0
            obtain ⟨x, l, hx⟩ := List.exists_cons_of_ne_nil this
            have h00 : vs[0] = x := by
              have : vs.toList[0]'(by simpa using h0) = x := by simp [hx]
              simpa using this
            rw [hx, h00]; rfl
          have hr0 : Rep g w (.sl (some t) es) v0 := hr 0 _ v0 rfl (by rw [Array.getElem?_append_left Nat.zero_lt_one]; rfl)
          have hrr : ∀ (i : Nat) (d : D) (v : Value), rest[i]? = some d → vs'[i]? = some v → Rep g w d v := fun i d v hd' hv' => hr (i + 1) d v (by simpa using hd') (by
            rw [Array.getElem?_append_right (Nat.le_add_left 1 i)]; exact hv')
          have hsz' : vs'.size = rest.length := by
            simp only [Array.size_append, List.length_cons] at hsz
            have : (#[v0] : Array Value).size = 1 := rfl
            omega
          obtain ⟨e1, e2⟩ := frz_args h hfs (fun t' ht' => (hlive' t' ht').1) hsz' hrr
          have hs := h.share (tagsL rest)
          have htag' : (S.share (tagsL rest)).tag t = some true := by
            rw [share_tag, htag]
            have : ¬ t ∈ tagsL rest := fun hm => (hlive' t hm).2 rfl
            simp [this]
          obtain ⟨ti, q1, q2⟩ := hs.core.tag t true htag'
          cases hr0 with
          | fz _ _ hr0 => cases hr0
          | slT _ _ ti2 ht2 hn hlen hcont =>
            have q1' : g.τ t = some ti := q1
            rw [q1'] at ht2; injection ht2 with ht2; subst ht2
            obtain ⟨ty1, ty2⟩ := q2.ty
            have hown := q2.own
            rw [ty1, ty2, ← hn] at hown
            unfold Oper.wp
            rw [hrun, Oper.upon_enter]
            have own_b : ∀ b, ti.v.ownBlock = some b → Own { g with F := shareF g S (tagsL rest) } (S.share (tagsL rest)) t b := fun b hb => ⟨htag', ti, q1, hb⟩
            refine (hcalls (shareF g S (tagsL rest)) w ti.v ti.xs vs' hs.core.frz hown q2.one (fun b hb j => (hs.core.own_apart (own_b b hb)).1 j) (fun i l hl => by rw [← ty2]; exact hlen i l hl)
              (fun i l j d hl hd' => by
                obtain ⟨u, hu, hru⟩ := hcont i l j d hl hd'
                exact ⟨u, by rw [← ty2]; exact hu, hru.mono (fun _ _ h => .inl h) (fun _ _ _ => rfl)⟩) e1 e2).mono fun en w' ⟨es', r, u, xs', he, hK, hru, hlen', hown', hone', hk, hl', hcont'⟩ => ?_
            subst he
            let ti' : TI := { v := ti.v, e := t.2.1, sz := t.2.2, n := es'.length, xs := xs', shape := own_shape hown' }
            have hn2 := hs.newRowU (w' := w') t ti' (fun b j => shareF g S (tagsL rest) b j ∨ (w.heap.size ≤ b ∧ b < w'.heap.size)) ⟨rfl, rfl⟩
              (hk.mono (fun b _ _ hb => own_b b hb)) hown' hone' (fun b hb => .inr (own_b b hb)) (fun _ _ h => .inl h) (fun b j hF => by
                rcases hF with hF | hF
                · exact .inl hF
                · refine .inr ⟨hF.1, hF.2, fun hb => ?_⟩
                  have := (q2.own.lt b hb).2
                  omega) (fun _ => ⟨ti, q1, rfl⟩)
            have hrep : Rep { g with τ := fun t' => if t' = t then some ti' else g.τ t', F := fun b j => shareF g S (tagsL rest) b j ∨ (w.heap.size ≤ b ∧ b < w'.heap.size) } w' (.sl (some t) es') ti'.v :=
              Rep.slT t es' ti' (if_pos rfl) rfl hl' hcont'
            have hrem := Core.remake (es := es') (ti' := ti') hn2.core (fun kk es0 hkk => by
              have hr3 := hs.core.env kk _ hkk
              generalize a.tmps.getD kk undef = v3 at hr3 ⊢
              cases hr3 with
              | fz _ _ h0 => cases h0
              | slT _ _ ti3 ht3 _ _ _ =>
                have : g.τ t = some ti3 := ht3
                rw [q1'] at this; injection this with this
                exact this ▸ rfl) hrep
            have hsr : SR w0 W F0 V N { g with τ := fun t' => if t' = t then some ti' else g.τ t', F := fun b j => shareF g S (tagsL rest) b j ∨ (w.heap.size ≤ b ∧ b < w'.heap.size) } ((S.share (tagsL rest)).remake t es') a w' :=
              ⟨hrem, ⟨hn2.wr.box, hn2.wr.tag⟩, hn2.keep, hn2.size, hn2.defers, hn2.fext, hn2.fnew, hn2.cap, hn2.pin⟩
            exact ⟨_, _, hsr.put hd (.fz _ _ hru), hK⟩
        · exact hv.elim
      · exact hv.elim
  · exact hv.elim

theorem run_equal_slice_nil' {t e : TypeId} (hu : P.underlying t = some (.slice e)) (p : Option Addr) (n c : Nat) : (Op.equal t (.slice p n c) (.slice none 0 0)).run P w = .ok p.isNone w := by
  show (Op.equalIn (9999 + 1) t (.slice p n c) (.slice none 0 0)).run P w = _
  generalize 9999 = k
  cases p <;> simp [Op.equalIn, run_underlying hu]

theorem so_isnil (h : SR w0 W F0 V N g S a w) {o : Oper} {neg : Bool} {x : Operand} {Q : Exit → Act → World → Prop} (hc : compOp P o = some (.isnil neg x)) (hd : ∀ t, o.dst = some t → t < N) (hv : vstep P (.isnil neg x) o.dst S K) :
    o.wp P a w (fun a' w' => ∃ g' S', SR w0 W F0 V N g' S' a' w' ∧ K S') Q := by
  obtain ⟨op, t, e, yt, ho, hu, hop⟩ := comp_isnil hc
  simp only [vstep] at hv
  split at hv
  · rename_i tag es hx
    have hr := h.core.look hx
    have hv' : ∃ p n c, a.eval x = .slice p n c ∧ (p.isNone = true → es = []) := by
      generalize a.eval x = v at hr
      cases hr with
      | fz _ _ hr => cases hr with
        | nil => exact ⟨_, _, _, rfl, fun _ => rfl⟩
        | emp a c => exact ⟨_, _, _, rfl, fun h => by cases h⟩
        | sl => exact ⟨_, _, _, rfl, fun h => by cases h⟩
      | slT t' _ ti ht hn hl hr =>
        rcases ti.shape with ⟨h1, h2⟩ | ⟨b, c, h1⟩
        · exact ⟨_, _, _, h1, fun _ => List.eq_nil_of_length_eq_zero (by omega)⟩
        · exact ⟨_, _, _, h1, fun h => by cases h⟩
    obtain ⟨p, n, c, hev, hes⟩ := hv'
    have hrun : (execOp a.eval o).run P w = .ok (.value (.bool (p.isNone != neg))) w := by
      have hnil : a.eval (.const (.slice none 0 0)) = .slice none 0 0 := rfl
      rcases hop with ⟨rfl, rfl⟩ | ⟨rfl, rfl⟩
      · have hg : (eqGuard .eql t x (.const (.slice none 0 0)) (.slice p n c) (.slice none 0 0)).run P w = .ok () w := rfl
        simp only [execOp, ho, hev, hnil, Sem.run_bind, hg, Result.andThen_ok, binOp, run_equal_slice_nil' hu, Sem.run_pure, Bool.bne_false]
      · have hg : (eqGuard .neq t x (.const (.slice none 0 0)) (.slice p n c) (.slice none 0 0)).run P w = .ok () w := rfl
        simp only [execOp, ho, hev, hnil, Sem.run_bind, hg, Result.andThen_ok, binOp, run_equal_slice_nil' hu, Sem.run_pure, Bool.bne_true]
    unfold Oper.wp
    rw [hrun, Oper.upon_value]
    exact ⟨_, _, h.put hd (.fz _ _ (.val _)), hv.2 _ hes⟩
  · exact hv.elim

/-- What an operation is without its hint. -/
def MOp.strip : MOp → MOp
  | .call f args _ => .call f args .pure
  | m => m

/-- ANY OPERATION. -/
theorem vstep_sound (h : SR w0 W F0 V N g S a w) {o : Oper} {m : MOp} {Q : Exit → Act → World → Prop} (hc : compOp P o = some m.strip) (hd : ∀ t, o.dst = some t → t < N) (hst : ∀ sz x v, m = .store sz x v → o.dst = none) (hv : vstep P m o.dst S K) :
    o.wp P a w (fun a' w' => ∃ g' S', SR w0 W F0 V N g' S' a' w' ∧ K S') Q := by
  have pure : compOp P o = some m → (match pop S m with | some d => K (S.put o.dst d) | none => False) → o.wp P a w (fun a' w' => ∃ g' S', SR w0 W F0 V N g' S' a' w' ∧ K S') Q := fun hc hv => by
    split at hv
    · rename_i d hp
      obtain ⟨v, hrun, hr⟩ := pop_sound h.core hc hp
      unfold Oper.wp
      rw [hrun, Oper.upon_value]
      exact ⟨g, _, h.put hd hr, hv⟩
    · exact hv.elim
  cases m
  case nilsl e sz => exact so_nilsl h hc hd hv
  case alloc t z => exact so_alloc h hc hd hv
  case box t sz x => exact so_box h hc hd hv
  case bslice e sz z len ps => exact so_bslice h hc hd hv
  case store sz x v => exact so_store h hc (hst _ _ _ rfl) hv
  case append e sz bytes x y => exact so_append h hc hd hv
  case call f args md => exact so_call h hc hd hv
  case isnil neg x => exact so_isnil h hc hd hv
  all_goals exact pure hc hv

end Go.Vm
