/- The value machine, 10: append. -/
import Derived.Test.YtncekmflajjmkaaVm9
namespace Go.Vm
open Go.RowKit
variable {P : Program} {w0 w w' : World} {W : Reg} {N : Nat} {g g' : Gh} {S : St} {a : Act} {tm : Array Value}

/-- An append to a row of the call's own: as the kit's, with a word more on the row that was. -/
theorem run_append (t ty e : TypeId) (i : TypeInfo) (z : Value) (size bytes : Nat) (ht : P.underlying t = some (.slice e)) (hi : P.info? e = some i) (hz : i.zero = some z)
    (hsize : i.size = size) (hby : i.bytes = bytes) (hzs : z.cells.size = size) (hsz : 0 < size)
    (v : Value) (n : Nat) (xs : List Value) (hown : w.ownsRow 0 e size v n xs)
    (a : Addr) (m c : Nat) (news : List Value) (hl : news.length = m * size) (hnews : ∀ (j : Nat) (u : Value), news[j]? = some u → w.cell? (a.add j) = some u) (h1 : ∀ u ∈ news, u.oneCell' = true)
    (h63 : n + m ≤ maxLen) (hbytes : (n + m) * bytes ≤ 140737488355328) :
    ∃ v' w', (Builtin.append_ #[t, t] ty #[v, .slice (some a) m c]).run P w = .ok v' w' ∧ w'.ownsRow 0 e size v' (n + m) (xs ++ news) ∧ (w.grownBy w' v.ownBlock ∧ w.drawn ≤ w'.drawn) ∧
      ((∀ b, v'.ownBlock = some b → w.heap.size ≤ b) ∧ (∀ b, v.ownBlock = some b → w'.heap[b]? = w.heap[b]?) ∨
       ∃ b cur cur', v.ownBlock = some b ∧ v'.ownBlock = some b ∧ w.heap[b]? = some (.cells cur e (0, 0)) ∧ w'.heap[b]? = some (.cells cur' e (0, 0)) ∧ cur'.size = cur.size) := by
  subst hsize
  subst hby
  have hsmall : n + m ≤ 9223372036854775807 := by simp only [maxLen] at h63; omega
  have hlen : (xs ++ news).length = (n + m) * i.size := by rw [List.length_append, hown.1, hl, Nat.add_mul]
  have grown : ∀ (old : Nat), old < n + m → ∀ (row : Option Nat),
      (w.drew.alloc (.cells (xs.toArray ++ news.toArray ++ Builtin.zeroCells z.cells (grownCap w (n + m) old e - (n + m))) e)).ownsRow 0 e i.size
        (.slice (some ⟨w.heap.size, 0, none⟩) (n + m) (grownCap w (n + m) old e)) (n + m) (xs ++ news) ∧
      w.grownBy (w.drew.alloc (.cells (xs.toArray ++ news.toArray ++ Builtin.zeroCells z.cells (grownCap w (n + m) old e - (n + m))) e)) row := by
    intro old ho row
    have hge := grownCap_ge w (n + m) old e
    have hcm : grownCap w (n + m) old e ≤ maxLen := grownCap_le_maxLen w (n + m) old e h63
    refine ⟨⟨hlen, .inr ⟨w.heap.size, _, _, rfl, Nat.zero_le _, heap_alloc_new w.drew _, hge, hcm, ?_, ?_⟩⟩, ⟨rfl, rfl, rfl, by simp, fun k hk _ => heap_alloc_old w.drew _ k hk⟩⟩
    · simp only [Array.size_append, List.size_toArray, size_zeroCells, hzs, hown.1, hl, ← Nat.add_mul]
      congr 1
      omega
    · simp only [Array.toList_append, List.append_assoc]
      rw [← List.append_assoc, ← hlen]
      exact List.take_left
  rcases hown.2 with ⟨rfl, rfl⟩ | ⟨g, cap, cur, rfl, hbg, hg, hnc, hcm, hcs, htake⟩
  · have hx : xs = [] := List.eq_nil_of_length_eq_zero (by simpa using hown.1)
    subst hx
    by_cases hm : m = 0
    · subst hm
      have hn : news = [] := List.eq_nil_of_length_eq_zero (by simpa using hl)
      subst hn
      refine ⟨.slice none 0 0, w, ?_, World.ownsRow_nil w 0 e i.size, ⟨⟨rfl, rfl, rfl, Nat.le_refl _, fun _ _ _ => rfl⟩, Nat.le_refl _⟩, .inl ⟨fun b hb => by simp [Value.ownBlock] at hb, fun b _ => rfl⟩⟩
      simp [Builtin.append_, run_underlying ht, sizeOf, typeInfo, hi, Builtin.lenOf, Builtin.firstCells, loadCells, loadCellsFrom]
    · have hr := run_append_nil (P := P) w t ty e i z ht hi hz a m c news hl hnews (by omega) (by omega) (by have hb := hbytes; simp only [Nat.zero_add] at hb; omega)
      have hgr := grown 0 (by omega) (Value.ownBlock (.slice none 0 0))
      simp only [Nat.zero_add, List.nil_append, Array.empty_append] at hgr ⊢
      exact ⟨_, _, hr, hgr.1, ⟨hgr.2, Nat.le_succ _⟩, .inl ⟨fun b hb => by simp only [Value.ownBlock, Option.some.injEq] at hb; omega, fun b hb => by simp [Value.ownBlock] at hb⟩⟩
  · by_cases hroom : n + m ≤ cap
    · have hfit : n * i.size + news.length ≤ cur.size := by rw [hl, hcs, ← Nat.add_mul]; exact Nat.mul_le_mul_right _ hroom
      have hr := run_append_room (P := P) w t ty e i ht hi g n cap cur hg a m c news hl hnews h1 hroom hfit
      have hns : (cur.toList.take (n * i.size) ++ news ++ cur.toList.drop (n * i.size + news.length)).toArray.size = cur.size := by
        simp only [List.size_toArray, List.length_append, List.length_take, List.length_drop, Array.length_toList]
        omega
      refine ⟨_, _, hr, ⟨hlen, .inr ⟨g, cap, _, rfl, hbg, setRow_heap w g cur _ e _ hg, hroom, hcm, ?_, ?_⟩⟩, ⟨⟨rfl, rfl, rfl, by simp, fun k _ hk => setRow_other w g k _ (fun e => hk (by simp [Value.ownBlock, e]))⟩, Nat.le_refl _⟩,
        .inr ⟨g, cur, _, rfl, rfl, hg, setRow_heap w g cur _ e _ hg, hns⟩⟩
      · rw [hns, hcs]
      · rw [htake, ← hlen]
        exact List.take_left
    · have holds : ∀ j u, xs[j]? = some u → w.cell? ((⟨g, 0, none⟩ : Addr).add j) = some u := hown.cells (g := g) rfl
      have hr := run_append_grow (P := P) w t ty e i z ht hi hz ⟨g, 0, none⟩ n cap xs hown.1 holds a m c news hl hnews (by omega) (by omega) (growslice_fits (by omega) hbytes)
      have hgr := grown cap (by omega) (Value.ownBlock (.slice (some ⟨g, 0, none⟩) n cap))
      have hlt : g < w.heap.size := (Array.getElem?_eq_some_iff.1 hg).1
      exact ⟨_, _, hr, hgr.1, ⟨hgr.2, Nat.le_succ _⟩, .inl ⟨fun b hb => by simp only [Value.ownBlock, Option.some.injEq] at hb; omega, fun b hb => by
        simp only [Value.ownBlock, Option.some.injEq] at hb; subst hb
        exact heap_alloc_old w.drew _ g hlt⟩⟩

/-- The cells of a row that is read. -/
theorem src_cells (h : Core g S tm w) {tag : Option Tag} {ys : List (List D)} {v : Value} {sz : Nat} (hp : Rep g w (.sl tag ys) v) (hlive : ∀ t, tag = some t → ∃ x, S.tag t = some x) (hsz : ∀ y ∈ ys, y.length = sz) (h0 : 0 < sz) :
    (v = .slice none 0 0 ∧ ys = []) ∨ ∃ (ad : Addr) (c : Nat) (news : List Value), v = .slice (some ad) ys.length c ∧ news.length = ys.length * sz ∧ (∀ (j : Nat) (u : Value), news[j]? = some u → w.cell? (ad.add j) = some u) ∧ (∀ u ∈ news, u.oneCell' = true) ∧
      ∀ (i : Nat) (y : List D) (j : Nat) (d : D), ys[i]? = some y → y[j]? = some d → ∃ u, news[i * sz + j]? = some u ∧ RepF g.F w d u := by
  cases hp with
  | fz _ _ hp => cases hp with
    | nil => exact .inl ⟨rfl, rfl⟩
    | emp ad c => exact .inr ⟨ad, c, [], rfl, by simp, fun j u h => by simp at h, fun u h => by simp at h, fun i y j d h => by simp at h⟩
    | sl b off sz' c _ us hc hlen hF hw h1 hr =>
      right
      have hs : ys ≠ [] → sz' = sz := fun hne => by
        cases ys with
        | nil => exact absurd rfl hne
        | cons y ys => rw [← hlen 0 y rfl]; exact hsz y (by simp)
      have hcell : ∀ q, q < ys.length * sz → ∃ u, w.cell? ⟨b, off + q, none⟩ = some u ∧ u.oneCell' = true := fun q hq => by
        have hne : ys ≠ [] := by rintro rfl; simp at hq
        have e := hs hne
        subst e
        have hdiv : q / sz' < ys.length := by rw [Nat.div_lt_iff_lt_mul h0]; exact hq
        have hmod : q % sz' < sz' := Nat.mod_lt _ h0
        have hq' : q / sz' * sz' + q % sz' = q := by rw [Nat.mul_comm]; exact Nat.div_add_mod q sz'
        refine ⟨us (q / sz') (q % sz'), ?_, h1 _ _ hdiv hmod⟩
        have := hw _ _ hdiv hmod
        rwa [Nat.add_assoc, hq'] at this
      refine ⟨⟨b, off, none⟩, c, (List.range (ys.length * sz)).map fun q => (w.cell? ⟨b, off + q, none⟩).getD undef, rfl, by simp, fun j u hu => ?_, fun u hu => ?_, fun i y j d hy hd => ?_⟩
      · rw [List.getElem?_map] at hu
        obtain ⟨q, hq, rfl⟩ := Option.map_eq_some_iff.1 hu
        have hlt : j < ys.length * sz := by have := (List.getElem?_eq_some_iff.1 hq).1; simpa using this
        rw [List.getElem?_range hlt] at hq
        injection hq with hq; subst hq
        obtain ⟨u, hu', _⟩ := hcell j hlt
        rw [addr_add, hu']; rfl
      · obtain ⟨q, hq, rfl⟩ := List.mem_map.1 hu
        obtain ⟨u, hu', ho⟩ := hcell q (List.mem_range.1 hq)
        rw [hu']; exact ho
      · have hi : i < ys.length := (List.getElem?_eq_some_iff.1 hy).1
        have e := hs (by rintro rfl; simp at hi)
        have hj : j < sz := by rw [← hsz y (List.mem_of_getElem? hy)]; exact (List.getElem?_eq_some_iff.1 hd).1
        have hlt : i * sz + j < ys.length * sz := by
          have : (i + 1) * sz ≤ ys.length * sz := Nat.mul_le_mul_right _ hi
          rw [Nat.succ_mul] at this; omega
        refine ⟨us i j, ?_, hr i y j d hy hd⟩
        rw [List.getElem?_map, List.getElem?_range hlt]
        have := hw i j hi (by omega)
        rw [e, Nat.add_assoc] at this
        simp [this]
  | slT t _ ti ht hn hlen hr =>
    obtain ⟨x, hx⟩ := hlive t rfl
    obtain ⟨ti', ht', ho⟩ := h.tag t x hx
    rw [ht] at ht'; injection ht' with ht'; subst ht'
    rcases ti.shape with ⟨hv, hz⟩ | ⟨b, c, hv⟩
    · left
      exact ⟨hv, List.eq_nil_of_length_eq_zero (by omega)⟩
    · right
      have hb : ti.v.ownBlock = some b := by rw [hv]; rfl
      have hs : ys ≠ [] → ti.sz = sz := fun hne => by
        cases ys with
        | nil => exact absurd rfl hne
        | cons y ys => rw [← hlen 0 y rfl]; exact hsz y (by simp)
      have hl : ti.xs.length = ys.length * sz := by
        rw [ho.own.1, hn]
        by_cases hne : ys = []
        · subst hne; simp at hn; simp [← hn]
        · rw [hs hne]
      refine ⟨⟨b, 0, none⟩, c, ti.xs, by rw [hv, hn], hl, ho.own.cells hb, ho.one, fun i y j d hy hd => ?_⟩
      obtain ⟨u, h2, h3⟩ := hr i y j d hy hd
      rw [hs (by rintro rfl; simp at hy)] at h2
      exact ⟨u, h2, h3⟩

theorem own_shape {e : TypeId} {sz n : Nat} {v : Value} {xs : List Value} (h : w.ownsRow 0 e sz v n xs) : (v = .slice none 0 0 ∧ n = 0) ∨ ∃ b c, v = .slice (some ⟨b, 0, none⟩) n c := by
  rcases h.2 with h | ⟨g, cap, cur, hv, _⟩
  · exact .inl h
  · exact .inr ⟨g, cap, hv⟩

/-- A row that a tag names has grown. -/
theorem Core.grow (h : Core g S tm w) {t : Tag} {x : Bool} {ti ti' : TI} (ht : S.tag t = some x) (hti : g.τ t = some ti) (hty : ti'.e = t.2.1 ∧ ti'.sz = t.2.2) (hown : w'.ownsRow 0 ti'.e ti'.sz ti'.v ti'.n ti'.xs) (hone : ∀ u ∈ ti'.xs, u.oneCell' = true)
    (hg : w.grownBy w' ti.v.ownBlock) (hpre : ∀ j, j < ti.n * ti.sz → ti'.xs[j]? = ti.xs[j]?) (hle : ti.n * ti.sz ≤ ti'.n * ti'.sz)
    (hcase : (∀ b, ti'.v.ownBlock = some b → w.heap.size ≤ b) ∧ (∀ b, ti.v.ownBlock = some b → w'.heap[b]? = w.heap[b]?) ∨ ti'.v.ownBlock = ti.v.ownBlock) :
    let g' : Gh := { g with τ := fun t' => if t' = t then some ti' else g.τ t', F := fun b k => g.F b k ∨ (x = false ∧ ti'.v.ownBlock = some b ∧ k < ti'.n * ti'.sz) }
    Core g' (S.only (fun _ => true) (fun y => decide (y ≠ t))) tm w' ∧ Later g g' w w' (fun _ => true) (fun y => decide (y ≠ t)) := by
  intro g'
  obtain ⟨ti0, q1, q2⟩ := h.tag t x ht
  rw [hti] at q1; injection q1 with q1; subst q1
  have hcell : ∀ b k, g.F b k → w'.cell? ⟨b, k, none⟩ = w.cell? ⟨b, k, none⟩ := fun b k hF => by
    by_cases hb : ti.v.ownBlock = some b
    · rcases hcase with ⟨_, h2⟩ | h2
      · exact World.cell?_of_block (a := ⟨b, k, none⟩) (h2 b hb)
      · obtain ⟨_, hk⟩ := q2.out b k hb hF
        have hlt : k < ti.xs.length := by rw [q2.own.1]; exact hk
        have e1 := q2.own.cells hb k _ (List.getElem?_eq_getElem hlt)
        have e2 := hown.cells (h2.trans hb) k _ ((hpre k hk).trans (List.getElem?_eq_getElem hlt))
        rw [addr_add, Nat.zero_add] at e1 e2
        rw [e1, e2]
    · exact World.cell?_of_block (a := ⟨b, k, none⟩) (hg.block b (h.frz b k hF) (fun e => hb e.symm))
  have hl : Later g g' w w' (fun _ => true) (fun y => decide (y ≠ t)) := ⟨fun _ _ _ h => h, fun t' ht' ti2 hti2 => by
    have : t' ≠ t := by simpa using ht'
    show (if t' = t then some ti' else g.τ t') = some ti2
    rw [if_neg this]; exact hti2, fun _ _ h => .inl h, hcell⟩
  have own' : ∀ b, ti'.v.ownBlock = some b → ti.v.ownBlock = some b ∨ w.heap.size ≤ b := fun b hb => by
    rcases hcase with ⟨h1, _⟩ | h1
    · exact .inr (h1 b hb)
    · exact .inl (h1 ▸ hb)
  have unb : ∀ o c, (S.only (fun _ => true) (fun y => decide (y ≠ t))).box o = some c → ∃ c0, S.box o = some c0 ∧ c = c0.map (D.keep (fun _ => true) (fun y => decide (y ≠ t))) := fun o c hb => by
    rw [only_box] at hb
    obtain ⟨c0, h1, h2⟩ := Option.map_eq_some_iff.1 hb
    exact ⟨c0, h1, h2.symm⟩
  refine ⟨⟨fun t' d hd => ?_, fun o c hb => ?_, fun o c b k i hb hμ hi hF => ?_, fun o1 o2 c1 c2 b k k' hb1 hb2 hμ1 hμ2 => ?_, fun t' x' ht' => ?_, fun t' x' ti2 o c b k ht' hti2 hb hμ => ?_, fun t1 x1 ti1 t2 x2 ti2 b h1 h2 h3 h4 h5 h6 => ?_, fun b k hF => ?_⟩, hl⟩
  · rw [only_get] at hd
    obtain ⟨d0, h1, h2⟩ := Option.map_eq_some_iff.1 hd
    subst h2
    exact (h.env t' d0 h1).keep hl
  · obtain ⟨c0, hc0, rfl⟩ := unb o c hb
    obtain ⟨b, k, vs, e, h1, h2, h3, h4⟩ := h.box o c0 hc0
    refine ⟨b, k, vs, e, h1, ?_, by simpa using h3, fun i d u hd hu => ?_⟩
    · rw [hg.block b (h.box_lt hc0 h1) (fun e => h.tagB t x ti o c0 b k ht hti hc0 h1 e.symm)]; exact h2
    · rw [List.getElem?_map] at hd
      obtain ⟨d0, h5, h6⟩ := Option.map_eq_some_iff.1 hd
      subst h6
      exact (h4 i d0 u h5 hu).keep hl
  · obtain ⟨c0, hc0, rfl⟩ := unb o c hb
    rcases hF with hF | ⟨_, hb', _⟩
    · exact h.boxF o c0 b k i hc0 hμ (by simpa using hi) hF
    · rcases own' b hb' with h1 | h1
      · exact h.tagB t x ti o c0 b k ht hti hc0 hμ h1
      · have := h.box_lt hc0 hμ; omega
  · obtain ⟨d1, hd1, rfl⟩ := unb o1 c1 hb1
    obtain ⟨d2, hd2, rfl⟩ := unb o2 c2 hb2
    simpa using h.boxI o1 o2 d1 d2 b k k' hd1 hd2 hμ1 hμ2
  · by_cases hne : t' = t
    · subst hne
      rw [only_tag, ht] at ht'
      injection ht' with ht'; subst ht'
      refine ⟨ti', by simp [g'], hty, hown, hone, fun b k hb hF => ?_, fun b k hb hx hk => .inr ⟨hx, hb, hk⟩⟩
      rcases hF with hF | ⟨h1, _, h3⟩
      · rcases own' b hb with h1 | h1
        · obtain ⟨h2, h3⟩ := q2.out b k h1 hF
          exact ⟨h2, by omega⟩
        · have := h.frz b k hF; omega
      · exact ⟨h1, h3⟩
    · obtain ⟨ti2, r1, r2⟩ := h.tag t' x' ht'
      have hdis : ∀ b, ti2.v.ownBlock = some b → ti.v.ownBlock ≠ some b := fun b h1 h2 => hne (h.tagI t' x' ti2 t x ti b ht' r1 ht hti h1 h2)
      refine ⟨ti2, by simp [g', hne, r1], r2.ty, ?_, r2.one, fun b k hb hF => ?_, fun b k hb hx hk => .inl (r2.inn b k hb hx hk)⟩
      · refine r2.own.kept hg ?_
        cases hob : ti2.v.ownBlock with
        | none => exact .inl rfl
        | some b => exact .inr (fun e => hdis b hob e.symm)
      · rcases hF with hF | ⟨_, h1, _⟩
        · exact r2.out b k hb hF
        · rcases own' b h1 with h1 | h1
          · exact absurd h1 (hdis b hb)
          · have := (r2.own.lt b hb).2; omega
  · obtain ⟨c0, hc0, rfl⟩ := unb o c hb
    by_cases hne : t' = t
    · subst hne
      simp only [g', if_pos, Option.some.injEq] at hti2
      subst hti2
      intro hb'
      rcases own' b hb' with h1 | h1
      · exact h.tagB t' x ti o c0 b k ht hti hc0 hμ h1
      · have := h.box_lt hc0 hμ; omega
    · simp only [g', if_neg hne] at hti2
      exact h.tagB t' x' ti2 o c0 b k ht' hti2 hc0 hμ
  · by_cases hn1 : t1 = t
    · by_cases hn2 : t2 = t
      · rw [hn1, hn2]
      · exfalso
        subst hn1
        simp only [g', if_pos, Option.some.injEq] at h2
        subst h2
        simp only [g', if_neg hn2] at h4
        rcases own' b h5 with h7 | h7
        · exact hn2 (h.tagI t2 x2 ti2 t1 x ti b h3 h4 ht hti h6 h7)
        · have := h.own_lt h3 h4 h6; omega
    · by_cases hn2 : t2 = t
      · exfalso
        subst hn2
        simp only [g', if_pos, Option.some.injEq] at h4
        subst h4
        simp only [g', if_neg hn1] at h2
        rcases own' b h6 with h7 | h7
        · exact hn1 (h.tagI t1 x1 ti1 t2 x ti b h1 h2 ht hti h5 h7)
        · have := h.own_lt h1 h2 h5; omega
      · simp only [g', if_neg hn1] at h2
        simp only [g', if_neg hn2] at h4
        exact h.tagI t1 x1 ti1 t2 x2 ti2 b h1 h2 h3 h4 h5 h6
  · have := hg.size
    rcases hF with hF | ⟨_, h1, _⟩
    · have := h.frz b k hF; omega
    · exact (hown.lt b h1).2

end Go.Vm
