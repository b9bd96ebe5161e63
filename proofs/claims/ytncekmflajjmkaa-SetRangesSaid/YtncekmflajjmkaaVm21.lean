/- The value machine, 21: functions. -/
import Derived.Test.YtncekmflajjmkaaVm20
namespace Go.Vm
open Go.RowKit
variable {P : Program} {w0 w w' : World} {W F0 : Reg} {V : Tag → Option Value} {N : Nat} {g g' : Gh} {S S' : St} {a : Act} {ops : Array Oper} {K K' : Ex → St → Prop}

/-! ### loops -/
theorem evOps_mono {J J' : St → Prop} (hJ : ∀ S, J S → J' S) : ∀ (ms : List MO) (S : St), evOps P ms S J → evOps P ms S J'
  | [], S, h => hJ S h
  | o :: ms, S, h => by
    have step : ∀ (m : MOp) (dst : Option Nat) (L L' : St → Prop), (∀ S, L S → L' S) → ∀ S, vstep P m dst S L → vstep P m dst S L' := by
      intro m dst L L' hL S h
      have pure : (match pop S m with | some d => L (S.put dst d) | none => False) → (match pop S m with | some d => L' (S.put dst d) | none => False) := fun h => by
        split at h
        · exact hL _ h
        · exact h.elim
      cases m
      case nilsl e sz =>
        simp only [vstep] at h ⊢
        split at h
        · exact hL _ h
        · exact h.elim
      case alloc t z =>
        simp only [vstep] at h ⊢
        split at h
        · exact hL _ h
        · exact h.elim
      case box t sz x =>
        simp only [vstep] at h ⊢
        split at h
        · split at h
          · exact ⟨h.1, hL _ h.2⟩
          · exact h.elim
        · exact h.elim
      case bslice e sz z len ps =>
        simp only [vstep] at h ⊢
        split at h
        · split at h
          · exact ⟨h.1, h.2.1, hL _ h.2.2⟩
          · exact h.elim
        · exact h.elim
      case store sz x v =>
        simp only [vstep] at h ⊢
        split at h
        · split at h
          · exact ⟨h.1, h.2.1, hL _ h.2.2⟩
          · exact h.elim
        · split at h
          · split at h
            · exact ⟨h.1, h.2.1, h.2.2.1, h.2.2.2.1, hL _ h.2.2.2.2⟩
            · exact h.elim
          · exact h.elim
        · exact h.elim
      case append e sz bytes x y =>
        simp only [vstep] at h ⊢
        split at h
        · obtain ⟨h1, h2, h3, h4, h5, h6, h7, h8, h9⟩ := h
          exact ⟨h1, h2, h3, h4, h5, h6, h7, h8, hL _ h9⟩
        · exact h.elim
      case call f args md =>
        simp only [vstep] at h ⊢
        split at h
        · cases md with
          | pure =>
            simp only at h ⊢
            split at h
            · exact ⟨h.1, h.2.mono fun r hr => hL _ hr⟩
            · exact h.elim
          | fresh e sz =>
            simp only at h ⊢
            split at h
            · exact ⟨h.1, h.2.mono fun r hr => hL _ hr⟩
            · exact h.elim
          | turn =>
            simp only at h ⊢
            split at h
            · split at h
              · exact ⟨h.1, h.2.1, h.2.2.mono fun es r hr => hL _ hr⟩
              · exact h.elim
            · exact h.elim
        · exact h.elim
      case isnil neg x =>
        simp only [vstep] at h ⊢
        split at h
        · exact ⟨h.1, fun b hb => hL _ (h.2 b hb)⟩
        · exact h.elim
      all_goals exact pure h
    simp only [evOps] at h ⊢
    split at h
    · exact step _ _ _ _ (fun S' hS' => evOps_mono hJ ms S' hS') S h
    · exact evOps_mono hJ ms _ h
    · exact h.elim

theorem evDraw_mono {J J' : St → Prop} (hJ : ∀ S, J S → J' S) : ∀ (q : Nat) (ms : List MO) (S : St), evDraw P q ms S J → evDraw P q ms S J'
  | 0, ms, S, h => by simp only [evDraw] at h ⊢; exact evOps_mono hJ ms S h
  | q + 1, [], S, h => hJ S h
  | q + 1, m :: ms, S, h => by
    simp only [evDraw] at h ⊢
    split at h
    · obtain ⟨d, h1, h2⟩ := h
      exact ⟨d, h1, evDraw_mono hJ q ms _ h2⟩
    · exact evDraw_mono hJ q ms _ h
    · exact h.elim

theorem ev_mono : ∀ (m : MC) (S : St) (K K' : Ex → St → Prop), (∀ e S, K e S → K' e S) → ev P m S K → ev P m S K' := by
  intro m
  induction m with
  | skip => intro S K K' hK h; exact hK _ _ h
  | reg ms => intro S K K' hK h; exact evOps_mono (fun S => hK _ S) ms S h
  | dreg q ms => intro S K K' hK h; exact evDraw_mono (fun S => hK _ S) q ms S h
  | seq x y ihx ihy =>
    intro S K K' hK h
    refine ihx S _ _ (fun e S' h' => ?_) h
    cases e with
    | normal => exact ihy S' _ _ hK h'
    | exit id => exact hK _ _ h'
    | ret => exact hK _ _ h'
  | cond c x y ihx ihy =>
    intro S K K' hK h
    simp only [ev] at h ⊢
    split at h
    · exact ⟨fun ht => ihx S _ _ hK (h.1 ht), fun ht => ihy S _ _ hK (h.2 ht)⟩
    · exact h.elim
  | block id x ih =>
    intro S K K' hK h
    refine ih S _ _ (fun e S' h' => ?_) h
    cases e with
    | normal => exact hK _ _ h'
    | exit id' =>
      simp only at h' ⊢
      split at h'
      · rename_i he; rw [if_pos he]; exact hK _ _ h'
      · rename_i he; rw [if_neg he]; exact hK _ _ h'
    | ret => exact hK _ _ h'
  | loop x ih =>
    intro S K K' hK h
    obtain ⟨n, hn⟩ := h
    refine ⟨n, ?_⟩
    induction n generalizing S with
    | zero => exact hn.elim
    | succ n ihn =>
      simp only [iter] at hn ⊢
      refine ih S _ _ (fun e S' h' => ?_) hn
      cases e with
      | normal => exact ihn S' h'
      | exit id => exact hK _ _ h'
      | ret => exact hK _ _ h'
  | exit id => intro S K K' hK h; exact hK _ _ h
  | ret => intro S K K' hK h; exact hK _ _ h
  | trim ts os gs x ih => intro S K K' hK h; exact ih _ _ _ hK h
  | fz ts x ih =>
    intro S K K' hK h
    simp only [ev] at h ⊢
    split at h
    · exact ih _ _ _ hK h
    · exact h.elim
  | fzb o x ih =>
    intro S K K' hK h
    simp only [ev] at h ⊢
    split at h
    · exact ih _ _ _ hK h
    · exact h.elim

/-- A loop: what holds at its head, and what grows less. -/
theorem ev_loop {x : MC} (I : St → Nat → Prop) (h : ∀ n S, I S n → ev P x S fun e S' => match e with | .normal => ∃ k, k < n ∧ I S' k | .exit id => K (.exit id) S' | .ret => K .ret S') :
    ∀ (n : Nat) (S : St), I S n → ev P (.loop x) S K := by
  have key : ∀ n, ∀ k, k ≤ n → ∀ S, I S k → iter (ev P x) K (n + 1) S := by
    intro n
    induction n with
    | zero =>
      intro k hk S hI
      simp only [iter]
      refine ev_mono x S _ _ (fun e S' h' => ?_) (h k S hI)
      cases e with
      | normal => obtain ⟨j, hj, -⟩ := h'; omega
      | exit id => exact h'
      | ret => exact h'
    | succ n ih =>
      intro k hk S hI
      rw [iter]
      refine ev_mono x S _ _ (fun e S' h' => ?_) (h k S hI)
      cases e with
      | normal => obtain ⟨j, hj, h'⟩ := h'; exact ih j (by omega) S' h'
      | exit id => exact h'
      | ret => exact h'
  exact fun n S hI => ⟨n + 1, key n n (Nat.le_refl n) S hI⟩

/-! ### functions -/
def resOp (P : Program) : ResultVar → Option MOp
  | .tmp t => some (.mov (.tmp t))
  | .cell x t => match aggT P t with
    | some sz => some (.load sz (.tmp x))
    | none => none
def resOps (P : Program) : List ResultVar → Option (List MOp)
  | [] => some []
  | r :: rs => match resOp P r, resOps P rs with
    | some m, some ms => some (m :: ms)
    | _, _ => none
def resD (S : St) : List MOp → Option (List D)
  | [] => some []
  | m :: ms => match pop S m, resD S ms with
    | some d, some ds => some (d :: ds)
    | _, _ => none

def oneD : List D → D
  | [d] => d
  | ds => .tup ds

theorem resOps_sound (h : Core g S a.tmps w) : ∀ {l : List ResultVar} {ms : List MOp} {ds : List D}, resOps P l = some ms → resD S ms = some ds →
    ∃ vs : List Value, (l.mapM fun | .tmp t => pure (a.tmps.getD t undef) | .cell x t => do loadVar t (← asAddr (a.tmps.getD x undef)) : Sem (List Value)).run P w = .ok vs w ∧ vs.length = ds.length ∧
      ∀ (i : Nat) (d : D) (v : Value), ds[i]? = some d → vs[i]? = some v → Rep g w d v
  | [], ms, ds, hm, hd => by
    simp only [resOps, Option.some.injEq] at hm; subst hm
    simp only [resD, Option.some.injEq] at hd; subst hd
    exact ⟨[], by simp, rfl, fun i d v h => by simp at h⟩
  | r :: l, ms, ds, hm, hd => by
    simp only [resOps] at hm
    split at hm
    · rename_i m ms' h1 h2
      injection hm with hm; subst hm
      simp only [resD] at hd
      split at hd
      · rename_i d ds' h3 h4
        injection hd with hd; subst hd
        obtain ⟨vs, e1, e2, e3⟩ := resOps_sound h h2 h4
        have hone : ∃ v, ((match r with | .tmp t => pure (a.tmps.getD t undef) | .cell x t => do loadVar t (← asAddr (a.tmps.getD x undef)) : Sem Value)).run P w = .ok v w ∧ Rep g w d v := by
          cases r with
          | tmp t =>
            simp only [resOp, Option.some.injEq] at h1; subst h1
            exact ⟨_, rfl, h.look (x := .tmp t) h3⟩
          | cell x t =>
            simp only [resOp] at h1
            split at h1
            · rename_i sz hsz
              injection h1 with h1; subst h1
              simp only [pop] at h3
              split at h3
              · rename_i p hp
                have hr := h.look (x := .tmp x) hp
                obtain ⟨u, hu1, hu2⟩ := load_sound (P := P) h hsz hr h3
                refine ⟨u, ?_, hu2⟩
                have hev : a.eval (.tmp x) = a.tmps.getD x undef := rfl
                rw [hev] at hr hu1
                have hptr : ∃ ad, a.tmps.getD x undef = .pointer (some ad) := by
                  cases p <;> simp only [loadD] at h3 <;> try (cases h3; done)
                  · obtain ⟨b, k, e, -⟩ := hr.ptr_inv
                    exact ⟨_, e⟩
                  · split at h3
                    · rename_i hlv
                      obtain ⟨b, o, e, -⟩ := hr.rp_inv h (live_some hlv)
                      exact ⟨_, e⟩
                    · cases h3
                obtain ⟨ad, had⟩ := hptr
                rw [had] at hu1
                show (do let q ← asAddr (a.tmps.getD x undef); loadVar t q : Sem Value).run P w = .ok u w
                rw [had]
                simp only [Instr.loadAt, Instr.sureAddr, Sem.run_bind, Sem.run_pure, Result.andThen_ok] at hu1
                simp only [asAddr, Sem.run_bind, Sem.run_pure, Result.andThen_ok]
                exact hu1
              · cases h3
            · cases h1
        obtain ⟨v, e4, e5⟩ := hone
        refine ⟨v :: vs, ?_, by simp [e2], fun i d' v' hd' hv' => ?_⟩
        · rw [List.mapM_cons]
          simp only [Sem.run_bind, e4, e1, Result.andThen_ok, Sem.run_pure]
        · cases i with
          | zero => simp at hd' hv'; subst hd'; subst hv'; exact e5
          | succ i => exact e3 i d' v' (by simpa using hd') (by simpa using hv')
      · cases hd
    · cases hm

theorem results_sound (h : Core g S a.tmps w) {fn : Func} {ms : List MOp} {ds : List D} (hm : resOps P fn.results.toList = some ms) (hd : resD S ms = some ds) :
    ∃ v, (results fn a.tmps).run P w = .ok v w ∧ Rep g w (oneD ds) v := by
  obtain ⟨vs, e1, e2, e3⟩ := resOps_sound h hm hd
  refine ⟨if hz : vs.toArray.size = 1 then vs.toArray[0] else .tuple vs.toArray, ?_, ?_⟩
  · unfold results
    rw [Array.mapM_eq_mapM_toList]
    simp only [Sem.run_bind, map_eq_pure_bind]
    erw [e1]
    simp only [Result.andThen_ok, Sem.run_pure]
  · by_cases hz : vs.length = 1
    · obtain ⟨v, rfl⟩ := List.length_eq_one_iff.1 hz
      have : ds.length = 1 := by rw [← e2]; rfl
      obtain ⟨d, rfl⟩ := List.length_eq_one_iff.1 this
      simp only [oneD]
      exact e3 0 d v rfl rfl
    · rw [dif_neg (by simpa using hz)]
      have : oneD ds = .tup ds := by
        match ds, e2 with
        | [], _ => rfl
        | [d], e2 => exact absurd e2 hz
        | _ :: _ :: _, _ => rfl
      rw [this]
      exact .tup ds _ (by simpa using e2) (fun i d v hd hv => e3 i d v hd (by simpa using hv))

def num {α : Type} : Nat → List α → List (Nat × α)
  | _, [] => []
  | n, x :: xs => (n, x) :: num (n + 1) xs

theorem num_lkp {α : Type} : ∀ {xs : List α} {n t : Nat} {d : α}, lkp t (num n xs) = some d → n ≤ t ∧ xs[t - n]? = some d
  | [], n, t, d, h => by simp [num, lkp] at h
  | x :: xs, n, t, d, h => by
    simp only [num, lkp] at h
    split at h
    · rename_i he; subst he; injection h with h; subst h
      exact ⟨Nat.le_refl _, by simp⟩
    · rename_i hne
      obtain ⟨h1, h2⟩ := num_lkp h
      refine ⟨by omega, ?_⟩
      rw [show t - n = (t - (n + 1)) + 1 by omega]; simpa using h2

/-- A function's first state. -/
def S0 (ds : List D) : St := ⟨num 0 ds, [], []⟩

/-- What a function must end in. -/
def fin (rs : List MOp) (R : D → Prop) (e : Ex) (S : St) : Prop :=
  match e with
  | .exit _ => False
  | _ => match resD S rs with
    | some ds => match (oneD ds).frz with
      | some r => (oneD ds).tags.all (fun t => (S.tag t).isSome) = true ∧ R r
      | none => False
    | none => False

theorem start_SR {F : Reg} {ds : List D} {vs : Array Value} (hF : ∀ b j, F b j → b < w.heap.size) (hs : vs.size = ds.length) (hl : ds.length ≤ N) (hcap : N ≤ 999999) (hrep : ∀ (i : Nat) (d : D) (v : Value), ds[i]? = some d → vs[i]? = some v → RepF F w d v) :
    SR w (fun _ _ => False) F (fun _ => none) N ⟨fun _ => none, fun _ => none, F⟩ (S0 ds) { tmps := vs ++ Array.replicate (N - vs.size) undef, defers := [] } w := by
  refine ⟨⟨fun t d hd => ?_, fun o cs h => by simp [S0, St.box, lkp] at h, fun o cs b k i h => by simp [S0, St.box, lkp] at h, fun o o' cs cs' b k k' h => by simp [S0, St.box, lkp] at h, fun t x h => by simp [S0, St.tag, lkp] at h,
    fun t x ti o cs b k h => by simp [S0, St.tag, lkp] at h, fun t x ti t' x' ti' b h => by simp [S0, St.tag, lkp] at h, hF⟩,
    ⟨fun o cs b k i h => by simp [S0, St.box, lkp] at h, fun t x ti b h => by simp [S0, St.tag, lkp] at h⟩, Keep.refl _ _, ?_, rfl, fun _ _ h => h, fun _ _ h => .inl h, hcap, fun t ti _ h => by cases h⟩
  · obtain ⟨-, h2⟩ := num_lkp hd
    simp only [Nat.sub_zero] at h2
    have ht : t < vs.size := by rw [hs]; exact (List.getElem?_eq_some_iff.1 h2).1
    refine .fz _ _ (hrep t d _ h2 ?_)
    rw [Array.getD_eq_getD_getElem?, Array.getElem?_append_left ht, Array.getElem?_eq_getElem ht]; rfl
  · simp; omega

/-- What a function must end in whose outcome is a row of the caller's own. -/
def finF (rs : List MOp) (e sz : Nat) (R : List (List D) → Prop) (x : Ex) (S : St) : Prop :=
  match x with
  | .exit _ => False
  | _ => match resD S rs with
    | some [.sl (some t) es] => t.2 = (e, sz) ∧ S.tag t = some true ∧ R es
    | _ => False

theorem fresh_of_ev {k : FuncId} {fn : Func} {c : Code} {m : MC} {rs : List MOp} {ds : List D} {e sz : Nat} {R : List (List D) → Prop} (hm : P.follows .mixedOrders = true) (hf : P.funcs[k]? = some fn) (hn : (fn.name == "runtime.NumGoroutine") = false) (hb : fn.body = some c)
    (hc : comp P fn.ntmps c = some m.strip) (hr : resOps P fn.results.toList = some rs) (hl : Nat.ble ds.length fn.ntmps = true) (hcap : Nat.ble fn.ntmps 999999 = true) (hv : ev P m (S0 ds) (finF rs e sz R)) : FreshAt P k ds e sz R := by
  refine ⟨⟨fn, hf, hn, by rw [hb]; rfl⟩, fun F w vs hF hs hrep => ?_⟩
  refine calls_of_wp hf hb ?_
  have hS := start_SR (N := fn.ntmps) hF hs (Nat.le_of_ble_eq_true hl) (Nat.le_of_ble_eq_true hcap) hrep
  refine ev_sound hm m c _ _ _ _ _ _ hc hS hv (fun x g' S' a' w' hS' hK => ?_)
  have done : finF rs e sz R .normal S' → a'.defers = [] ∧ ∃ v, (results fn a'.tmps).run P w' = .ok v w' ∧ ∃ es u xs, Ending.returned v = .returned u ∧ R es ∧ w'.ownsRow 0 e sz u es.length xs ∧ (∀ u ∈ xs, u.oneCell' = true) ∧ (∀ b, u.ownBlock = some b → w.heap.size ≤ b) ∧ Keep (fun _ _ => False) w w' ∧
      (∀ (i : Nat) (l : List D), es[i]? = some l → l.length = sz) ∧
      ∀ (i : Nat) (l : List D) (j : Nat) (d : D), es[i]? = some l → l[j]? = some d → ∃ z, xs[i * sz + j]? = some z ∧ RepF (fun b j => F b j ∨ (w.heap.size ≤ b ∧ b < w'.heap.size ∧ u.ownBlock ≠ some b)) w' d z := by
    intro hK
    refine ⟨hS'.defers, ?_⟩
    simp only [finF] at hK
    split at hK
    · rename_i t es hes
      obtain ⟨h1, h2, h3⟩ := hK
      obtain ⟨v, e1, e2⟩ := results_sound hS'.core hr hes
      simp only [oneD] at e2
      obtain ⟨ti, q1, q2⟩ := hS'.core.tag t true h2
      cases e2 with
      | fz _ _ h0 => cases h0
      | slT _ _ ti2 ht2 hn hlen hcont =>
        rw [q1] at ht2; injection ht2 with ht2; subst ht2
        obtain ⟨ty1, ty2⟩ := q2.ty
        rw [h1] at ty1 ty2
        simp only at ty1 ty2
        have hown := q2.own
        rw [ty1, ty2, ← hn] at hown
        have hnew : ∀ b, ti.v.ownBlock = some b → w.heap.size ≤ b := fun b hb => by
          rcases hS'.wr.tag t true ti b h2 q1 hb with h4 | h4
          · exact h4
          · exact (h4 0).elim
        refine ⟨ti.v, e1, es, ti.v, ti.xs, rfl, h3, hown, q2.one, hnew, hS'.keep, fun i l hl => by rw [← ty2]; exact hlen i l hl, fun i l j d hl hd => ?_⟩
        obtain ⟨z, hz, hrz⟩ := hcont i l j d hl hd
        refine ⟨z, by rw [← ty2]; exact hz, hrz.mono (fun b j hbj => ?_) (fun _ _ _ => rfl)⟩
        rcases hS'.fnew b j hbj with h4 | h4 | h4
        · exact .inl h4
        · refine .inr ⟨h4, hS'.core.frz b j hbj, fun hb => ?_⟩
          have := (q2.out b j hb hbj).1
          cases this
        · exact h4.elim
    · exact hK.elim
  cases x with
  | normal => exact done hK
  | exit id => exact hK.elim
  | ret => exact done hK

theorem pure_of_ev {k : FuncId} {fn : Func} {c : Code} {m : MC} {rs : List MOp} {ds : List D} {R : D → Prop} (hm : P.follows .mixedOrders = true) (hf : P.funcs[k]? = some fn) (hn : (fn.name == "runtime.NumGoroutine") = false) (hb : fn.body = some c)
    (hc : comp P fn.ntmps c = some m.strip) (hr : resOps P fn.results.toList = some rs) (hl : Nat.ble ds.length fn.ntmps = true) (hcap : Nat.ble fn.ntmps 999999 = true) (hv : ev P m (S0 ds) (fin rs R)) : PureAt P k ds R := by
  refine ⟨⟨fn, hf, hn, by rw [hb]; rfl⟩, fun F w vs hF hs hrep => ?_⟩
  refine calls_of_wp hf hb ?_
  have hS := start_SR (N := fn.ntmps) hF hs (Nat.le_of_ble_eq_true hl) (Nat.le_of_ble_eq_true hcap) hrep
  refine ev_sound hm m c _ _ _ _ _ _ hc hS hv (fun e g' S' a' w' hS' hK => ?_)
  have done : fin rs R .normal S' → a'.defers = [] ∧ ∃ v, (results fn a'.tmps).run P w' = .ok v w' ∧ ∃ r u, Ending.returned v = .returned u ∧ R r ∧ RepF (fun b j => F b j ∨ (w.heap.size ≤ b ∧ b < w'.heap.size)) w' r u ∧ Keep (fun _ _ => False) w w' := by
    intro hK
    refine ⟨hS'.defers, ?_⟩
    simp only [fin] at hK
    split at hK
    · rename_i es hes
      split at hK
      · rename_i r hfr
        obtain ⟨v, h1, h2⟩ := results_sound hS'.core hr hes
        have h3 := frz_sound hS'.core (live_all hK.1) _ h2 (fun t ht => ht) hfr
        refine ⟨v, h1, r, v, rfl, hK.2, h3.mono (fun b j hbj => ?_) (fun _ _ _ => rfl), hS'.keep⟩
        have hsh := hS'.share (oneD es).tags
        rcases hsh.fnew b j hbj with h4 | h4 | h4
        · exact .inl h4
        · exact .inr ⟨h4, hsh.core.frz b j hbj⟩
        · exact h4.elim
      · exact hK.elim
    · exact hK.elim
  cases e with
  | normal => exact done hK
  | exit id => exact hK.elim
  | ret => exact done hK

/-- The first state of a function that makes its first argument's row over, in place. -/
def S1 (e sz : Nat) (es : List (List D)) (ds : List D) : St := ⟨(0, .sl (some (999999, e, sz)) es) :: num 1 ds, [], [((999999, e, sz), true)]⟩

/-- What such a function must end in. -/
def finT (rs : List MOp) (e sz n : Nat) (R : List (List D) → D → Prop) (x : Ex) (S : St) : Prop :=
  match x with
  | .exit _ => False
  | _ => match S.get 0, resD S rs with
    | some (.sl (some t) es'), some ds => match (oneD ds).frz with
      | some r => t = (999999, e, sz) ∧ es'.length = n ∧ S.tag t = some true ∧ (oneD ds).tags = [] ∧ R es' r
      | none => False
    | _, _ => False

theorem mut_of_ev {k : FuncId} {fn : Func} {c : Code} {m : MC} {rs : List MOp} {es : List (List D)} {ds : List D} {e sz : Nat} {R : List (List D) → D → Prop} (hm : P.follows .mixedOrders = true) (hf : P.funcs[k]? = some fn) (hn : (fn.name == "runtime.NumGoroutine") = false) (hb : fn.body = some c)
    (hc : comp P fn.ntmps c = some m.strip) (hr : resOps P fn.results.toList = some rs) (hl : Nat.ble (ds.length + 1) fn.ntmps = true) (hcap : Nat.ble fn.ntmps 999999 = true) (hv : ev P m (S1 e sz es ds) (finT rs e sz es.length R)) : MutAt P k e sz es ds R := by
  refine ⟨⟨fn, hf, hn, by rw [hb]; rfl⟩, fun F w v xs vs hF hown hone hnF hlen hcont hs hrep => ?_⟩
  refine calls_of_wp hf hb ?_
  have hl := Nat.le_of_ble_eq_true hl
  have hcap := Nat.le_of_ble_eq_true hcap
  let T : Tag := (999999, e, sz)
  have hshape : (v = .slice none 0 0 ∧ es.length = 0) ∨ ∃ b c, v = .slice (some ⟨b, 0, none⟩) es.length c := by
    rcases hown.2 with h | ⟨b, c, cur, h, -⟩
    · exact .inl h
    · exact .inr ⟨b, c, h⟩
  let ti : TI := { v := v, e := e, sz := sz, n := es.length, xs := xs, shape := hshape }
  let g : Gh := ⟨fun _ => none, fun t => if t = T then some ti else none, F⟩
  have hg : ∀ t x, g.τ t = some x → t = T ∧ x = ti := fun t x h => by
    simp only [g] at h
    split at h
    · rename_i he; injection h with h; exact ⟨he, h.symm⟩
    · cases h
  have hS : SR w (fun b _ => v.ownBlock = some b) F (fun _ => some v) fn.ntmps g (S1 e sz es ds) { tmps := (#[v] ++ vs) ++ Array.replicate (fn.ntmps - (#[v] ++ vs).size) undef, defers := [] } w := by
    refine ⟨⟨fun t d hd => ?_, fun o cs h => by simp [S1, St.box, lkp] at h, fun o cs b k i h => by simp [S1, St.box, lkp] at h, fun o o' cs cs' b k k' h => by simp [S1, St.box, lkp] at h, fun t x h => ?_,
      fun t x ti o cs b k h1 h2 h3 => by simp [S1, St.box, lkp] at h3, fun t x ti t' x' ti' b h1 h2 h3 h4 h5 h6 => by rw [(hg _ _ h2).1, (hg _ _ h4).1], hF⟩,
      ⟨fun o cs b k i h => by simp [S1, St.box, lkp] at h, fun t x ti' b h1 h2 h3 => .inr (fun i => by rw [(hg _ _ h2).2] at h3; exact h3)⟩, Keep.refl _ _, ?_, rfl, fun _ _ h => h, fun _ _ h => .inl h, hcap, fun t ti' _ h => by rw [(hg _ _ h).2]⟩
    · simp only [S1, St.get, lkp] at hd
      split at hd
      · rename_i he; subst he; injection hd with hd; subst hd
        have : ((#[v] ++ vs) ++ Array.replicate (fn.ntmps - (#[v] ++ vs).size) undef).getD 0 undef = ti.v := by
          rw [Array.getD_eq_getD_getElem?, Array.getElem?_append_left (by simp; omega), Array.getElem?_append_left (by simp)]; rfl
        rw [this]
        exact .slT T es ti (by simp [g]) rfl hlen hcont
      · obtain ⟨h1, h2⟩ := num_lkp hd
        refine .fz _ _ (hrep (t - 1) d _ h2 ?_)
        have ht : t - 1 < vs.size := by rw [hs]; exact (List.getElem?_eq_some_iff.1 h2).1
        rw [Array.getD_eq_getD_getElem?, Array.getElem?_append_left (by simp; omega), Array.getElem?_append_right (by simp; omega)]
        simp only [List.size_toArray, List.length_cons, List.length_nil, Nat.zero_add]
        rw [Array.getElem?_eq_getElem ht]; rfl
    · simp only [S1, St.tag, lkp] at h
      split at h
      · rename_i he; subst he; injection h with h; subst h
        exact ⟨ti, by simp [g, T], ⟨rfl, rfl⟩, hown, hone, fun b k h1 h2 => (hnF b h1 k h2).elim, fun b k _ h => by cases h⟩
      · cases h
    · simp; omega
  refine ev_sound hm m c _ _ _ _ _ _ hc hS hv (fun x g' S' a' w' hS' hK => ?_)
  have done : finT rs e sz es.length R .normal S' → a'.defers = [] ∧ ∃ u, (results fn a'.tmps).run P w' = .ok u w' ∧ ∃ es' r z xs', Ending.returned u = .returned z ∧ R es' r ∧ RepF (fun b j => F b j ∨ (w.heap.size ≤ b ∧ b < w'.heap.size)) w' r z ∧ es'.length = es.length ∧ w'.ownsRow 0 e sz v es'.length xs' ∧
      (∀ u ∈ xs', u.oneCell' = true) ∧ Keep (fun b _ => v.ownBlock = some b) w w' ∧ (∀ (i : Nat) (l : List D), es'[i]? = some l → l.length = sz) ∧
      ∀ (i : Nat) (l : List D) (j : Nat) (d : D), es'[i]? = some l → l[j]? = some d → ∃ u, xs'[i * sz + j]? = some u ∧ RepF (fun b j => F b j ∨ (w.heap.size ≤ b ∧ b < w'.heap.size)) w' d u := by
    intro hK
    refine ⟨hS'.defers, ?_⟩
    simp only [finT] at hK
    split at hK
    · rename_i t es' rds hget hres
      split at hK
      · rename_i r hfr
        obtain ⟨rfl, h2, h3, h4, h5⟩ := hK
        obtain ⟨u, e1, e2⟩ := results_sound hS'.core hr hres
        obtain ⟨ti', q1, q2⟩ := hS'.core.tag _ true h3
        have hpin : ti'.v = v := by have := hS'.pin _ ti' (Nat.le_refl _) q1; injection this with this; exact this.symm
        have hnW : ∀ b k, v.ownBlock = some b → ¬ g'.F b k := fun b k h6 h7 => by
          have := (q2.out b k (by rw [hpin]; exact h6) h7).1
          cases this
        have hFn : ∀ b j, g'.F b j → F b j ∨ (w.heap.size ≤ b ∧ b < w'.heap.size) := fun b j hbj => by
          rcases hS'.fnew b j hbj with h6 | h6 | h6
          · exact .inl h6
          · exact .inr ⟨h6, hS'.core.frz b j hbj⟩
          · exact (hnW b j h6 hbj).elim
        have hrz := frz_sound hS'.core (live_all (by rw [h4]; rfl)) _ e2 (fun t ht => ht) hfr
        have hrep0 := hS'.core.env 0 _ hget
        have hpos : v = a'.tmps.getD 0 undef ∧ es'.length = ti'.n ∧ (∀ (i : Nat) (l : List D), es'[i]? = some l → l.length = ti'.sz) ∧
            (∀ (i : Nat) (e : List D) (j : Nat) (d : D), es'[i]? = some e → e[j]? = some d → ∃ u, ti'.xs[i * ti'.sz + j]? = some u ∧ RepF g'.F w' d u) := by
          generalize a'.tmps.getD 0 undef = v0 at hrep0
          cases hrep0 with
          | fz _ _ h0 => cases h0
          | slT _ _ ti2 ht2 hn hlen hcont =>
            rw [q1] at ht2; injection ht2 with ht2; subst ht2
            exact ⟨hpin.symm, hn, hlen, hcont⟩
        obtain ⟨-, hn', hlen', hcont'⟩ := hpos
        obtain ⟨ty1, ty2⟩ := q2.ty
        simp only at ty1 ty2
        have hown' := q2.own
        rw [ty1, ty2, ← hn', hpin] at hown'
        refine ⟨u, e1, es', r, u, ti'.xs, rfl, h5, hrz.mono (fun b j hbj => ?_) (fun _ _ _ => rfl), h2, hown', q2.one, hS'.keep, fun i l hl => by rw [← ty2]; exact hlen' i l hl, fun i l j d hl hd => ?_⟩
        · rw [h4] at hbj
          refine hFn b j ?_
          rcases hbj with hbj | ⟨t, ht, -⟩
          · exact hbj
          · cases ht
        · obtain ⟨z, hz, hrz⟩ := hcont' i l j d hl hd
          exact ⟨z, by rw [← ty2]; exact hz, hrz.mono hFn (fun _ _ _ => rfl)⟩
      · exact hK.elim
    · exact hK.elim
  cases x with
  | normal => exact done hK
  | exit id => exact hK.elim
  | ret => exact done hK

/-- A function, its code as the machine has it, where its outcome lies, how many slots. -/
structure Runs (P : Program) (k : FuncId) (m : MC) (rs : List MOp) (N : Nat) : Prop where
  mixed : P.follows .mixedOrders = true
  small : Nat.ble N 999999 = true
  fn : ∃ (fn : Func) (c : Code), P.funcs[k]? = some fn ∧ (fn.name == "runtime.NumGoroutine") = false ∧ fn.body = some c ∧ fn.ntmps = N ∧ comp P N c = some m ∧ resOps P fn.results.toList = some rs

theorem pure_of {k : FuncId} {m : MC} {rs : List MOp} {N : Nat} {ds : List D} {R : D → Prop} (h : Runs P k m.strip rs N) (hl : Nat.ble ds.length N = true) (hv : ev P m (S0 ds) (fin rs R)) : PureAt P k ds R := by
  obtain ⟨h0, hs, fn, c, h1, h2, h3, rfl, h4, h5⟩ := h
  exact pure_of_ev h0 h1 h2 h3 h4 h5 hl hs hv

theorem fresh_of {k : FuncId} {m : MC} {rs : List MOp} {N : Nat} {ds : List D} {e sz : Nat} {R : List (List D) → Prop} (h : Runs P k m.strip rs N) (hl : Nat.ble ds.length N = true) (hv : ev P m (S0 ds) (finF rs e sz R)) : FreshAt P k ds e sz R := by
  obtain ⟨h0, hs, fn, c, h1, h2, h3, rfl, h4, h5⟩ := h
  exact fresh_of_ev h0 h1 h2 h3 h4 h5 hl hs hv

theorem mut_of {k : FuncId} {m : MC} {rs : List MOp} {N : Nat} {es : List (List D)} {ds : List D} {e sz : Nat} {R : List (List D) → D → Prop} (h : Runs P k m.strip rs N) (hl : Nat.ble (ds.length + 1) N = true) (hv : ev P m (S1 e sz es ds) (finT rs e sz es.length R)) : MutAt P k e sz es ds R := by
  obtain ⟨h0, hs, fn, c, h1, h2, h3, rfl, h4, h5⟩ := h
  exact mut_of_ev h0 h1 h2 h3 h4 h5 hl hs hv

end Go.Vm
