/- A part of the proof; what is proved stands in the last text. -/
import Derived.Test.YtdfpmolkpkpboaaDoorHB
import Derived.Attr
set_option linter.unusedVariables false
set_option maxRecDepth 2000
namespace Go.Vm
open Go.RowKit
set_option linter.unusedVariables false
variable {P : Program} {S S' : St} {σ : Type} {H : HidT σ} {s s' : σ} {K : Ex → St → σ → Prop} {J : St → σ → Prop}
theorem evHO_mono {J J' : St → σ → Prop} (hJ : ∀ S s, J S s → J' S s) {h : HO} (hv : evHO P H h S s J) : evHO P H h S s J' := by
 cases h with
 | call d k args =>
  simp only [evHO, hcall] at hv ⊢
  split at hv
  ·split at hv
   ·exact ⟨hv.1, hv.2.1, hv.2.2.mono fun r s' h => hJ _ _ h⟩
   ·exact hv.elim
  ·exact hv.elim
 | alloc zd T t2 =>
  obtain ⟨h1, i, z, h2, h3, h4, h5⟩ := hv
  exact ⟨h1, i, z, h2, h3, h4, fun b => by obtain ⟨s', q1, q2⟩ := h5 b; exact ⟨s', q1, hJ _ _ q2⟩⟩
 | new t1 zd T sz t2 =>
  obtain ⟨h1, i, z, h2, h3, h4, h5⟩ := hv
  exact ⟨h1, i, z, h2, h3, h4, fun b => by obtain ⟨s', q1, q2⟩ := h5 b; exact ⟨s', q1, hJ _ _ q2⟩⟩
theorem evSegs_mono {J J' : St → σ → Prop} (hJ : ∀ S s, J S s → J' S s) {last : List MO} : ∀ (segs : List (List MO × HO)) (S : St) (s : σ), evSegs P H segs last S s J → evSegs P H segs last S s J'
 | [], S, s, h => evOps_mono (fun S' => hJ S' s) last S h
 | (pre, ho) :: segs, S, s, h => evOps_mono (fun S' h' => evHO_mono (fun S'' s'' => evSegs_mono hJ segs S'' s'') h') pre S h
theorem iterH_mono {f : St → σ → (Ex → St → σ → Prop) → Prop} (hf : ∀ S s (K K' : Ex → St → σ → Prop), (∀ e S s, K e S s → K' e S s) → f S s K → f S s K') {K K' : Ex → St → σ → Prop} (hK : ∀ e S s, K e S s → K' e S s) : ∀ n S s, iterH f K n S s → iterH f K' n S s
 | 0, _, _, h => h
 | n + 1, S, s, h => hf S s _ _ (fun e S' s' h' => by
     cases e with
     | normal => exact iterH_mono hf hK n S' s' h'
     | exit id => exact hK _ _ _ h'
     | ret => exact hK _ _ _ h') h
theorem evH_mono : ∀ (m : MH) (S : St) (s : σ) (K K' : Ex → St → σ → Prop), (∀ e S s, K e S s → K' e S s) → evH P H m S s K → evH P H m S s K' := by
 intro m
 induction m with
 | pure m => intro S s K K' hK h; exact ev_mono m S _ _ (fun e S' => hK e S' s) h
 | reg segs last => intro S s K K' hK h; exact evSegs_mono (fun S s => hK _ S s) segs S s h
 | dreg q lead d k args => intro S s K K' hK h; exact ⟨h.1, evDraw_mono (fun S' h' => evHO_mono (h := .call d k args) (fun S s => hK _ S s) h') q lead S h.2⟩
 | seq x y ihx ihy =>
  intro S s K K' hK h
  refine ihx S s _ _ (fun e S' s' h' => ?_) h
  cases e with
  | normal => exact ihy S' s' K K' hK h'
  | exit id => exact hK _ _ _ h'
  | ret => exact hK _ _ _ h'
 | cond c x y ihx ihy =>
  intro S s K K' hK h
  simp only [evH] at h ⊢
  split at h
  ·exact ⟨fun ht => ihx S s K K' hK (h.1 ht), fun ht => ihy S s K K' hK (h.2 ht)⟩
  ·exact h.elim
 | block id x ih =>
  intro S s K K' hK h
  refine ih S s _ _ (fun e S' s' h' => ?_) h
  cases e with
  | normal => exact hK _ _ _ h'
  | exit id' =>
   simp only at h' ⊢
   split at h' <;> rename_i he
   ·rw [if_pos he]; exact hK _ _ _ h'
   ·rw [if_neg he]; exact hK _ _ _ h'
  | ret => exact hK _ _ _ h'
 | loop x ih =>
  intro S s K K' hK h
  obtain ⟨n, hn⟩ := h
  exact ⟨n, iterH_mono ih hK n S s hn⟩
 | trim ts os gs x ih => intro S s K K' hK h; exact ih _ s K K' hK h
 | fzb o x ih =>
  intro S s K K' hK h
  simp only [evH] at h ⊢
  split at h
  ·exact ih _ s K K' hK h
  ·exact h.elim
def seqH (P : Program) (H : HidT σ) (y : MH) (K : Ex → St → σ → Prop) : Ex → St → σ → Prop
 | .normal, S, s => evH P H y S s K
 | .exit id, S, s => K (.exit id) S s
 | .ret, S, s => K .ret S s
def blockH (id : Nat) (K : Ex → St → σ → Prop) : Ex → St → σ → Prop
 | .normal, S, s => K .normal S s
 | .exit id', S, s => if id' = id then K .normal S s else K (.exit id') S s
 | .ret, S, s => K .ret S s
def loopH (I : St → σ → Nat → Prop) (n : Nat) (K : Ex → St → σ → Prop) : Ex → St → σ → Prop
 | .normal, S, s => ∃ k, k < n ∧ I S s k
 | .exit id, S, s => K (.exit id) S s
 | .ret, S, s => K .ret S s
def downH (K : Ex → St → σ → Prop) (s : σ) (e : Ex) (S : St) : Prop := K e S s
def downJ (J : St → σ → Prop) (s : σ) (S : St) : Prop := J S s
def segsK (P : Program) (H : HidT σ) (segs : List (List MO × HO)) (last : List MO) (J : St → σ → Prop) (S : St) (s : σ) : Prop := evSegs P H segs last S s J
def segJ (P : Program) (H : HidT σ) (h : HO) (segs : List (List MO × HO)) (last : List MO) (J : St → σ → Prop) (s : σ) (S : St) : Prop := evHO P H h S s (segsK P H segs last J)
def hcJ (P : Program) (H : HidT σ) (d : Option Nat) (k : FuncId) (args : List Operand) (J : St → σ → Prop) (s : σ) (S : St) : Prop := hcall P H d k args S s J
def callH (P : Program) (H : HidT σ) (S : St) (s : σ) (k : FuncId) (ds : List D) (d : Option Nat) (J : St → σ → Prop) : Prop :=
 stO (frzL ds) fun fs => fullB S = true ∧ liveAll S ds ∧ HidAt P H k s fs fun r s' => J ((S.share (tagsL ds)).put d r) s'
def atH (P : Program) (H : HidT σ) (o : Option (List D)) (S : St) (s : σ) (k : FuncId) (d : Option Nat) (J : St → σ → Prop) : Prop := match o with
 | some ds => callH P H S s k ds d J
 | none => False
def condH (P : Program) (H : HidT σ) (o : Option D) (x y : MH) (S : St) (s : σ) (K : Ex → St → σ → Prop) : Prop := condP o (evH P H x S s K) (evH P H y S s K)
def fzHK (P : Program) (H : HidT σ) (o : Option St) (x : MH) (s : σ) (K : Ex → St → σ → Prop) : Prop := match o with | some S' => evH P H x S' s K | none => False
section
variable (y : MH) (id id' : Nat)
@[go_sem] theorem seqH_normal : seqH P H y K .normal S s = evH P H y S s K := (rfl)
@[go_sem] theorem seqH_exit : seqH P H y K (.exit id) S s = K (.exit id) S s := (rfl)
@[go_sem] theorem seqH_ret : seqH P H y K .ret S s = K .ret S s := (rfl)
@[go_sem] theorem blockH_normal : blockH id K .normal S s = K .normal S s := (rfl)
@[go_sem] theorem blockH_exit : blockH id K (.exit id') S s = if id' = id then K .normal S s else K (.exit id') S s := (rfl)
@[go_sem] theorem blockH_ret : blockH id K .ret S s = K .ret S s := (rfl)
@[go_sem] theorem loopH_normal (I : St → σ → Nat → Prop) (n : Nat) : loopH I n K .normal S s = ∃ k, k < n ∧ I S s k := (rfl)
@[go_sem] theorem loopH_exit (I : St → σ → Nat → Prop) (n : Nat) : loopH I n K (.exit id) S s = K (.exit id) S s := (rfl)
@[go_sem] theorem loopH_ret (I : St → σ → Nat → Prop) (n : Nat) : loopH I n K .ret S s = K .ret S s := (rfl)
@[go_sem] theorem downH_at (e : Ex) : downH K s e S = K e S s := (rfl)
@[go_sem] theorem downJ_at : downJ J s S = J S s := (rfl)
@[go_sem] theorem evH_pure (m : MC) : evH P H (.pure m) S s K = ev P m S (downH K s) := (rfl)
@[go_sem] theorem evH_reg (segs : List (List MO × HO)) (last : List MO) : evH P H (.reg segs last) S s K = evSegs P H segs last S s (K .normal) := (rfl)
@[go_sem] theorem evSegs_nil (last : List MO) : evSegs P H [] last S s J = evOps P last S (downJ J s) := (rfl)
@[go_sem] theorem evSegs_cons (pre : List MO) (h : HO) (segs : List (List MO × HO)) (last : List MO) : evSegs P H ((pre, h) :: segs) last S s J = evOps P pre S (segJ P H h segs last J s) := (rfl)
@[go_sem] theorem segJ_at (h : HO) (segs : List (List MO × HO)) (last : List MO) : segJ P H h segs last J s S = evHO P H h S s (segsK P H segs last J) := (rfl)
@[go_sem] theorem segsK_at (segs : List (List MO × HO)) (last : List MO) : segsK P H segs last J S s = evSegs P H segs last S s J := (rfl)
@[go_sem] theorem evHO_call (d : Option Nat) (k : FuncId) (args : List Operand) : evHO P H (.call d k args) S s J = atH P H (looks S args) S s k d J := by
 simp only [evHO, hcall, atH]
 cases looks S args with
 | none => rfl
 | some ds => simp only [callH, stO]; cases frzL ds <;> rfl
@[go_sem] theorem atH_some (ds : List D) (k : FuncId) (d : Option Nat) : atH P H (some ds) S s k d J = callH P H S s k ds d J := (rfl)
@[go_sem] theorem evHO_alloc (zd : List D) (T : TypeId) (t2 : Nat) : evHO P H (.alloc zd T t2) S s J = halloc P H zd T t2 S s J := (rfl)
@[go_sem] theorem evHO_new (t1 : Nat) (zd : List D) (T : TypeId) (sz t2 : Nat) : evHO P H (.new t1 zd T sz t2) S s J = hnew P H t1 zd T t2 S s J := (rfl)
@[go_sem] theorem evH_dreg (q : Nat) (lead : List MO) (d : Option Nat) (k : FuncId) (args : List Operand) : evH P H (.dreg q lead d k args) S s K = (q = lead.length ∧ evDraw P q lead S (hcJ P H d k args (K .normal) s)) := (rfl)
@[go_sem] theorem hcJ_at (d : Option Nat) (k : FuncId) (args : List Operand) : hcJ P H d k args J s S = atH P H (looks S args) S s k d J := evHO_call d k args
@[go_sem] theorem evH_seq (x : MH) : evH P H (.seq x y) S s K = evH P H x S s (seqH P H y K) := by
 rw [evH]; congr 1; funext e S s; cases e <;> rfl
@[go_sem] theorem evH_block (x : MH) : evH P H (.block id x) S s K = evH P H x S s (blockH id K) := by
 rw [evH]; congr 1; funext e S s; cases e <;> rfl
@[go_sem] theorem evH_trim (ts os : List Nat) (gs : List Tag) (x : MH) : evH P H (.trim ts os gs x) S s K = evH P H x (S.trim ts os gs) s K := (rfl)
@[go_sem] theorem evH_cond (c : Operand) (x : MH) : evH P H (.cond c x y) S s K = condH P H (look S c) x y S s K := (rfl)
@[go_sem] theorem condH_t (x : MH) : condH P H (some (.val (.bool true))) x y S s K = evH P H x S s K := by simp [condH, condP]
@[go_sem] theorem condH_f (x : MH) : condH P H (some (.val (.bool false))) x y S s K = evH P H y S s K := by simp [condH, condP]
@[go_sem] theorem evH_fzb (o : Nat) (x : MH) : evH P H (.fzb o x) S s K = fzHK P H (S.fzB o) x s K := (rfl)
@[go_sem] theorem fzHK_some (x : MH) : fzHK P H (some S') x s K = evH P H x S' s K := (rfl)
end
theorem callH_by {k : FuncId} {ds fs : List D} {d : Option Nat} {R : D → σ → Prop} (hf : frzL ds = some fs) (hb : fullB S = true) (hl : liveAll S ds) (hp : HidAt P H k s fs R) (h : ∀ r s', R r s' → J ((S.share (tagsL ds)).put d r) s') : callH P H S s k ds d J := by
 unfold callH
 rw [hf]
 exact ⟨hb, hl, hp.mono h⟩
theorem callH_eq {k : FuncId} {ds fs : List D} {d : Option Nat} {r : D} (hf : frzL ds = some fs) (hb : fullB S = true) (hl : liveAll S ds) (hp : HidAt P H k s fs fun r' t => r' = r ∧ t = s') (h : J ((S.share (tagsL ds)).put d r) s') : callH P H S s k ds d J :=
 callH_by hf hb hl hp (by rintro _ _ ⟨rfl, rfl⟩; exact h)
theorem evH_loop_by {x : MH} (I : St → σ → Nat → Prop) : ∀ (n : Nat) (S : St) (s : σ), I S s n → (∀ n S s, I S s n → evH P H x S s (loopH I n K)) → evH P H (.loop x) S s K := by
 intro n
 induction n using Nat.strongRecOn with
 | ind n ih =>
  intro S s h0 h
  have hI := h n S s h0
  have key : ∀ N, ∀ n ≤ N, ∀ S s, I S s n → iterH (evH P H x) K (N + 1) S s := by
   intro N
   induction N with
   | zero =>
    intro n hn S s hI
    refine evH_mono x S s _ _ (fun e S' s' h' => ?_) (h n S s hI)
    cases e with
    | normal => obtain ⟨k, hk, -⟩ := h'; omega
    | exit id => exact h'
    | ret => exact h'
   | succ N ihN =>
    intro n hn S s hI
    refine evH_mono x S s _ _ (fun e S' s' h' => ?_) (h n S s hI)
    cases e with
    | normal => obtain ⟨k, hk, hk'⟩ := h'; exact ihN k (by omega) S' s' hk'
    | exit id => exact h'
    | ret => exact h'
  exact ⟨n + 1, key n n (Nat.le_refl _) S s h0⟩
def invH (L : Nat) (p : Nat → Prop) (ts os : List Nat) (gs : List Tag) (st : Nat → St) (sg : Nat → σ) (S : St) (s : σ) (n : Nat) : Prop := ∃ i : Nat, i ≤ L ∧ n = L - i ∧ p i ∧ S.trim ts os gs = st i ∧ s = sg i
theorem invH_next {L i : Nat} {p : Nat → Prop} {ts os : List Nat} {gs : List Tag} {st : Nat → St} {sg : Nat → σ} (hi : i < L) (hp : p (i + 1)) (hS : S.trim ts os gs = st (i + 1)) (hs : s = sg (i + 1)) : ∃ k, k < L - i ∧ invH L p ts os gs st sg S s k :=
 ⟨L - (i + 1), by omega, i + 1, by omega, rfl, hp, hS, hs⟩
theorem loop_NH {x : MH} {ts os : List Nat} {gs : List Tag} (L : Nat) (p : Nat → Prop) (st : Nat → St) (sg : Nat → σ) (h0 : p 0) (hS : S.trim ts os gs = st 0) (hs : s = sg 0) (step : ∀ i, i ≤ L → p i → evH P H x (st i) (sg i) (loopH (invH L p ts os gs st sg) (L - i) K)) : evH P H (.loop (.trim ts os gs x)) S s K := by
 refine evH_loop_by (invH L p ts os gs st sg) L S s ⟨0, by simp, by simp, h0, hS, hs⟩ ?_
 rintro n S s ⟨i, hi, hn, hp, hS, rfl⟩
 rw [evH_trim, hS]
 subst hn
 exact step i hi hp
@[congr] theorem evH_c {m : MH} (hS : S = S') : evH P H m S s K = evH P H m S' s K := by rw [hS]
@[congr] theorem blockH_c {id : Nat} {e : Ex} (hS : S = S') : blockH id K e S s = blockH id K e S' s := by rw [hS]
@[congr] theorem segsK_c {segs : List (List MO × HO)} {last : List MO} (hS : S = S') : segsK P H segs last J S s = segsK P H segs last J S' s := by rw [hS]
@[congr] theorem atH_c {o o' : Option (List D)} {k : FuncId} {d : Option Nat} (ho : o = o') (hS : S = S') : atH P H o S s k d J = atH P H o' S' s k d J := by rw [ho, hS]
@[congr] theorem condH_c {o o' : Option D} {x y : MH} (ho : o = o') (hS : S = S') : condH P H o x y S s K = condH P H o' x y S' s K := by rw [ho, hS]
@[go_sem] theorem finH_normal (rs : List MOp) (R : D → σ → Prop) : finH rs R .normal S s = fin rs (fun r => R r s) .normal S := (rfl)
@[go_sem] theorem finH_ret (rs : List MOp) (R : D → σ → Prop) : finH rs R .ret S s = fin rs (fun r => R r s) .ret S := (rfl)
end Go.Vm
