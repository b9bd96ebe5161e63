/- A part of the proof; what is proved stands in the last text. -/
import Derived.Test.YtipppgiimemloaaGreatHB
import Derived.Attr
set_option linter.unusedVariables false
set_option maxRecDepth 2000
namespace Go.Vm
open Go.RowKit
set_option linter.unusedVariables false
variable {P : Program} {S S' : St} {σ : Type} {H : HidT σ} {s s' : σ} {K : Ex → St → σ → Prop} {J : St → σ → Prop}

def seqH (P : Program) (H : HidT σ) (y : MH) (K : Ex → St → σ → Prop) : Ex → St → σ → Prop
  | .normal, S, s => evH P H y S s K
  | .exit id, S, s => K (.exit id) S s
  | .ret, S, s => K .ret S s
def blockH (id : Nat) (K : Ex → St → σ → Prop) : Ex → St → σ → Prop
  | .normal, S, s => K .normal S s
  | .exit id', S, s => if id' = id then K .normal S s else K (.exit id') S s
  | .ret, S, s => K .ret S s
def loopH (I : St → σ → Nat → Prop) (n : Nat) (K : Ex → St → σ → Prop) : Ex → St → σ → Prop
  | .normal, S, s => ∃ k, k < n ∧ I S s k
  | .exit id, S, s => K (.exit id) S s
  | .ret, S, s => K .ret S s
def downH (K : Ex → St → σ → Prop) (s : σ) (e : Ex) (S : St) : Prop := K e S s
def downJ (J : St → σ → Prop) (s : σ) (S : St) : Prop := J S s
def segsK (P : Program) (H : HidT σ) (segs : List (List MO × HO)) (last : List MO) (J : St → σ → Prop) (S : St) (s : σ) : Prop := evSegs P H segs last S s J
def segJ (P : Program) (H : HidT σ) (h : HO) (segs : List (List MO × HO)) (last : List MO) (J : St → σ → Prop) (s : σ) (S : St) : Prop := evHO P H h S s (segsK P H segs last J)
def hcJ (P : Program) (H : HidT σ) (d : Option Nat) (k : FuncId) (args : List Operand) (J : St → σ → Prop) (s : σ) (S : St) : Prop := hcall P H d k args S s J
def callH (P : Program) (H : HidT σ) (S : St) (s : σ) (k : FuncId) (ds : List D) (d : Option Nat) (J : St → σ → Prop) : Prop :=
  stO (frzL ds) fun fs => fullB S = true ∧ liveAll S ds ∧ HidAt P H k s fs fun r s' => J ((S.share (tagsL ds)).put d r) s'
def atH (P : Program) (H : HidT σ) (o : Option (List D)) (S : St) (s : σ) (k : FuncId) (d : Option Nat) (J : St → σ → Prop) : Prop := match o with
  | some ds => callH P H S s k ds d J
  | none => False
def condH (P : Program) (H : HidT σ) (o : Option D) (x y : MH) (S : St) (s : σ) (K : Ex → St → σ → Prop) : Prop := condP o (evH P H x S s K) (evH P H y S s K)
def fzHK (P : Program) (H : HidT σ) (o : Option St) (x : MH) (s : σ) (K : Ex → St → σ → Prop) : Prop := match o with | some S' => evH P H x S' s K | none => False
section
variable (y : MH) (id id' : Nat)
@[go_sem] theorem seqH_normal : seqH P H y K .normal S s = evH P H y S s K := (rfl)
@[go_sem] theorem seqH_exit : seqH P H y K (.exit id) S s = K (.exit id) S s := (rfl)
@[go_sem] theorem seqH_ret : seqH P H y K .ret S s = K .ret S s := (rfl)
@[go_sem] theorem blockH_normal : blockH id K .normal S s = K .normal S s := (rfl)
@[go_sem] theorem blockH_exit : blockH id K (.exit id') S s = if id' = id then K .normal S s else K (.exit id') S s := (rfl)
@[go_sem] theorem blockH_ret : blockH id K .ret S s = K .ret S s := (rfl)
@[go_sem] theorem loopH_normal (I : St → σ → Nat → Prop) (n : Nat) : loopH I n K .normal S s = ∃ k, k < n ∧ I S s k := (rfl)
@[go_sem] theorem loopH_exit (I : St → σ → Nat → Prop) (n : Nat) : loopH I n K (.exit id) S s = K (.exit id) S s := (rfl)
@[go_sem] theorem loopH_ret (I : St → σ → Nat → Prop) (n : Nat) : loopH I n K .ret S s = K .ret S s := (rfl)
@[go_sem] theorem downH_at (e : Ex) : downH K s e S = K e S s := (rfl)
@[go_sem] theorem downJ_at : downJ J s S = J S s := (rfl)
@[go_sem] theorem evH_pure (m : MC) : evH P H (.pure m) S s K = ev P m S (downH K s) := (rfl)
@[go_sem] theorem evH_reg (segs : List (List MO × HO)) (last : List MO) : evH P H (.reg segs last) S s K = evSegs P H segs last S s (K .normal) := (rfl)
@[go_sem] theorem evSegs_nil (last : List MO) : evSegs P H [] last S s J = evOps P last S (downJ J s) := (rfl)
@[go_sem] theorem evSegs_cons (pre : List MO) (h : HO) (segs : List (List MO × HO)) (last : List MO) : evSegs P H ((pre, h) :: segs) last S s J = evOps P pre S (segJ P H h segs last J s) := (rfl)
@[go_sem] theorem segJ_at (h : HO) (segs : List (List MO × HO)) (last : List MO) : segJ P H h segs last J s S = evHO P H h S s (segsK P H segs last J) := (rfl)
@[go_sem] theorem segsK_at (segs : List (List MO × HO)) (last : List MO) : segsK P H segs last J S s = evSegs P H segs last S s J := (rfl)
@[go_sem] theorem atH_some (ds : List D) (k : FuncId) (d : Option Nat) : atH P H (some ds) S s k d J = callH P H S s k ds d J := (rfl)
@[go_sem] theorem evHO_new (t1 : Nat) (zd : List D) (T : TypeId) (sz t2 : Nat) : evHO P H (.new t1 zd T sz t2) S s J = hnew P H t1 zd T t2 S s J := (rfl)
@[go_sem] theorem evH_dreg (q : Nat) (lead : List MO) (d : Option Nat) (k : FuncId) (args : List Operand) : evH P H (.dreg q lead d k args) S s K = (q = lead.length ∧ evDraw P q lead S (hcJ P H d k args (K .normal) s)) := (rfl)
@[go_sem] theorem evH_trim (ts os : List Nat) (gs : List Tag) (x : MH) : evH P H (.trim ts os gs x) S s K = evH P H x (S.trim ts os gs) s K := (rfl)
@[go_sem] theorem evH_cond (c : Operand) (x : MH) : evH P H (.cond c x y) S s K = condH P H (look S c) x y S s K := (rfl)
@[go_sem] theorem evH_fzb (o : Nat) (x : MH) : evH P H (.fzb o x) S s K = fzHK P H (S.fzB o) x s K := (rfl)
@[go_sem] theorem fzHK_some (x : MH) : fzHK P H (some S') x s K = evH P H x S' s K := (rfl)
end
@[go_sem] theorem finH_normal (rs : List MOp) (R : D → σ → Prop) : finH rs R .normal S s = fin rs (fun r => R r s) .normal S := (rfl)
@[go_sem] theorem finH_ret (rs : List MOp) (R : D → σ → Prop) : finH rs R .ret S s = fin rs (fun r => R r s) .ret S := (rfl)
end Go.Vm

