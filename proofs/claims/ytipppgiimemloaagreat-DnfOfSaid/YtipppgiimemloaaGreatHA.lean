/- A part of the proof; what is proved stands in the last text. -/
import Derived.Test.YtipppgiimemloaaGreatVm24
set_option linter.unusedVariables false
set_option maxRecDepth 2000
namespace Go.Vm
open Go.RowKit
set_option linter.unusedVariables false
variable {P : Program} {w0 w w' : World} {W F0 : Reg} {V : Pins} {N : Nat} {g g' : Gh} {S S' : St} {a a' : Act} {ops : Array Oper} {σ : Type}

structure KeepX (B : Nat → Prop) (w w' : World) : Prop where
  os : w'.os = w.os
  tape : w'.tape = w.tape
  output : w'.output = w.output
  size : w.heap.size ≤ w'.heap.size
  drawn : w.drawn ≤ w'.drawn
  block : ∀ (b : Nat) (o : Obj), ¬ B b → w.heap[b]? = some o → w'.heap[b]? = some o
structure HidT (σ : Type) where
  holds : σ → (Nat → Prop) → World → Prop
  lt : ∀ {s : σ} {B : Nat → Prop} {w : World} {b : Nat}, holds s B w → B b → b < w.heap.size
  keep : ∀ {s : σ} {B : Nat → Prop} {w w' : World}, holds s B w → (∀ b, B b → w'.heap[b]? = w.heap[b]?) → holds s B w'
  make : TypeId → Array Value → σ → Nat → σ → Prop
  made : ∀ {s s' : σ} {B : Nat → Prop} {w : World} {t : TypeId} {cs : Array Value}, holds s B w → make t cs s w.heap.size s' → holds s' (fun b => B b ∨ b = w.heap.size) (w.alloc (.cells cs t (0, 0)))

def HidAt (P : Program) (H : HidT σ) (k : FuncId) (s : σ) (ds : List D) (R : D → σ → Prop) : Prop :=
  (∃ fn, P.funcs[k]? = some fn ∧ (fn.name == "runtime.NumGoroutine") = false ∧ fn.body.isNone = false) ∧
  ∀ (F : Reg) (w : World) (B : Nat → Prop) (vs : Array Value), (∀ b j, F b j → b < w.heap.size) → H.holds s B w → (∀ b j, F b j → ¬ B b) → vs.size = ds.length → (∀ (i : Nat) (d : D) (v : Value), ds[i]? = some d → vs[i]? = some v → RepF F w d v) →
    Calls P k vs w fun e w' => ∃ r v s' B', e = .returned v ∧ R r s' ∧ H.holds s' B' w' ∧ (∀ b, B' b → B b ∨ w.heap.size ≤ b) ∧
      RepF (fun b j => F b j ∨ (w.heap.size ≤ b ∧ b < w'.heap.size ∧ ¬ B' b)) w' r v ∧ KeepX B w w'
variable {H : HidT σ} {B0 : Nat → Prop} {s s' : σ}

end Go.Vm


namespace Go.Vm
open Go.RowKit
set_option linter.unusedVariables false
variable {P : Program} {w0 w w' : World} {W F0 : Reg} {V : Pins} {N : Nat} {g g' : Gh} {S S' : St} {a a' : Act} {ops : Array Oper} {σ : Type} {H : HidT σ} {B0 : Nat → Prop} {s s' : σ}

def fullB (S : St) : Bool := S.hp.all fun x => !x.2.isEmpty
def hcall (P : Program) (H : HidT σ) (d : Option Nat) (k : FuncId) (args : List Operand) (S : St) (s : σ) (J : St → σ → Prop) : Prop :=
  match looks S args with
  | some ds => match frzL ds with
    | some fs => fullB S = true ∧ (tagsL ds).all (fun t => (S.tag t).isSome) = true ∧ HidAt P H k s fs fun r s' => J ((S.share (tagsL ds)).put d r) s'
    | none => False
  | none => False
def hnew (P : Program) (H : HidT σ) (t1 : Nat) (zd : List D) (T : TypeId) (t2 : Nat) (S : St) (s : σ) (J : St → σ → Prop) : Prop :=
  fullB S = true ∧ ∃ i z, P.info? T = some i ∧ i.zero = some z ∧ zd = zeroD z ∧ ∀ b, ∃ s', H.make T z.cells s b s' ∧ J ((S.put (some t1) .undef).put (some t2) (.val (.pointer (some ⟨b, 0, none⟩)))) s'

inductive HO
  | call (d : Option Nat) (k : FuncId) (args : List Operand)
  | new (t1 : Nat) (zd : List D) (T : TypeId) (sz t2 : Nat)
inductive MH
  | pure (m : MC)
  | reg (segs : List (List MO × HO)) (last : List MO)
  | dreg (q : Nat) (lead : List MO) (d : Option Nat) (k : FuncId) (args : List Operand)
  | seq (x y : MH)
  | cond (c : Operand) (x y : MH)
  | block (id : Nat) (x : MH)
  | loop (x : MH)
  | trim (ts os : List Nat) (gs : List Tag) (x : MH)
  | fzb (o : Nat) (x : MH)
def evHO (P : Program) (H : HidT σ) : HO → St → σ → (St → σ → Prop) → Prop
  | .call d k args, S, s, J => hcall P H d k args S s J
  | .new t1 zd T sz t2, S, s, J => hnew P H t1 zd T t2 S s J
def evSegs (P : Program) (H : HidT σ) : List (List MO × HO) → List MO → St → σ → (St → σ → Prop) → Prop
  | [], last, S, s, J => evOps P last S fun S' => J S' s
  | (pre, h) :: segs, last, S, s, J => evOps P pre S fun S' => evHO P H h S' s fun S'' s'' => evSegs P H segs last S'' s'' J
def iterH (f : St → σ → (Ex → St → σ → Prop) → Prop) (K : Ex → St → σ → Prop) : Nat → St → σ → Prop
  | 0, _, _ => False
  | n + 1, S, s => f S s fun e S' s' => match e with
    | .normal => iterH f K n S' s'
    | .exit id => K (.exit id) S' s'
    | .ret => K .ret S' s'
def evH (P : Program) (H : HidT σ) : MH → St → σ → (Ex → St → σ → Prop) → Prop
  | .pure m, S, s, K => ev P m S fun e S' => K e S' s
  | .reg segs last, S, s, K => evSegs P H segs last S s (K .normal)
  | .dreg q lead d k args, S, s, K => q = lead.length ∧ evDraw P q lead S fun S' => hcall P H d k args S' s (K .normal)
  | .seq x y, S, s, K => evH P H x S s fun e S' s' => match e with
    | .normal => evH P H y S' s' K
    | .exit id => K (.exit id) S' s'
    | .ret => K .ret S' s'
  | .cond c x y, S, s, K => match look S c with
    | some (.val (.bool t)) => (t = true → evH P H x S s K) ∧ (t = false → evH P H y S s K)
    | _ => False
  | .block id x, S, s, K => evH P H x S s fun e S' s' => match e with
    | .normal => K .normal S' s'
    | .exit id' => if id' = id then K .normal S' s' else K (.exit id') S' s'
    | .ret => K .ret S' s'
  | .loop x, S, s, K => ∃ n, iterH (evH P H x) K n S s
  | .trim ts os gs x, S, s, K => evH P H x (S.trim ts os gs) s K
  | .fzb o x, S, s, K => match S.fzB o with
    | some S' => evH P H x S' s K
    | none => False

end Go.Vm


namespace Go.Vm
open Go.RowKit
set_option linter.unusedVariables false
variable {P : Program} {w0 w w' : World} {W F0 : Reg} {V : Pins} {N : Nat} {g g' : Gh} {S S' : St} {a a' : Act} {ops : Array Oper} {σ : Type} {H : HidT σ} {B0 : Nat → Prop} {s s' : σ}

end Go.Vm

