/- The value machine, 22: how a state is reckoned, step by step. -/
import Derived.Test.YtaoppmjidjdgdaaGreatVG
import Derived.Attr
set_option linter.unusedVariables false
set_option maxRecDepth 2000
namespace Go.Vm
open Go.RowKit
variable {P : Program} {S : St} {K : Ex → St → Prop} {J : St → Prop}
def seqK (P : Program) (y : MC) (K : Ex → St → Prop) : Ex → St → Prop
 | .normal, S => ev P y S K
 | .exit id, S => K (.exit id) S
 | .ret, S => K .ret S
def blockK (id : Nat) (K : Ex → St → Prop) : Ex → St → Prop
 | .normal, S => K .normal S
 | .exit id', S => if id' = id then K .normal S else K (.exit id') S
 | .ret, S => K .ret S
def loopK (I : St → Nat → Prop) (n : Nat) (K : Ex → St → Prop) : Ex → St → Prop
 | .normal, S => ∃ k, k < n ∧ I S k
 | .exit id, S => K (.exit id) S
 | .ret, S => K .ret S
@[go_sem] theorem seqK_normal (y : MC) : seqK P y K .normal S = ev P y S K := (rfl)
@[go_sem] theorem seqK_exit (y : MC) (id : Nat) : seqK P y K (.exit id) S = K (.exit id) S := (rfl)
@[go_sem] theorem seqK_ret (y : MC) : seqK P y K .ret S = K .ret S := (rfl)
@[go_sem] theorem blockK_normal (id : Nat) : blockK id K .normal S = K .normal S := (rfl)
@[go_sem] theorem blockK_exit (id id' : Nat) : blockK id K (.exit id') S = if id' = id then K .normal S else K (.exit id') S := (rfl)
@[go_sem] theorem blockK_ret (id : Nat) : blockK id K .ret S = K .ret S := (rfl)
@[go_sem] theorem loopK_normal (I : St → Nat → Prop) (n : Nat) : loopK I n K .normal S = ∃ k, k < n ∧ I S k := (rfl)
@[go_sem] theorem loopK_exit (I : St → Nat → Prop) (n id : Nat) : loopK I n K (.exit id) S = K (.exit id) S := (rfl)
@[go_sem] theorem loopK_ret (I : St → Nat → Prop) (n : Nat) : loopK I n K .ret S = K .ret S := (rfl)
@[go_sem] theorem ev_skip : ev P .skip S K = K .normal S := (rfl)
@[go_sem] theorem ev_reg (ms : List MO) : ev P (.reg ms) S K = evOps P ms S (K .normal) := (rfl)
@[go_sem] theorem ev_dreg (q : Nat) (ms : List MO) : ev P (.dreg q ms) S K = evDraw P q ms S (K .normal) := (rfl)
@[go_sem] theorem ev_seq (x y : MC) : ev P (.seq x y) S K = ev P x S (seqK P y K) := by
 rw [ev]; congr 1; funext e S; cases e <;> rfl
@[go_sem] theorem ev_block (id : Nat) (x : MC) : ev P (.block id x) S K = ev P x S (blockK id K) := by
 rw [ev]; congr 1; funext e S; cases e <;> rfl
@[go_sem] theorem ev_exit (id : Nat) : ev P (.exit id) S K = K (.exit id) S := (rfl)
@[go_sem] theorem ev_ret : ev P .ret S K = K .ret S := (rfl)
@[go_sem] theorem ev_trim (ts os : List Nat) (gs : List Tag) (x : MC) : ev P (.trim ts os gs x) S K = ev P x (S.trim ts os gs) K := (rfl)
@[go_sem] theorem ev_fz (ts : List Nat) (x : MC) : ev P (.fz ts x) S K = match S.fz ts with | some S' => ev P x S' K | none => False := (rfl)
def fzP (P : Program) (o : Option St) (x : MC) (K : Ex → St → Prop) : Prop := match o with | some S' => ev P x S' K | none => False
@[go_sem] theorem fzP_some (S' : St) (x : MC) : fzP P (some S') x K = ev P x S' K := (rfl)
@[go_sem] theorem ev_own (o : Nat) (l : List (Nat × Tag)) (x : MC) : ev P (.own o l x) S K = fzP P (S.ownB o l) x K := (rfl)
@[go_sem] theorem ev_fzb (o : Nat) (x : MC) : ev P (.fzb o x) S K = fzP P (S.fzB o) x K := (rfl)
@[go_sem] theorem ev_ren (bs : List (Nat × Nat)) (ts : List (Tag × Tag)) (x : MC) : ev P (.ren bs ts x) S K = fzP P (S.ren bs ts) x K := (rfl)
@[go_sem] theorem ev_fzc (o off : Nat) (x : MC) : ev P (.fzc o off x) S K = fzP P (S.fzC o off) x K := (rfl)
@[go_sem] theorem ev_shr (k : Nat) (x : MC) : ev P (.shr k x) S K = fzP P (S.shr k) x K := (rfl)
def condP (o : Option D) (a b : Prop) : Prop := match o with | some (.val (.bool t)) => (t = true → a) ∧ (t = false → b) | _ => False
def condE (P : Program) (o : Option D) (x y : MC) (S : St) (K : Ex → St → Prop) : Prop := condP o (ev P x S K) (ev P y S K)
@[go_sem] theorem ev_cond (c : Operand) (x y : MC) : ev P (.cond c x y) S K = condE P (look S c) x y S K := (rfl)
@[go_sem] theorem condE_t (x y : MC) : condE P (some (.val (.bool true))) x y S K = ev P x S K := by simp [condE, condP]
@[go_sem] theorem condE_f (x y : MC) : condE P (some (.val (.bool false))) x y S K = ev P y S K := by simp [condE, condP]
theorem condE_split {t : Bool} {x y : MC} (h1 : t = true → ev P x S K) (h2 : t = false → ev P y S K) : condE P (some (.val (.bool t))) x y S K := ⟨h1, h2⟩
theorem ev_loop_by {x : MC} (I : St → Nat → Prop) (n : Nat) (h0 : I S n) (h : ∀ n S, I S n → ev P x S (loopK I n K)) : ev P (.loop x) S K :=
 ev_loop I (fun n S hI => ev_mono x S _ _ (fun e S' h => by cases e <;> exact h) (h n S hI)) n S h0
@[go_sem] theorem evOps_nil : evOps P [] S J = J S := (rfl)
def wantP (o : Option Bool) (a b : Prop) : Prop := match o with | some true => a | some false => b | none => False
@[go_sem] theorem wantP_true (a b : Prop) : wantP (some true) a b = a := (rfl)
@[go_sem] theorem wantP_false (a b : Prop) : wantP (some false) a b = b := (rfl)
def opsK (P : Program) (ms : List MO) (J : St → Prop) : St → Prop := fun S => evOps P ms S J
@[go_sem] theorem opsK_at (ms : List MO) : opsK P ms J S = evOps P ms S J := (rfl)
theorem evOps_cons0 (d : Option Nat) (m : MOp) (gd : Option (Nat × Bool)) (ms : List MO) : evOps P (⟨d, m, gd⟩ :: ms) S J = wantP (want S gd) (vstep P m d S (opsK P ms J)) (opsK P ms J (S.put d (.val undef))) := by
 simp only [evOps]
 cases want S gd with
 | none => rfl
 | some c => cases c <;> rfl
@[go_sem] theorem evOps_plain (d : Option Nat) (m : MOp) (ms : List MO) : evOps P (⟨d, m, none⟩ :: ms) S J = vstep P m d S (opsK P ms J) := by
 rw [evOps_cons0]; rfl
def guardO : Option D → Bool → Option Bool
 | some (.val (.bool c)), b => some (c == b)
 | some (.val (.tuple _)), _ => some false
 | _, _ => none
@[go_sem] theorem guardO_bool (c b : Bool) : guardO (some (.val (.bool c))) b = some (c == b) := (rfl)
@[go_sem] theorem guardO_undef (b : Bool) : guardO (some (.val undef)) b = some false := (rfl)
@[go_sem] theorem wantP_tt (a b : Prop) : wantP (some (true == true)) a b = a := (rfl)
@[go_sem] theorem wantP_ff (a b : Prop) : wantP (some (false == false)) a b = a := (rfl)
@[go_sem] theorem wantP_tf (a b : Prop) : wantP (some (true == false)) a b = b := (rfl)
@[go_sem] theorem wantP_ft (a b : Prop) : wantP (some (false == true)) a b = b := (rfl)
@[go_sem] theorem guardO_tuple (b : Bool) (vs : Array Value) : guardO (some (.val (.tuple vs))) b = some false := (rfl)
theorem want_guard (t : Nat) (b : Bool) : want S (some (t, b)) = guardO (S.get t) b := by
 simp only [want]
 cases S.get t with
 | none => rfl
 | some d => cases d with
  | val v => cases v <;> rfl
  | _ => rfl
def qstep (P : Program) (m : MOp) (dst : Option Nat) (S : St) (K : St → Prop) : Prop := ∃ d, QV P m S d ∧ K (S.put dst d)
def wantE (P : Program) (o : Option Bool) (m : MOp) (d : Option Nat) (S : St) (J : St → Prop) : Prop := wantP o (vstep P m d S J) (J (S.put d (.val undef)))
def wantQ (P : Program) (o : Option Bool) (m : MOp) (d : Option Nat) (S : St) (J : St → Prop) : Prop := wantP o (qstep P m d S J) (J (S.put d (.val undef)))
section
variable (m : MOp) (d : Option Nat)
@[go_sem] theorem wantE_t : wantE P (some true) m d S J = vstep P m d S J := (rfl)
@[go_sem] theorem wantE_f : wantE P (some false) m d S J = J (S.put d (.val undef)) := (rfl)
@[go_sem] theorem wantQ_t : wantQ P (some true) m d S J = qstep P m d S J := (rfl)
@[go_sem] theorem wantQ_f : wantQ P (some false) m d S J = J (S.put d (.val undef)) := (rfl)
@[go_sem] theorem wantE_tt : wantE P (some (true == true)) m d S J = vstep P m d S J := (rfl)
@[go_sem] theorem wantE_ff : wantE P (some (false == false)) m d S J = vstep P m d S J := (rfl)
@[go_sem] theorem wantE_tf : wantE P (some (true == false)) m d S J = J (S.put d (.val undef)) := (rfl)
@[go_sem] theorem wantE_ft : wantE P (some (false == true)) m d S J = J (S.put d (.val undef)) := (rfl)
@[go_sem] theorem wantQ_tt : wantQ P (some (true == true)) m d S J = qstep P m d S J := (rfl)
@[go_sem] theorem wantQ_ff : wantQ P (some (false == false)) m d S J = qstep P m d S J := (rfl)
@[go_sem] theorem wantQ_tf : wantQ P (some (true == false)) m d S J = J (S.put d (.val undef)) := (rfl)
@[go_sem] theorem wantQ_ft : wantQ P (some (false == true)) m d S J = J (S.put d (.val undef)) := (rfl)
end
theorem wantE_split {t c : Bool} {m : MOp} {d : Option Nat} (h1 : t = true → wantE P (some (true == c)) m d S J) (h2 : t = false → wantE P (some (false == c)) m d S J) : wantE P (some (t == c)) m d S J := by
 cases t
 ·exact h2 rfl
 ·exact h1 rfl
theorem wantQ_split {t c : Bool} {m : MOp} {d : Option Nat} (h1 : t = true → wantQ P (some (true == c)) m d S J) (h2 : t = false → wantQ P (some (false == c)) m d S J) : wantQ P (some (t == c)) m d S J := by
 cases t
 ·exact h2 rfl
 ·exact h1 rfl
@[go_sem] theorem evOps_guard (d : Option Nat) (m : MOp) (t : Nat) (b : Bool) (ms : List MO) : evOps P (⟨d, m, some (t, b)⟩ :: ms) S J = wantE P (guardO (S.get t) b) m d S (opsK P ms J) := by
 rw [evOps_cons0, want_guard]; rfl
@[go_sem] theorem evDraw_zero (ms : List MO) : evDraw P 0 ms S J = evOps P ms S J := by cases ms <;> rfl
def drawK (P : Program) (q : Nat) (ms : List MO) (J : St → Prop) : St → Prop := fun S => evDraw P q ms S J
@[go_sem] theorem drawK_at (q : Nat) (ms : List MO) : drawK P q ms J S = evDraw P q ms S J := (rfl)
@[go_sem] theorem evDraw_nil (q : Nat) : evDraw P q [] S J = J S := by cases q <;> rfl
theorem evDraw_cons0 (q : Nat) (d : Option Nat) (m : MOp) (gd : Option (Nat × Bool)) (ms : List MO) : evDraw P (q + 1) (⟨d, m, gd⟩ :: ms) S J = wantP (want S gd) (qstep P m d S (drawK P q ms J)) (drawK P q ms J (S.put d (.val undef))) := by
 simp only [evDraw]
 cases want S gd with
 | none => rfl
 | some c => cases c <;> rfl
@[go_sem] theorem evDraw_plain (q : Nat) (d : Option Nat) (m : MOp) (ms : List MO) : evDraw P (q + 1) (⟨d, m, none⟩ :: ms) S J = qstep P m d S (drawK P q ms J) := by
 rw [evDraw_cons0]; rfl
@[go_sem] theorem evDraw_guard (q : Nat) (d : Option Nat) (m : MOp) (t : Nat) (b : Bool) (ms : List MO) : evDraw P (q + 1) (⟨d, m, some (t, b)⟩ :: ms) S J = wantQ P (guardO (S.get t) b) m d S (drawK P q ms J) := by
 rw [evDraw_cons0, want_guard]; rfl
def okS (os : List Nat) (ts : List Tag) (dst : Option Nat) (S : St) : Prop := match os, ts, dst with
 | [], [], _ => True
 | _, _, none => True
 | os, ts, some t => match S.get t with | some d => d.avoids (poL os) (ptL ts) = true | none => False
def okA (os : List Nat) (ts : List Tag) (o : Option D) : Prop := match o with | some d => d.avoids (poL os) (ptL ts) = true | none => False
@[go_sem] theorem okA_some (os : List Nat) (ts : List Tag) (d : D) : okA os ts (some d) = (d.avoids (poL os) (ptL ts) = true) := (rfl)
@[go_sem] theorem okS_nil (dst : Option Nat) : okS [] [] dst S = True := (rfl)
@[go_sem] theorem okS_o (o : Nat) (os : List Nat) (ts : List Tag) (t : Nat) : okS (o :: os) ts (some t) S = okA (o :: os) ts (S.get t) := (rfl)
@[go_sem] theorem okS_t (x : Tag) (ts : List Tag) (t : Nat) : okS [] (x :: ts) (some t) S = okA [] (x :: ts) (S.get t) := (rfl)
def d2Q (P : Program) (os : List Nat) (ts : List Tag) (dst : Option Nat) (r : List (MO × DK)) (J : St → Prop) : St → Prop := fun S => okS os ts dst S ∧ evQ P os ts r S J
def d2S (P : Program) (os : List Nat) (ts : List Tag) (dst : Option Nat) (r : List (MO × DK)) (J : St → Prop) : St → Prop := fun S => evS P os ts r (S.kd dst os) J
def d2K (P : Program) (k : DK) (r : List (MO × DK)) (J : St → Prop) : St → Prop := fun S => evK P k r S J
def d2S0 (P : Program) (os : List Nat) (ts : List Tag) (ms : List (MO × DK)) (J : St → Prop) : St → Prop := fun S => evS P os ts ms S J
@[go_sem] theorem d2Q_at (os : List Nat) (ts : List Tag) (dst : Option Nat) (r : List (MO × DK)) : d2Q P os ts dst r J S = (okS os ts dst S ∧ evQ P os ts r S J) := (rfl)
@[go_sem] theorem d2S_at (os : List Nat) (ts : List Tag) (dst : Option Nat) (r : List (MO × DK)) : d2S P os ts dst r J S = evS P os ts r (S.kd dst os) J := (rfl)
@[go_sem] theorem d2S0_at (os : List Nat) (ts : List Tag) (r : List (MO × DK)) : d2S0 P os ts r J S = evS P os ts r S J := (rfl)
@[go_sem] theorem d2K_at (k : DK) (r : List (MO × DK)) : d2K P k r J S = evK P k r S J := (rfl)
@[go_sem] theorem ev_dreg2 (ms : List (MO × DK)) : ev P (.dreg2 ms) S K = evQ P (osOf ms) (tsOf ms) ms (S.cut (osOf ms) (tsOf ms)) (d2S0 P (osOf ms) (tsOf ms) ms (d2K P .a ms (d2K P .h ms (K .normal)))) := (rfl)
section
variable (os : List Nat) (ts : List Tag) (d : Option Nat) (m : MO) (o : MOp) (r : List (MO × DK)) (t : Nat) (b : Bool)
@[go_sem] theorem osOf_nil : osOf [] = [] := (rfl)
@[go_sem] theorem osOf_q : osOf ((m, .q) :: r) = osOf r := (rfl)
@[go_sem] theorem osOf_s : osOf ((m, .s) :: r) = osOf r := (rfl)
@[go_sem] theorem osOf_h : osOf ((m, .h) :: r) = osOf r := (rfl)
@[go_sem] theorem osOf_a (gd : Option (Nat × Bool)) : osOf ((⟨some t, o, gd⟩, .a) :: r) = t :: osOf r := (rfl)
@[go_sem] theorem tsOf_nil : tsOf [] = [] := (rfl)
@[go_sem] theorem tsOf_q : tsOf ((m, .q) :: r) = tsOf r := (rfl)
@[go_sem] theorem tsOf_a : tsOf ((m, .a) :: r) = tsOf r := (rfl)
@[go_sem] theorem tsOf_h : tsOf ((m, .h) :: r) = tsOf r := (rfl)
@[go_sem] theorem tsOf_s : tsOf ((m, .s) :: r) = tagOf m ++ tsOf r := (rfl)
@[go_sem] theorem evQ_nil : evQ P os ts [] S J = J S := (rfl)
@[go_sem] theorem evQ_s : evQ P os ts ((m, .s) :: r) S J = evQ P os ts r S J := (rfl)
@[go_sem] theorem evQ_a : evQ P os ts ((m, .a) :: r) S J = evQ P os ts r S J := (rfl)
@[go_sem] theorem evQ_h : evQ P os ts ((m, .h) :: r) S J = evQ P os ts r S J := (rfl)
theorem okD_okS (d : Option Nat) (x : D) : okD os ts d x = okS os ts d (S.put d x) := by
 cases d with
 | none => cases os <;> cases ts <;> rfl
 | some t =>
  have : (S.put (some t) x).get t = some x := by simp [St.put, St.get, lkp]
  cases os <;> cases ts <;> simp only [okD, okS, this]
@[go_sem] theorem evQ_plain : evQ P os ts ((⟨d, o, none⟩, .q) :: r) S J = qstep P o d S (d2Q P os ts d r J) := by
 simp only [evQ, want, qstep, d2Q, okD_okS (S := S)]
def wantD (P : Program) (x : Option Bool) (o : MOp) (d : Option Nat) (S : St) (os : List Nat) (ts : List Tag) (r : List (MO × DK)) (J : St → Prop) : Prop := wantP x (qstep P o d S (d2Q P os ts d r J)) (evQ P os ts r (S.put d (.val undef)) J)
@[go_sem] theorem wantD_t : wantD P (some true) o d S os ts r J = qstep P o d S (d2Q P os ts d r J) := (rfl)
@[go_sem] theorem wantD_f : wantD P (some false) o d S os ts r J = evQ P os ts r (S.put d (.val undef)) J := (rfl)
@[go_sem] theorem wantD_tt : wantD P (some (true == true)) o d S os ts r J = qstep P o d S (d2Q P os ts d r J) := (rfl)
@[go_sem] theorem wantD_ff : wantD P (some (false == false)) o d S os ts r J = qstep P o d S (d2Q P os ts d r J) := (rfl)
@[go_sem] theorem wantD_tf : wantD P (some (true == false)) o d S os ts r J = evQ P os ts r (S.put d (.val undef)) J := (rfl)
@[go_sem] theorem wantD_ft : wantD P (some (false == true)) o d S os ts r J = evQ P os ts r (S.put d (.val undef)) J := (rfl)
@[go_sem] theorem evQ_guard : evQ P os ts ((⟨d, o, some (t, b)⟩, .q) :: r) S J = wantD P (guardO (S.get t) b) o d S os ts r J := by
 simp only [evQ, want_guard, qstep, d2Q, okD_okS (S := S), wantD]
 cases guardO (S.get t) b with
 | none => rfl
 | some c => cases c <;> rfl
@[go_sem] theorem evS_nil : evS P os ts [] S J = J S := (rfl)
@[go_sem] theorem evS_q : evS P os ts ((m, .q) :: r) S J = evS P os ts r S J := (rfl)
@[go_sem] theorem evS_a : evS P os ts ((m, .a) :: r) S J = evS P os ts r S J := (rfl)
@[go_sem] theorem evS_h : evS P os ts ((m, .h) :: r) S J = evS P os ts r S J := (rfl)
@[go_sem] theorem evS_plain : evS P os ts ((⟨d, o, none⟩, .s) :: r) S J = (softOk ts S o ∧ vstep P o d S (d2S P os ts d r J)) := (rfl)
def wantS (P : Program) (x : Option Bool) (o : MOp) (d : Option Nat) (S : St) (os : List Nat) (ts : List Tag) (r : List (MO × DK)) (J : St → Prop) : Prop := wantP x (softOk ts S o ∧ vstep P o d S (d2S P os ts d r J)) (evS P os ts r (S.put d (.val undef)) J)
@[go_sem] theorem wantS_t : wantS P (some true) o d S os ts r J = (softOk ts S o ∧ vstep P o d S (d2S P os ts d r J)) := (rfl)
@[go_sem] theorem wantS_f : wantS P (some false) o d S os ts r J = evS P os ts r (S.put d (.val undef)) J := (rfl)
@[go_sem] theorem wantS_tt : wantS P (some (true == true)) o d S os ts r J = (softOk ts S o ∧ vstep P o d S (d2S P os ts d r J)) := (rfl)
@[go_sem] theorem wantS_ff : wantS P (some (false == false)) o d S os ts r J = (softOk ts S o ∧ vstep P o d S (d2S P os ts d r J)) := (rfl)
@[go_sem] theorem wantS_tf : wantS P (some (true == false)) o d S os ts r J = evS P os ts r (S.put d (.val undef)) J := (rfl)
@[go_sem] theorem wantS_ft : wantS P (some (false == true)) o d S os ts r J = evS P os ts r (S.put d (.val undef)) J := (rfl)
@[go_sem] theorem evK_nil (k : DK) : evK P k [] S J = J S := (rfl)
@[go_sem] theorem evK_aa : evK P .a ((⟨d, o, none⟩, .a) :: r) S J = vstep P o d S (d2K P .a r J) := (rfl)
@[go_sem] theorem evK_hh : evK P .h ((⟨d, o, none⟩, .h) :: r) S J = vstep P o d S (d2K P .h r J) := (rfl)
@[go_sem] theorem evK_aq : evK P .a ((m, .q) :: r) S J = evK P .a r S J := (rfl)
@[go_sem] theorem evK_as : evK P .a ((m, .s) :: r) S J = evK P .a r S J := (rfl)
@[go_sem] theorem evK_ah : evK P .a ((m, .h) :: r) S J = evK P .a r S J := (rfl)
@[go_sem] theorem evK_hq : evK P .h ((m, .q) :: r) S J = evK P .h r S J := (rfl)
@[go_sem] theorem evK_hs : evK P .h ((m, .s) :: r) S J = evK P .h r S J := (rfl)
@[go_sem] theorem evK_ha : evK P .h ((m, .a) :: r) S J = evK P .h r S J := (rfl)
end
attribute [go_sem] tagOf softOk
@[go_sem] theorem poL_nil (o : Nat) : poL [] o = true := (rfl)
@[go_sem] theorem poL_cons (o o' : Nat) (os : List Nat) : poL (o' :: os) o = (decide (o ≠ o') && poL os o) := by
 simp only [poL, List.contains_cons, Bool.not_or]
 congr 1
 by_cases h : o = o' <;> simp [h]
@[go_sem] theorem ptL_nil (o : Tag) : ptL [] o = true := (rfl)
@[go_sem] theorem ptL_cons (o o' : Tag) (os : List Tag) : ptL (o' :: os) o = (decide (o ≠ o') && ptL os o) := by
 simp only [ptL, List.contains_cons, Bool.not_or]
 congr 1
 by_cases h : o = o' <;> simp [h]
def cutH (os : List Nat) (l : List (Nat × List D)) : List (Nat × List D) := l.filter fun y => poL os y.1
def cutG (ts : List Tag) (l : List (Tag × Bool)) : List (Tag × Bool) := l.filter fun y => ptL ts y.1
@[go_sem] theorem cutH_nil (os : List Nat) : cutH os [] = [] := (rfl)
@[go_sem] theorem cutH_cons (os : List Nat) (o : Nat) (cs : List D) (l : List (Nat × List D)) : cutH os ((o, cs) :: l) = if poL os o = true then (o, cs) :: cutH os l else cutH os l := by
 simp only [cutH, List.filter_cons]
@[go_sem] theorem cutG_nil (ts : List Tag) : cutG ts [] = [] := (rfl)
@[go_sem] theorem cutG_cons (ts : List Tag) (o : Tag) (x : Bool) (l : List (Tag × Bool)) : cutG ts ((o, x) :: l) = if ptL ts o = true then (o, x) :: cutG ts l else cutG ts l := by
 simp only [cutG, List.filter_cons]
@[go_sem] theorem cut_nil (S : St) : S.cut [] [] = S := (rfl)
@[go_sem] theorem kd_nil (S : St) (dst : Option Nat) : S.kd dst [] = S := (rfl)
def kdO (S : St) (t : Nat) (os : List Nat) (o : Option D) : St := match o with | some d => S.put (some t) (d.keep (poL os) fun _ => true) | none => S
@[go_sem] theorem kdO_some (S : St) (t : Nat) (os : List Nat) (d : D) : kdO S t os (some d) = S.put (some t) (d.keep (poL os) fun _ => true) := (rfl)
@[go_sem] theorem kd_cons (S : St) (t o : Nat) (os : List Nat) : S.kd (some t) (o :: os) = kdO S t (o :: os) (S.get t) := (rfl)
def onD (o : Option D) (dst : Option Nat) (S : St) (J : St → Prop) : Prop := match o with | some d => J (S.put dst d) | none => False
@[go_sem] theorem onD_some (d : D) (dst : Option Nat) : onD (some d) dst S J = J (S.put dst d) := (rfl)
theorem qstep_pop {m : MOp} (dst : Option Nat) (h : ∀ d, QV P m S d = (pop S m = some d)) : qstep P m dst S J = onD (pop S m) dst S J := by
 unfold qstep onD
 simp only [h]
 cases hp : pop S m with
 | none => simp
 | some d => simp
section
variable (dst : Option Nat) (x y z : Operand)
@[go_sem] theorem v_mov : vstep P (.mov x) dst S J = onD (look S x) dst S J := (rfl)
@[go_sem] theorem v_movS : vstep P (.movS x) dst S J = onD (pop S (.movS x)) dst S J := (rfl)
@[go_sem] theorem v_pick : vstep P (.pick x y z) dst S J = onD (pop S (.pick x y z)) dst S J := (rfl)
@[go_sem] theorem v_load (sz : Option Nat) : vstep P (.load sz x) dst S J = onD (pop S (.load sz x)) dst S J := (rfl)
@[go_sem] theorem v_bin (o : BinOp) : vstep P (.bin o x y) dst S J = onD (pop S (.bin o x y)) dst S J := (rfl)
@[go_sem] theorem v_binB (n : Bool) : vstep P (.binB n x y) dst S J = onD (pop S (.binB n x y)) dst S J := (rfl)
@[go_sem] theorem v_binP (n : Bool) : vstep P (.binP n x y) dst S J = onD (pop S (.binP n x y)) dst S J := (rfl)
@[go_sem] theorem v_eqs (n : Bool) (ks : List SK) : vstep P (.eqs n ks x y) dst S J = onD (pop S (.eqs n ks x y)) dst S J := (rfl)
@[go_sem] theorem v_un (o : UnOp) : vstep P (.un o x) dst S J = onD (pop S (.un o x)) dst S J := (rfl)
@[go_sem] theorem v_conv (k : IntKind) : vstep P (.conv k x) dst S J = onD (pop S (.conv k x)) dst S J := (rfl)
@[go_sem] theorem v_faddr (n : Nat) : vstep P (.faddr n x) dst S J = onD (pop S (.faddr n x)) dst S J := (rfl)
@[go_sem] theorem v_fld (n : Nat) (sz : Option Nat) : vstep P (.fld n sz x) dst S J = onD (pop S (.fld n sz x)) dst S J := (rfl)
@[go_sem] theorem v_iaddrS (n : Nat) : vstep P (.iaddrS n x y) dst S J = onD (pop S (.iaddrS n x y)) dst S J := (rfl)
@[go_sem] theorem v_iaddrA (n m : Nat) : vstep P (.iaddrA n m x y) dst S J = onD (pop S (.iaddrA n m x y)) dst S J := (rfl)
@[go_sem] theorem v_idxA (n m : Nat) (b : Bool) : vstep P (.idxA n m b x y) dst S J = onD (pop S (.idxA n m b x y)) dst S J := (rfl)
@[go_sem] theorem v_idxS : vstep P (.idxS x y) dst S J = onD (pop S (.idxS x y)) dst S J := (rfl)
@[go_sem] theorem v_build (zs : List D) (ps : List (Nat × Nat × Operand)) : vstep P (.build zs ps) dst S J = onD (pop S (.build zs ps)) dst S J := (rfl)
@[go_sem] theorem v_slcS (lo hi : Option Operand) : vstep P (.slcS x lo hi) dst S J = onD (pop S (.slcS x lo hi)) dst S J := (rfl)
@[go_sem] theorem v_slc (sz : Nat) (lo hi : Option Operand) : vstep P (.slc sz x lo hi) dst S J = onD (pop S (.slc sz x lo hi)) dst S J := (rfl)
@[go_sem] theorem v_slcA (n : Nat) (lo hi : Option Operand) : vstep P (.slcA n x lo hi) dst S J = onD (pop S (.slcA n x lo hi)) dst S J := (rfl)
@[go_sem] theorem v_lenS : vstep P (.lenS x) dst S J = onD (pop S (.lenS x)) dst S J := (rfl)
@[go_sem] theorem v_lenL : vstep P (.lenL x) dst S J = onD (pop S (.lenL x)) dst S J := (rfl)
@[go_sem] theorem v_minmax (b : Bool) (xs : List Operand) : vstep P (.minmax b xs) dst S J = onD (pop S (.minmax b xs)) dst S J := (rfl)
@[go_sem] theorem v_ext (i : Nat) : vstep P (.ext x i) dst S J = onD (pop S (.ext x i)) dst S J := (rfl)
@[go_sem] theorem v_mkfn (f : FuncId) (a b : List Operand) : vstep P (.mkfn f a b) dst S J = onD (pop S (.mkfn f a b)) dst S J := (rfl)
@[go_sem] theorem v_nilck : vstep P (.nilck x) dst S J = onD (pop S (.nilck x)) dst S J := (rfl)
@[go_sem] theorem v_r2s : vstep P (.r2s x) dst S J = onD (pop S (.r2s x)) dst S J := (rfl)
@[go_sem] theorem v_b2s : vstep P (.b2s x) dst S J = onD (pop S (.b2s x)) dst S J := (rfl)
@[go_sem] theorem q_b2s : qstep P (.b2s x) dst S J = onD (pop S (.b2s x)) dst S J := qstep_pop dst fun _ => rfl
@[go_sem] theorem q_mov : qstep P (.mov x) dst S J = onD (look S x) dst S J := qstep_pop (m := .mov x) dst fun _ => rfl
@[go_sem] theorem q_pick : qstep P (.pick x y z) dst S J = onD (pop S (.pick x y z)) dst S J := qstep_pop dst fun _ => rfl
@[go_sem] theorem q_load (sz : Option Nat) : qstep P (.load sz x) dst S J = onD (pop S (.load sz x)) dst S J := qstep_pop dst fun _ => rfl
@[go_sem] theorem q_bin (o : BinOp) : qstep P (.bin o x y) dst S J = onD (pop S (.bin o x y)) dst S J := qstep_pop dst fun _ => rfl
@[go_sem] theorem q_binB (n : Bool) : qstep P (.binB n x y) dst S J = onD (pop S (.binB n x y)) dst S J := qstep_pop dst fun _ => rfl
@[go_sem] theorem q_eqs (n : Bool) (ks : List SK) : qstep P (.eqs n ks x y) dst S J = onD (pop S (.eqs n ks x y)) dst S J := qstep_pop dst fun _ => rfl
@[go_sem] theorem q_un (o : UnOp) : qstep P (.un o x) dst S J = onD (pop S (.un o x)) dst S J := qstep_pop dst fun _ => rfl
@[go_sem] theorem q_conv (k : IntKind) : qstep P (.conv k x) dst S J = onD (pop S (.conv k x)) dst S J := qstep_pop dst fun _ => rfl
@[go_sem] theorem q_faddr (n : Nat) : qstep P (.faddr n x) dst S J = onD (pop S (.faddr n x)) dst S J := qstep_pop dst fun _ => rfl
@[go_sem] theorem q_iaddrS (n : Nat) : qstep P (.iaddrS n x y) dst S J = onD (pop S (.iaddrS n x y)) dst S J := qstep_pop dst fun _ => rfl
@[go_sem] theorem q_iaddrA (n m : Nat) : qstep P (.iaddrA n m x y) dst S J = onD (pop S (.iaddrA n m x y)) dst S J := qstep_pop dst fun _ => rfl
@[go_sem] theorem q_build (zs : List D) (ps : List (Nat × Nat × Operand)) : qstep P (.build zs ps) dst S J = onD (pop S (.build zs ps)) dst S J := qstep_pop dst fun _ => rfl
@[go_sem] theorem q_slc (sz : Nat) (lo hi : Option Operand) : qstep P (.slc sz x lo hi) dst S J = onD (pop S (.slc sz x lo hi)) dst S J := qstep_pop dst fun _ => rfl
@[go_sem] theorem q_lenS : qstep P (.lenS x) dst S J = onD (pop S (.lenS x)) dst S J := qstep_pop dst fun _ => rfl
@[go_sem] theorem q_minmax (b : Bool) (xs : List Operand) : qstep P (.minmax b xs) dst S J = onD (pop S (.minmax b xs)) dst S J := qstep_pop dst fun _ => rfl
@[go_sem] theorem q_nilck : qstep P (.nilck x) dst S J = onD (pop S (.nilck x)) dst S J := qstep_pop dst fun _ => rfl
end
@[go_sem] theorem look_tmp (t : Nat) : look S (.tmp t) = S.get t := (rfl)
@[go_sem] theorem look_func (f : FuncId) : look S (.func f) = some (.fn f [] []) := (rfl)
@[go_sem] theorem look_int (k : IntKind) (n : Int) : look S (.const (.int k n)) = some (.val (.int k n)) := (rfl)
@[go_sem] theorem look_bool (b : Bool) : look S (.const (.bool b)) = some (.val (.bool b)) := (rfl)
@[go_sem] theorem look_string (b : ByteArray) : look S (.const (.string b)) = some (.val (.string b)) := (rfl)
@[go_sem] theorem look_ptr (b : Option Addr) : look S (.const (.pointer b)) = some (.val (.pointer b)) := (rfl)
@[go_sem] theorem look_nil : look S (.const (.slice none 0 0)) = some (.sl none []) := (rfl)
@[go_sem] theorem look_tuple (vs : Array Value) : look S (.const (.tuple vs)) = some (.val (.tuple vs)) := (rfl)
@[go_sem] theorem looks_nil : looks S [] = some [] := (rfl)
def consO (a : Option D) (b : Option (List D)) : Option (List D) := match a, b with | some d, some ds => some (d :: ds) | _, _ => none
@[go_sem] theorem consO_some (d : D) (ds : List D) : consO (some d) (some ds) = some (d :: ds) := (rfl)
@[go_sem] theorem looks_cons (x : Operand) (xs : List Operand) : looks S (x :: xs) = consO (look S x) (looks S xs) := (rfl)
@[go_sem] theorem get_mk (e : List (Nat × D)) (h : List (Nat × List D)) (g : List (Tag × Bool)) (t : Nat) : St.get ⟨e, h, g⟩ t = lkp t e := (rfl)
@[go_sem] theorem box_mk (e : List (Nat × D)) (h : List (Nat × List D)) (g : List (Tag × Bool)) (t : Nat) : St.box ⟨e, h, g⟩ t = lkp t h := (rfl)
@[go_sem] theorem tag_mk (e : List (Nat × D)) (h : List (Nat × List D)) (g : List (Tag × Bool)) (t : Tag) : St.tag ⟨e, h, g⟩ t = lkp t g := (rfl)
@[go_sem] theorem put_mk (e : List (Nat × D)) (h : List (Nat × List D)) (g : List (Tag × Bool)) (t : Nat) (d : D) : St.put ⟨e, h, g⟩ (some t) d = ⟨(t, d) :: e, h, g⟩ := (rfl)
@[go_sem] theorem put_none (d : D) : St.put S none d = S := (rfl)
@[go_sem] theorem lkp_nil {α β : Type} [DecidableEq α] (t : α) : lkp t ([] : List (α × β)) = none := (rfl)
@[go_sem] theorem lkp_cons {α β : Type} [DecidableEq α] (t k : α) (v : β) (l : List (α × β)) : lkp t ((k, v) :: l) = if t = k then some v else lkp t l := (rfl)
@[go_sem] theorem trim_mk (e : List (Nat × D)) (h : List (Nat × List D)) (g : List (Tag × Bool)) (ts os : List Nat) (gs : List Tag) : St.trim ⟨e, h, g⟩ ts os gs = ⟨pickL ts e, pickL os h, pickL gs g⟩ := (rfl)
@[go_sem] theorem pickL_nil {α β : Type} [DecidableEq α] (l : List (α × β)) : pickL [] l = [] := (rfl)
def pickC {α β : Type} (k : α) (o : Option β) (l : List (α × β)) : List (α × β) := match o with | some d => (k, d) :: l | none => l
@[go_sem] theorem pickC_some {α β : Type} (k : α) (d : β) (l : List (α × β)) : pickC k (some d) l = (k, d) :: l := (rfl)
@[go_sem] theorem pickC_none {α β : Type} (k : α) (l : List (α × β)) : pickC k none l = l := (rfl)
@[go_sem] theorem pickL_cons {α β : Type} [DecidableEq α] (k : α) (ks : List α) (l : List (α × β)) : pickL (k :: ks) l = pickC k (lkp k l) (pickL ks l) := by
 rw [pickL]; cases lkp k l <;> rfl
@[go_sem] theorem S0_mk (ds : List D) : S0 ds = ⟨num 0 ds, [], []⟩ := (rfl)
@[go_sem] theorem S1_mk (e sz : Nat) (es : List (List D)) (ds : List D) : S1 e sz es ds = ⟨(0, .sl (some (999999, e, sz)) es) :: num 1 ds, [], [((999999, e, sz), true)]⟩ := (rfl)
@[go_sem] theorem num_nil {α : Type} (n : Nat) : num n ([] : List α) = [] := (rfl)
@[go_sem] theorem num_cons {α : Type} (n : Nat) (x : α) (xs : List α) : num n (x :: xs) = (n, x) :: num (n + 1) xs := (rfl)
section
variable (po : Nat → Bool) (pt : Tag → Bool)
@[go_sem] theorem keep_val (v : Value) : D.keep po pt (.val v) = .val v := (rfl)
@[go_sem] theorem keep_undef : D.keep po pt .undef = .undef := (rfl)
@[go_sem] theorem keep_sl0 (es : List (List D)) : D.keep po pt (.sl none es) = .sl none es := (rfl)
@[go_sem] theorem keep_sl1 (t : Tag) (es : List (List D)) : D.keep po pt (.sl (some t) es) = if pt t then .sl (some t) es else .undef := (rfl)
@[go_sem] theorem keep_ptr (o k : Nat) : D.keep po pt (.ptr o k) = if po o then .ptr o k else .undef := (rfl)
@[go_sem] theorem keep_mh (o : Nat) : D.keep po pt (.mh o) = if po o then .mh o else .undef := (rfl)
@[go_sem] theorem keep_mpc (es : List (List D)) : D.keep po pt (.mpc es) = .mpc es := (rfl)
@[go_sem] theorem keep_rp0 (cs : List D) (k : Nat) : D.keep po pt (.rp none cs k) = .rp none cs k := (rfl)
@[go_sem] theorem keep_rp1 (t : Tag) (i : Nat) (cs : List D) (k : Nat) : D.keep po pt (.rp (some (t, i)) cs k) = if pt t then .rp (some (t, i)) cs k else .undef := (rfl)
@[go_sem] theorem keep_fn (f : FuncId) (a b : List D) : D.keep po pt (.fn f a b) = if D.avoids.avoidsL po pt a && D.avoids.avoidsL po pt b then .fn f a b else .undef := (rfl)
@[go_sem] theorem keep_agg (ds : List D) : D.keep po pt (.agg ds) = if D.avoids.avoidsL po pt ds then .agg ds else .undef := (rfl)
@[go_sem] theorem keep_tup (ds : List D) : D.keep po pt (.tup ds) = if D.avoids.avoidsL po pt ds then .tup ds else .undef := (rfl)
@[go_sem] theorem avL_nil : D.avoids.avoidsL po pt [] = true := (rfl)
@[go_sem] theorem avL_cons (d : D) (ds : List D) : D.avoids.avoidsL po pt (d :: ds) = (d.avoids po pt && D.avoids.avoidsL po pt ds) := (rfl)
@[go_sem] theorem av_val (v : Value) : D.avoids po pt (.val v) = true := (rfl)
@[go_sem] theorem av_undef : D.avoids po pt .undef = true := (rfl)
@[go_sem] theorem av_sl0 (es : List (List D)) : D.avoids po pt (.sl none es) = true := (rfl)
@[go_sem] theorem av_sl1 (t : Tag) (es : List (List D)) : D.avoids po pt (.sl (some t) es) = pt t := (rfl)
@[go_sem] theorem av_ptr (o k : Nat) : D.avoids po pt (.ptr o k) = po o := (rfl)
@[go_sem] theorem av_mh (o : Nat) : D.avoids po pt (.mh o) = po o := (rfl)
@[go_sem] theorem av_mpc (es : List (List D)) : D.avoids po pt (.mpc es) = true := (rfl)
@[go_sem] theorem av_rp0 (cs : List D) (k : Nat) : D.avoids po pt (.rp none cs k) = true := (rfl)
@[go_sem] theorem av_rp1 (t : Tag) (i : Nat) (cs : List D) (k : Nat) : D.avoids po pt (.rp (some (t, i)) cs k) = pt t := (rfl)
@[go_sem] theorem av_fn (f : FuncId) (a b : List D) : D.avoids po pt (.fn f a b) = (D.avoids.avoidsL po pt a && D.avoids.avoidsL po pt b) := (rfl)
@[go_sem] theorem av_agg (ds : List D) : D.avoids po pt (.agg ds) = D.avoids.avoidsL po pt ds := (rfl)
@[go_sem] theorem av_tup (ds : List D) : D.avoids po pt (.tup ds) = D.avoids.avoidsL po pt ds := (rfl)
end
def onlyE (po : Nat → Bool) (pt : Tag → Bool) (l : List (Nat × D)) : List (Nat × D) := l.map fun x => (x.1, x.2.keep po pt)
def onlyH (po : Nat → Bool) (pt : Tag → Bool) (l : List (Nat × List D)) : List (Nat × List D) := l.map fun x => (x.1, x.2.map (D.keep po pt))
def dropK {α β : Type} [DecidableEq α] (t : α) (l : List (α × β)) : List (α × β) := l.filter fun y => decide (y.1 ≠ t)
@[go_sem] theorem onlyE_nil (po : Nat → Bool) (pt : Tag → Bool) : onlyE po pt [] = [] := (rfl)
@[go_sem] theorem onlyE_cons (po : Nat → Bool) (pt : Tag → Bool) (t : Nat) (d : D) (l : List (Nat × D)) : onlyE po pt ((t, d) :: l) = (t, d.keep po pt) :: onlyE po pt l := (rfl)
@[go_sem] theorem onlyH_nil (po : Nat → Bool) (pt : Tag → Bool) : onlyH po pt [] = [] := (rfl)
@[go_sem] theorem onlyH_cons (po : Nat → Bool) (pt : Tag → Bool) (t : Nat) (d : List D) (l : List (Nat × List D)) : onlyH po pt ((t, d) :: l) = (t, d.map (D.keep po pt)) :: onlyH po pt l := (rfl)
@[go_sem] theorem dropK_nil {α β : Type} [DecidableEq α] (t : α) : dropK t ([] : List (α × β)) = [] := (rfl)
@[go_sem] theorem dropK_cons {α β : Type} [DecidableEq α] (t k : α) (v : β) (l : List (α × β)) : dropK t ((k, v) :: l) = if k = t then dropK t l else (k, v) :: dropK t l := by
 by_cases h : k = t
 ·simp [dropK, h]
 ·simp [dropK, h]
@[go_sem] theorem only_mk (e : List (Nat × D)) (h : List (Nat × List D)) (g : List (Tag × Bool)) (po : Nat → Bool) (pt : Tag → Bool) : St.only ⟨e, h, g⟩ po pt = ⟨onlyE po pt e, onlyH po pt h, g⟩ := (rfl)
@[go_sem] theorem newTag_mk (e : List (Nat × D)) (h : List (Nat × List D)) (g : List (Tag × Bool)) (t : Tag) (x : Bool) : St.newTag ⟨e, h, g⟩ t x = ⟨onlyE (fun _ => true) (fun y => decide (y ≠ t)) e, onlyH (fun _ => true) (fun y => decide (y ≠ t)) h, (t, x) :: dropK t g⟩ := (rfl)
@[go_sem] theorem newBox_mk (e : List (Nat × D)) (h : List (Nat × List D)) (g : List (Tag × Bool)) (o : Nat) (cs : List D) : St.newBox ⟨e, h, g⟩ o cs = ⟨onlyE (fun y => decide (y ≠ o)) (fun _ => true) e, (o, cs) :: dropK o (onlyH (fun y => decide (y ≠ o)) (fun _ => true) h), g⟩ := (rfl)
@[go_sem] theorem cut_o (e : List (Nat × D)) (h : List (Nat × List D)) (g : List (Tag × Bool)) (o : Nat) (os : List Nat) (ts : List Tag) : St.cut ⟨e, h, g⟩ (o :: os) ts = ⟨onlyE (poL (o :: os)) (ptL ts) e, onlyH (poL (o :: os)) (ptL ts) (cutH (o :: os) h), cutG ts g⟩ := (rfl)
@[go_sem] theorem cut_t (e : List (Nat × D)) (h : List (Nat × List D)) (g : List (Tag × Bool)) (x : Tag) (ts : List Tag) : St.cut ⟨e, h, g⟩ [] (x :: ts) = ⟨onlyE (poL []) (ptL (x :: ts)) e, onlyH (poL []) (ptL (x :: ts)) (cutH [] h), cutG (x :: ts) g⟩ := (rfl)
section
variable (f : Nat → Option Nat) (hh : Tag → Option Tag)
def renP (o : Option Nat) (off : Nat) : D := match o with | some o' => .ptr o' off | none => .undef
def renS (t : Option Tag) (es : List (List D)) : D := match t with | some t' => .sl (some t') es | none => .undef
def renR (t : Option Tag) (i : Nat) (cs : List D) (off : Nat) : D := match t with | some t' => .rp (some (t', i)) cs off | none => .undef
@[go_sem] theorem renP_some (o off : Nat) : renP (some o) off = .ptr o off := (rfl)
def renM (o : Option Nat) : D := match o with | some o' => .mh o' | none => .undef
@[go_sem] theorem renM_some (o : Nat) : renM (some o) = .mh o := (rfl)
@[go_sem] theorem renM_none : renM none = .undef := (rfl)
@[go_sem] theorem renP_none (off : Nat) : renP none off = .undef := (rfl)
@[go_sem] theorem renS_some (t : Tag) (es : List (List D)) : renS (some t) es = .sl (some t) es := (rfl)
@[go_sem] theorem renS_none (es : List (List D)) : renS none es = .undef := (rfl)
@[go_sem] theorem renR_some (t : Tag) (i : Nat) (cs : List D) (off : Nat) : renR (some t) i cs off = .rp (some (t, i)) cs off := (rfl)
@[go_sem] theorem renR_none (i : Nat) (cs : List D) (off : Nat) : renR none i cs off = .undef := (rfl)
@[go_sem] theorem ren_undef : D.ren f hh .undef = .undef := by simp only [D.ren]
@[go_sem] theorem ren_val (v : Value) : D.ren f hh (.val v) = .val v := by simp only [D.ren]
@[go_sem] theorem ren_sl0 (es : List (List D)) : D.ren f hh (.sl none es) = .sl none es := by simp only [D.ren]
@[go_sem] theorem ren_sl1 (t : Tag) (es : List (List D)) : D.ren f hh (.sl (some t) es) = renS (hh t) es := by simp only [D.ren]; cases hh t <;> rfl
@[go_sem] theorem ren_ptr (o off : Nat) : D.ren f hh (.ptr o off) = renP (f o) off := by simp only [D.ren]; cases f o <;> rfl
@[go_sem] theorem ren_mh (o : Nat) : D.ren f hh (.mh o) = renM (f o) := by simp only [D.ren]; cases f o <;> rfl
@[go_sem] theorem ren_mpc (es : List (List D)) : D.ren f hh (.mpc es) = .mpc es := by simp only [D.ren]
@[go_sem] theorem ren_rp0 (cs : List D) (off : Nat) : D.ren f hh (.rp none cs off) = .rp none cs off := by simp only [D.ren]
@[go_sem] theorem ren_tup (x : List D) : D.ren f hh (.tup x) = .tup (renL f hh x) := by simp only [D.ren]
@[go_sem] theorem renL_nil : renL f hh [] = [] := by simp only [renL]
@[go_sem] theorem renL_cons (d : D) (ds : List D) : renL f hh (d :: ds) = d.ren f hh :: renL f hh ds := by simp only [renL]
end
@[go_sem] theorem fwd_nil {α β : Type} [DecidableEq α] (x : α) : fwd ([] : List (α × β)) x = none := (rfl)
@[go_sem] theorem fwd_cons {α β : Type} [DecidableEq α] (k : α) (v : β) (l : List (α × β)) (x : α) : fwd ((k, v) :: l) x = if x = k then some v else fwd l x := (rfl)
@[go_sem] theorem swap_nil' {α β : Type} : swap ([] : List (α × β)) = [] := (rfl)
@[go_sem] theorem swap_cons' {α β : Type} (x : α) (y : β) (l : List (α × β)) : swap ((x, y) :: l) = (y, x) :: swap l := (rfl)
@[go_sem] theorem bk_mk (L : Lend) : L.bk = swap L.bs ++ L.nb := (rfl)
@[go_sem] theorem tk_mk (L : Lend) : L.tk = swap L.ts ++ L.nt := (rfl)
@[go_sem] theorem notIn_nil {α : Type} [DecidableEq α] (x : α) : notIn ([] : List α) x = true := (rfl)
@[go_sem] theorem notIn_cons {α : Type} [DecidableEq α] (y : α) (l : List α) (x : α) : notIn (y :: l) x = (decide (y ≠ x) && notIn l x) := (rfl)
def backC (o : Nat) (f : Nat → Option Nat) (hh : Tag → Option Tag) (c : Option (List D)) (r : List (Nat × List D)) : List (Nat × List D) := match c with | some cs => (o, renL f hh cs) :: r | none => r
@[go_sem] theorem backC_some (o : Nat) (f : Nat → Option Nat) (hh : Tag → Option Tag) (cs : List D) (r : List (Nat × List D)) : backC o f hh (some cs) r = (o, renL f hh cs) :: r := (rfl)
@[go_sem] theorem backC_none (o : Nat) (f : Nat → Option Nat) (hh : Tag → Option Tag) (r : List (Nat × List D)) : backC o f hh none r = r := (rfl)
@[go_sem] theorem backH_nil' (hp : List (Nat × List D)) (bs : List (Nat × Nat)) (ts : List (Tag × Tag)) : backH hp bs ts [] = [] := (rfl)
@[go_sem] theorem backH_cons' (hp : List (Nat × List D)) (bs : List (Nat × Nat)) (ts : List (Tag × Tag)) (o' o : Nat) (r : List (Nat × Nat)) : backH hp bs ts ((o', o) :: r) = backC o (fwd bs) (fwd ts) (lkp o' hp) (backH hp bs ts r) := by
 simp only [backH]; cases lkp o' hp <;> rfl
def backX (t : Tag) (c : Option Bool) (r : List (Tag × Bool)) : List (Tag × Bool) := match c with | some x => (t, x) :: r | none => r
@[go_sem] theorem backX_some (t : Tag) (x : Bool) (r : List (Tag × Bool)) : backX t (some x) r = (t, x) :: r := (rfl)
@[go_sem] theorem backX_none (t : Tag) (r : List (Tag × Bool)) : backX t none r = r := (rfl)
@[go_sem] theorem backT_nil' (tg : List (Tag × Bool)) : backT tg [] = [] := (rfl)
@[go_sem] theorem backT_cons' (tg : List (Tag × Bool)) (t' t : Tag) (r : List (Tag × Tag)) : backT tg ((t', t) :: r) = backX t (lkp t' tg) (backT tg r) := by
 simp only [backT]; cases lkp t' tg <;> rfl
def stayH (l : List Nat) (h : List (Nat × List D)) : List (Nat × List D) := h.filter fun y => notIn l y.1
@[go_sem] theorem stayH_nil (l : List Nat) : stayH l [] = [] := (rfl)
@[go_sem] theorem stayH_cons (l : List Nat) (o : Nat) (cs : List D) (h : List (Nat × List D)) : stayH l ((o, cs) :: h) = if notIn l o = true then (o, cs) :: stayH l h else stayH l h := by
 simp only [stayH, List.filter_cons]
def stayG (l : List Tag) (h : List (Tag × Bool)) : List (Tag × Bool) := h.filter fun y => notIn l y.1
@[go_sem] theorem stayG_nil (l : List Tag) : stayG l [] = [] := (rfl)
@[go_sem] theorem stayG_cons (l : List Tag) (o : Tag) (x : Bool) (h : List (Tag × Bool)) : stayG l ((o, x) :: h) = if notIn l o = true then (o, x) :: stayG l h else stayG l h := by
 simp only [stayG, List.filter_cons]
@[go_sem] theorem back_mk (L : Lend) (e : List (Nat × D)) (h : List (Nat × List D)) (g : List (Tag × Bool)) (hp : List (Nat × List D)) (tg : List (Tag × Bool)) : St.back ⟨e, h, g⟩ L hp tg =
    ⟨onlyE (notIn (L.nb.map (·.2))) (notIn (L.tk.map (·.2))) e, backH hp L.bk L.tk L.bk ++ onlyH (notIn (L.nb.map (·.2))) (notIn (L.tk.map (·.2))) (stayH (L.bk.map (·.2)) h), backT tg L.tk ++ stayG (L.tk.map (·.2)) g⟩ := (rfl)
def anyK (P : Program) (l : List (MO × List Nat)) (J : St → Prop) (n : Nat) (done : List Nat) (i : Nat) : St → Prop := fun S => evAny P l J n (i :: done) S
@[go_sem] theorem anyK_at (l : List (MO × List Nat)) (n : Nat) (done : List Nat) (i : Nat) : anyK P l J n done i S = evAny P l J n (i :: done) S := (rfl)
def anyR (P : Program) (l : List (MO × List Nat)) (J : St → Prop) (n : Nat) (done : List Nat) (S : St) (r : List (Nat × MO)) : Prop := r ≠ [] ∧ evAlt P (anyK P l J n done) S r
@[go_sem] theorem ev_dany (l : List (MO × List Nat)) : ev P (.dany l) S K = evAny P l (K .normal) l.length [] S := (rfl)
@[go_sem] theorem evAny_zero (l : List (MO × List Nat)) (done : List Nat) : evAny P l J 0 done S = J S := (rfl)
@[go_sem] theorem evAny_succ (l : List (MO × List Nat)) (n : Nat) (done : List Nat) : evAny P l J (n + 1) done S = anyR P l J n done S (ready1 done 0 l) := (rfl)
@[go_sem] theorem anyR_cons (l : List (MO × List Nat)) (n : Nat) (done : List Nat) (x : Nat × MO) (r : List (Nat × MO)) : anyR P l J n done S (x :: r) = evAlt P (anyK P l J n done) S (x :: r) := by
 simp [anyR]
@[go_sem] theorem evAlt_nil (k : Nat → St → Prop) : evAlt P k S [] = True := (rfl)
@[go_sem] theorem evAlt_one (k : Nat → St → Prop) (i : Nat) (m : MO) : evAlt P k S [(i, m)] = evOne P m S (k i) := by simp [evAlt]
@[go_sem] theorem evAlt_two (k : Nat → St → Prop) (i : Nat) (m : MO) (x : Nat × MO) (r : List (Nat × MO)) : evAlt P k S ((i, m) :: x :: r) = (evOne P m S (k i) ∧ evAlt P k S (x :: r)) := (rfl)
@[go_sem] theorem evOne_plain (d : Option Nat) (o : MOp) : evOne P ⟨d, o, none⟩ S J = vstep P o d S J := (rfl)
def rdC (b : Bool) (x : Nat × MO) (r : List (Nat × MO)) : List (Nat × MO) := bif b then x :: r else r
@[go_sem] theorem rdC_t (x : Nat × MO) (r : List (Nat × MO)) : rdC true x r = x :: r := (rfl)
@[go_sem] theorem rdC_f (x : Nat × MO) (r : List (Nat × MO)) : rdC false x r = r := (rfl)
@[go_sem] theorem ready1_nil (done : List Nat) (i : Nat) : ready1 done i [] = [] := (rfl)
@[go_sem] theorem ready1_cons (done : List Nat) (i : Nat) (m : MO) (ps : List Nat) (r : List (MO × List Nat)) : ready1 done i ((m, ps) :: r) = rdC (okR done i ps) (i, m) (ready1 done (i + 1) r) := (rfl)
theorem notIn_contains (l : List Nat) (x : Nat) : (!l.contains x) = notIn l x := by
 rw [Bool.eq_iff_iff, notIn_iff]
 simp
@[go_sem] theorem okR_mk (done : List Nat) (i : Nat) (ps : List Nat) : okR done i ps = (notIn done i && ps.all fun k => !notIn done k) := by
 unfold okR
 rw [notIn_contains]
 congr 2
 funext k
 rw [← notIn_contains, Bool.not_not]
end Go.Vm
