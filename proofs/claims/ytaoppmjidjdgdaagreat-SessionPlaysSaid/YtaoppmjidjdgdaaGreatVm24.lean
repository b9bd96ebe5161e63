/- The value machine, 24: where the reckoning looks, and where it parts. -/
import Derived.Test.YtaoppmjidjdgdaaGreatVm23
set_option linter.unusedVariables false
set_option maxRecDepth 2000
namespace Go.Vm
open Go.RowKit
variable {P : Program} {S S' : St} {K : Ex → St → Prop} {J : St → Prop} {a b : Prop}
@[congr] theorem onD_c {o o' : Option D} {dst : Option Nat} (h : o = o') (hS : S = S') : onD o dst S J = onD o' dst S' J := by rw [h, hS]
@[congr] theorem vstep_c {m : MOp} {dst : Option Nat} (hS : S = S') : vstep P m dst S J = vstep P m dst S' J := by rw [hS]
@[congr] theorem ev_c {m : MC} (hS : S = S') : ev P m S K = ev P m S' K := by rw [hS]
@[congr] theorem seqK_c {y : MC} {e : Ex} (hS : S = S') : seqK P y K e S = seqK P y K e S' := by rw [hS]
@[congr] theorem opsK_c {ms : List MO} (hS : S = S') : opsK P ms J S = opsK P ms J S' := by rw [hS]
@[congr] theorem drawK_c {q : Nat} {ms : List MO} (hS : S = S') : drawK P q ms J S = drawK P q ms J S' := by rw [hS]
@[congr] theorem wantD_c {x x' : Option Bool} {o : MOp} {d : Option Nat} {os : List Nat} {ts : List Tag} {r : List (MO × DK)} (hx : x = x') (hS : S = S') : wantD P x o d S os ts r J = wantD P x' o d S' os ts r J := by rw [hS, hx]
@[congr] theorem evQ_c {os os' : List Nat} {ts ts' : List Tag} {r : List (MO × DK)} (ho : os = os') (ht : ts = ts') (hS : S = S') : evQ P os ts r S J = evQ P os' ts' r S' J := by rw [hS, ho, ht]
@[congr] theorem evS_c {os : List Nat} {ts : List Tag} {r : List (MO × DK)} (hS : S = S') : evS P os ts r S J = evS P os ts r S' J := by rw [hS]
@[congr] theorem d2Q_c {os : List Nat} {ts : List Tag} {dst : Option Nat} {r : List (MO × DK)} (hS : S = S') : d2Q P os ts dst r J S = d2Q P os ts dst r J S' := by rw [hS]
@[congr] theorem d2S_c {os : List Nat} {ts : List Tag} {dst : Option Nat} {r : List (MO × DK)} (hS : S = S') : d2S P os ts dst r J S = d2S P os ts dst r J S' := by rw [hS]
@[congr] theorem d2K_c {k : DK} {r : List (MO × DK)} (hS : S = S') : d2K P k r J S = d2K P k r J S' := by rw [hS]
@[congr] theorem stO_c {o o' : Option (List D)} {f : List D → Prop} (h : o = o') : stO o f = stO o' f := by rw [h]
@[congr] theorem atFn_c {f f' : Option D} {as as' : Option (List D)} {c : FuncId → List D → Prop} (h : f = f') (h' : as = as') : atFn f as c = atFn f' as' c := by rw [h, h']
@[congr] theorem storeP_c {sz : Nat} {p p' : Option D} {v v' : Option (List D)} (hS : S = S') (h : p = p') (h' : v = v') : storeP S sz p v J = storeP S' sz p' v' J := by rw [hS, h, h']
@[congr] theorem appendP_c {e sz bytes : Nat} {dst : Option Nat} {x x' y y' : Option D} (hS : S = S') (h : x = x') (h' : y = y') : appendP S e sz bytes dst x y J = appendP S' e sz bytes dst x' y' J := by rw [hS, h, h']
@[congr] theorem isnilP_c {dst : Option Nat} {neg : Bool} {x x' : Option D} (hS : S = S') (h : x = x') : isnilP S dst neg x J = isnilP S' dst neg x' J := by rw [hS, h]
@[congr] theorem callQ_c {k : FuncId} {ds ds' : List D} {dst : Option Nat} (hS : S = S') (h : ds = ds') : callQ P S k ds dst J = callQ P S' k ds' dst J := by rw [hS, h]
@[congr] theorem callF_c {k : FuncId} {ds ds' : List D} {d e sz : Nat} (hS : S = S') (h : ds = ds') : callF P S k ds d e sz J = callF P S' k ds' d e sz J := by rw [hS, h]
@[congr] theorem evAny_c {l : List (MO × List Nat)} {n : Nat} {done : List Nat} (hS : S = S') : evAny P l J n done S = evAny P l J n done S' := by rw [hS]
@[congr] theorem anyR_c {l : List (MO × List Nat)} {n : Nat} {done : List Nat} {r r' : List (Nat × MO)} (hS : S = S') (hr : r = r') : anyR P l J n done S r = anyR P l J n done S' r' := by rw [hS, hr]
@[congr] theorem wantE_c {x x' : Option Bool} {m : MOp} {d : Option Nat} (hx : x = x') (hS : S = S') : wantE P x m d S J = wantE P x' m d S' J := by rw [hx, hS]
@[congr] theorem finOP_c {os : List Nat} {ts : List Tag} {R : D → List (Nat × List D) → List (Tag × Bool) → Prop} {es es' : Option (List D)} (hS : S = S') (h : es = es') : finOP os ts R S es = finOP os ts R S' es' := by rw [hS, h]
def loopU (P : Program) (x : MC) (K : Ex → St → Prop) : Nat → Ex → St → Prop
 | 0, .normal, _ => False
 | n + 1, .normal, S => ev P x S (loopU P x K n)
 | _, .exit id, S => K (.exit id) S
 | _, .ret, S => K .ret S
@[go_sem] theorem loopU_normal (x : MC) (n : Nat) : loopU P x K (n + 1) .normal S = ev P x S (loopU P x K n) := (rfl)
@[go_sem] theorem loopU_exit (x : MC) (n id : Nat) : loopU P x K n (.exit id) S = K (.exit id) S := by cases n <;> rfl
@[go_sem] theorem loopU_ret (x : MC) (n : Nat) : loopU P x K n .ret S = K .ret S := by cases n <;> rfl
theorem iter_loopU {x : MC} : ∀ (n : Nat) (S : St), ev P x S (loopU P x K n) → iter (ev P x) K (n + 1) S
 | 0, S, h => ev_mono x S _ _ (fun e S' h => by cases e <;> first | exact h.elim | exact h) h
 | n + 1, S, h => ev_mono x S _ _ (fun e S' h => by
     cases e with
     | normal => exact iter_loopU n S' h
     | exit id => exact h
     | ret => exact h) h
theorem ev_loop_u {x : MC} (n : Nat) (h : ev P x S (loopU P x K n)) : ev P (.loop x) S K := ⟨n + 1, iter_loopU n S h⟩
def invN (L : Nat) (p : Nat → Prop) (ts os : List Nat) (gs : List Tag) (st : Nat → St) (S : St) (n : Nat) : Prop := ∃ i : Nat, i ≤ L ∧ n = L - i ∧ p i ∧ S.trim ts os gs = st i
theorem invN_next {L i : Nat} {p : Nat → Prop} {ts os : List Nat} {gs : List Tag} {st : Nat → St} (hi : i < L) (hp : p (i + 1)) (hS : S.trim ts os gs = st (i + 1)) : ∃ k, k < L - i ∧ invN L p ts os gs st S k :=
 ⟨L - (i + 1), by omega, i + 1, by omega, rfl, hp, hS⟩
theorem loop_N {x : MC} {ts os : List Nat} {gs : List Tag} (L : Nat) (p : Nat → Prop) (st : Nat → St) (h0 : p 0) (hS : S.trim ts os gs = st 0) (step : ∀ i, i ≤ L → p i → ev P x (st i) (loopK (invN L p ts os gs st) (L - i) K)) : ev P (.loop (.trim ts os gs x)) S K := by
 refine ev_loop_by (invN L p ts os gs st) L ⟨0, by simp, by simp, h0, hS⟩ ?_
 rintro n S ⟨i, hi, hn, hp, hS⟩
 rw [ev_trim, hS]
 subst hn
 exact step i hi hp
theorem callP_by {k : FuncId} {ds fs : List D} {dst : Option Nat} {R : D → Prop} (hf : frzL ds = some fs) (hl : liveAll S ds) (hp : PureAt P k fs R) (h : ∀ r, R r → J ((S.share (tagsL ds)).put dst r)) : callP P S k ds dst J := by
 unfold callP
 rw [hf]
 exact ⟨hl, hp.mono h⟩
theorem callP_eq {k : FuncId} {ds fs : List D} {dst : Option Nat} {d : D} (hf : frzL ds = some fs) (hl : liveAll S ds) (hp : PureAt P k fs (· = d)) (h : J ((S.share (tagsL ds)).put dst d)) : callP P S k ds dst J :=
 callP_by hf hl hp fun r hr => by rw [hr]; exact h
theorem callQ_by {k : FuncId} {ds fs : List D} {dst : Option Nat} (d : D) (hf : frzL ds = some fs) (hl : tagsL ds = []) (hp : PureAt P k fs fun r => r = d) (h : J (S.put dst d)) : callQ P S k ds dst J := by
 unfold callQ
 rw [hf]
 exact ⟨hl, d, hp, h⟩
theorem callF_by {k : FuncId} {ds fs : List D} {d e sz : Nat} {R : List (List D) → Prop} (hf : frzL ds = some fs) (hl : liveAll S ds) (hp : FreshAt P k fs e sz R) (h : ∀ es, R es → J (((S.share (tagsL ds)).newTag (d, e, sz) true).put (some d) (.sl (some (d, e, sz)) es))) : callF P S k ds d e sz J := by
 unfold callF
 rw [hf]
 exact ⟨hl, hp.mono h⟩
theorem callT_by {k : FuncId} {t : Tag} {es : List (List D)} {rest fs : List D} {dst : Option Nat} {R : List (List D) → D → Prop} (hf : frzL rest = some fs) (ht : S.tag t = some true) (hl : (tagsL rest).all (fun t' => (S.tag t').isSome && decide (t' ≠ t)) = true) (hp : MutAt P k t.2.1 t.2.2 es fs R)
    (h : ∀ es' r, R es' r → J (((S.share (tagsL rest)).remake t es').put dst r)) : callT P S k (.sl (some t) es :: rest) dst J := by
 unfold callT
 simp only
 rw [hf]
 exact ⟨ht, hl, hp.mono h⟩
theorem callO_by {L : Lend} {k : FuncId} {ds as : List D} {sh : List Tag} {hin : List (Nat × List D)} {dst : Option Nat} {R : D → List (Nat × List D) → List (Tag × Bool) → Prop} (h1 : lendA (L.ts.map (·.1)) ds = some (as, sh)) (h2 : seenH S L.bs L.ts L.bs = some hin) (h3 : L.ok = true)
    (h4 : (L.ts.all fun x => S.tag x.1 == some true) = true) (h5 : (sh.all fun t => (S.tag t).isSome && notIn (L.ts.map (·.1)) t) = true)
    (hp : ObjAt P k ⟨num 0 (renL (fwd L.bs) (fwd L.ts) as), hin, L.ts.map fun x => (x.2, true)⟩ as.length R) (h : ∀ r hp tg, R r hp tg → J (((S.share sh).back L hp tg).put dst (r.ren (fwd L.bk) (fwd L.tk)))) : objP P L k ds dst S J := by
 unfold objP
 rw [h1]
 simp only
 rw [h2]
 exact ⟨h3, h4, h5, hp.mono h⟩
theorem callO_eq {L : Lend} {k : FuncId} {ds as : List D} {sh : List Tag} {hin : List (Nat × List D)} {dst : Option Nat} {r : D} {hp : List (Nat × List D)} {tg : List (Tag × Bool)} (h1 : lendA (L.ts.map (·.1)) ds = some (as, sh)) (h2 : seenH S L.bs L.ts L.bs = some hin) (h3 : L.ok = true)
    (h4 : (L.ts.all fun x => S.tag x.1 == some true) = true) (h5 : (sh.all fun t => (S.tag t).isSome && notIn (L.ts.map (·.1)) t) = true)
    (hc : ObjAt P k ⟨num 0 (renL (fwd L.bs) (fwd L.ts) as), hin, L.ts.map fun x => (x.2, true)⟩ as.length fun r' hp' tg' => r' = r ∧ hp' = hp ∧ tg' = tg) (h : J (((S.share sh).back L hp tg).put dst (r.ren (fwd L.bk) (fwd L.tk)))) : objP P L k ds dst S J :=
 callO_by h1 h2 h3 h4 h5 hc (by rintro _ _ _ ⟨rfl, rfl, rfl⟩; exact h)
theorem callK_by {k : FuncId} {t : Tag} {es : List (List D)} {rest fs : List D} {dst : Option Nat} {R : List (List D) → D → Prop} (hf : frzL rest = some fs) (ht : S.tag t = some true) (hl : (tagsL rest).all (fun t' => (S.tag t').isSome && decide (t' ≠ t)) = true) (hp : TakeAt P k t.2.1 t.2.2 es fs R)
    (h : ∀ es' r, R es' r → J ((((S.share (tagsL rest)).remake t es').share [t]).put dst r)) : callK P S k (.sl (some t) es :: rest) dst J := by
 unfold callK
 simp only
 rw [hf]
 exact ⟨ht, hl, hp.mono h⟩
theorem callL_by {k : FuncId} {ds fs : List D} {dst : Option Nat} {R : D → Prop} (hf : frzL ds = some fs) (hl : liveAll S ds) (hp : PureAt P k fs R) (h : ∀ r, R r → r.plain = true ∧ J (S.put dst r)) : callL P S k ds dst J := by
 unfold callL
 rw [hf]
 exact ⟨hl, hp.mono h⟩
theorem callL_eq {k : FuncId} {ds fs : List D} {dst : Option Nat} {d : D} (hf : frzL ds = some fs) (hl : liveAll S ds) (hd : d.plain = true) (hp : PureAt P k fs (· = d)) (h : J (S.put dst d)) : callL P S k ds dst J :=
 callL_by hf hl hp fun r hr => by rw [hr]; exact ⟨hd, h⟩
def fzBO (S : St) (o : Nat) (cs : Option (List D)) : Option St := match cs with
 | some cs => match frzL cs with
  | some fs => if (tagsL cs).all (fun t => (S.tag t).isSome) = true ∧ Nat.ble o 9999999 = true then some ((S.share (tagsL cs)).fzb o fs) else none
  | none => none
 | none => none
@[go_sem] theorem fzB_mk (e : List (Nat × D)) (h : List (Nat × List D)) (g : List (Tag × Bool)) (o : Nat) : St.fzB ⟨e, h, g⟩ o = fzBO ⟨e, h, g⟩ o (lkp o h) := (rfl)
def fzBF (S : St) (o : Nat) (cs : List D) (fs : Option (List D)) : Option St := match fs with
    | some fs => if (tagsL cs).all (fun t => (S.tag t).isSome) = true ∧ Nat.ble o 9999999 = true then some ((S.share (tagsL cs)).fzb o fs) else none
    | none => none
@[go_sem] theorem fzBO_some (o : Nat) (cs : List D) : fzBO S o (some cs) = fzBF S o cs (frzL cs) := (rfl)
@[go_sem] theorem fzBF_some (o : Nat) (cs fs : List D) : fzBF S o cs (some fs) = if (tagsL cs).all (fun t => (S.tag t).isSome) = true ∧ Nat.ble o 9999999 = true then some ((S.share (tagsL cs)).fzb o fs) else none := (rfl)
def fzE (o : Nat) (fs : List D) (l : List (Nat × D)) : List (Nat × D) := l.map fun x => (x.1, x.2.fzb o fs)
def fzH (o : Nat) (fs : List D) (l : List (Nat × List D)) : List (Nat × List D) := l.map fun x => (x.1, x.2.map (D.fzb o fs))
@[go_sem] theorem fzE_nil (o : Nat) (fs : List D) : fzE o fs [] = [] := (rfl)
@[go_sem] theorem fzE_cons (o : Nat) (fs : List D) (k : Nat) (d : D) (l : List (Nat × D)) : fzE o fs ((k, d) :: l) = (k, d.fzb o fs) :: fzE o fs l := (rfl)
@[go_sem] theorem fzH_nil (o : Nat) (fs : List D) : fzH o fs [] = [] := (rfl)
@[go_sem] theorem fzH_cons (o : Nat) (fs : List D) (k : Nat) (d : List D) (l : List (Nat × List D)) : fzH o fs ((k, d) :: l) = (k, d.map (D.fzb o fs)) :: fzH o fs l := (rfl)
@[go_sem] theorem fzb_mk (e : List (Nat × D)) (h : List (Nat × List D)) (g : List (Tag × Bool)) (o : Nat) (fs : List D) : St.fzb ⟨e, h, g⟩ o fs = ⟨fzE o fs e, fzH o fs (dropK o h), g⟩ := (rfl)
attribute [go_sem] D.fzb fzbL
def ownV (S1 : St) (o off : Nat) (t : Tag) (l : List (Nat × Tag)) (cs : List D) : Option D → Option St
 | some (.val (.slice none 0 0)) => if t.1 < 999999 then (S1.setBox o (cs.set off (.sl (some t) []))).ownB o l else none
 | _ => none
def ownK (S1 : St) (o off : Nat) (t : Tag) (l : List (Nat × Tag)) : Option (List D) → Option St
 | some cs => ownV S1 o off t l cs cs[off]?
 | none => none
@[go_sem] theorem ownB_nil (o : Nat) : S.ownB o [] = some S := (rfl)
theorem ownB_cons0 (o off : Nat) (t : Tag) (l : List (Nat × Tag)) : S.ownB o ((off, t) :: l) = ownK (S.newTag t true) o off t l ((S.newTag t true).box o) := by
 simp only [St.ownB]
 unfold ownK
 cases (S.newTag t true).box o with
 | none => rfl
 | some cs =>
  simp only
  unfold ownV
  cases cs[off]? with
  | none => rfl
  | some d => rfl
def ownS (S1 : St) (o off : Nat) (t : Tag) (l : List (Nat × Tag)) : Option St := ownK S1 o off t l (S1.box o)
@[go_sem] theorem ownB_cons (o off : Nat) (t : Tag) (l : List (Nat × Tag)) : S.ownB o ((off, t) :: l) = ownS (S.newTag t true) o off t l := ownB_cons0 o off t l
@[go_sem] theorem ownS_mk (e : List (Nat × D)) (h : List (Nat × List D)) (g : List (Tag × Bool)) (o off : Nat) (t : Tag) (l : List (Nat × Tag)) : ownS ⟨e, h, g⟩ o off t l = ownK ⟨e, h, g⟩ o off t l (lkp o h) := (rfl)
@[go_sem] theorem ownK_some (o off : Nat) (t : Tag) (l : List (Nat × Tag)) (cs : List D) : ownK S o off t l (some cs) = ownV S o off t l cs cs[off]? := (rfl)
@[go_sem] theorem ownV_some (o off : Nat) (t : Tag) (l : List (Nat × Tag)) (cs : List D) : ownV S o off t l cs (some (.val (.slice none 0 0))) = if t.1 < 999999 then (S.setBox o (cs.set off (.sl (some t) []))).ownB o l else none := (rfl)
@[go_sem] theorem rept_zero {α : Type} (xs : List α) : rept xs 0 = [] := (rfl)
@[go_sem] theorem rept_succ {α : Type} (xs : List α) (n : Nat) : rept xs (n + 1) = xs ++ rept xs n := (rfl)
@[go_sem] theorem chunk_zero (sz : Nat) (cs : List D) : chunk sz 0 cs = [] := (rfl)
@[go_sem] theorem chunk_succ (sz n : Nat) (cs : List D) : chunk sz (n + 1) cs = cs.take sz :: chunk sz n (cs.drop sz) := (rfl)
attribute [go_sem] true_or or_false Option.map_none Prod.mk.injEq false_and and_false eq_self decide_not Bool.not_eq_true Bool.bne_false Bool.bne_true List.not_mem_nil List.mem_cons
end Go.Vm
