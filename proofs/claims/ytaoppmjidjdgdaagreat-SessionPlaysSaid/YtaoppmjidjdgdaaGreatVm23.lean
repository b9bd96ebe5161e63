/- The value machine, 23: how a state is reckoned: operations. -/
import Derived.Test.YtaoppmjidjdgdaaGreatVm22
set_option linter.unusedVariables false
set_option maxRecDepth 2000
namespace Go.Vm
open Go.RowKit
variable {P : Program} {S : St} {K : Ex → St → Prop} {J : St → Prop}
attribute [go_sem] pop b2sD bytesOfD loadD cut faddrD iaddrSD iaddrAD idxAD lenSD lenLD extD nilckD binD binI binS binBD binPD eqV eqDs unD shI minmaxD max2D D.cl D.one St.live slcSD slcD slcAD boundD idxSD fin finF finT finK partD resD oneD D.frz frzL D.tags tagsL fillD
theorem putCells_go {α : Type} (vs : List α) : ∀ (cs : List α) (off k : Nat), (vs.zipIdx k).foldl (fun cs x => cs.set (off + x.2) x.1) cs = (vs.zipIdx 0).foldl (fun cs x => cs.set (off + k + x.2) x.1) cs := by
 induction vs with
 | nil => intro cs off k; rfl
 | cons v vs ih =>
  intro cs off k
  simp only [List.zipIdx_cons, List.foldl_cons, Nat.add_zero, Nat.zero_add]
  rw [ih _ off (k + 1), ih _ (off + k) 1]
  simp only [Nat.add_assoc]
@[go_sem] theorem putCells_nil {α : Type} (cs : List α) (off : Nat) : putCells cs off [] = cs := (rfl)
@[go_sem] theorem putCells_cons {α : Type} (cs : List α) (off : Nat) (v : α) (vs : List α) : putCells cs off (v :: vs) = putCells (cs.set off v) (off + 1) vs := by
 simp only [putCells, List.zipIdx_cons, List.foldl_cons, Nat.add_zero, Nat.zero_add]
 exact putCells_go vs _ off 1
def stO (o : Option (List D)) (f : List D → Prop) : Prop := match o with | some ds => f ds | none => False
@[go_sem] theorem stO_some (ds : List D) (f : List D → Prop) : stO (some ds) f = f ds := (rfl)
def clO (o : Option D) : Option (List D) := match o with | some d => d.cl | none => none
@[go_sem] theorem clO_some (d : D) : clO (some d) = d.cl := (rfl)
@[go_sem] theorem v_nilsl (e sz d : Nat) : vstep P (.nilsl e sz) (some d) S J = J ((S.newTag (d, e, sz) true).put (some d) (.sl (some (d, e, sz)) [])) := (rfl)
@[go_sem] theorem v_alloc (t : TypeId) (z : List D) (d : Nat) : vstep P (.alloc t z) (some d) S J = J ((S.newBox d (z.map (D.keep (fun y => decide (y ≠ d)) fun _ => true))).put (some d) (.ptr d 0)) := (rfl)
@[go_sem] theorem v_box (t : TypeId) (sz d : Nat) (x : Operand) : vstep P (.box t sz x) (some d) S J = stO (clO (look S x)) fun ds => ds.length = sz ∧ J ((S.newBox d (ds.map (D.keep (fun y => decide (y ≠ d)) fun _ => true))).put (some d) (.ptr d 0)) := by
 simp only [vstep]
 cases look S x with
 | none => rfl
 | some v => simp only [clO]; cases v.cl <;> rfl
def storeP (S : St) (sz : Nat) (p : Option D) (v : Option (List D)) (J : St → Prop) : Prop :=
 match p, v with
 | some (.ptr o off), some ds => match S.box o with
  | some cs => ds.length = sz ∧ off + sz ≤ cs.length ∧ J (S.setBox o (putCells cs off ds))
  | none => False
 | some (.rp (some (t, i)) cs off), some ds => match frzL ds with
  | some fs => S.tag t = some true ∧ ds.length = sz ∧ off + sz ≤ cs.length ∧ (tagsL ds).all (fun t' => (S.tag t').isSome && decide (t' ≠ t)) = true ∧ J ((S.share (tagsL ds)).upd t i off fs)
  | none => False
 | _, _ => False
@[go_sem] theorem v_store (sz : Nat) (x v : Operand) (dst : Option Nat) : vstep P (.store sz x v) dst S J = storeP S sz (look S x) (clO (look S v)) J := by
 simp only [vstep, storeP]
 cases look S x with
 | none => rfl
 | some p =>
  cases look S v with
  | none => cases p <;> (try rfl); rename_i own _ _; cases own <;> rfl
  | some d =>
   simp only [clO]
   cases p with
   | ptr o off => cases hb : S.box o <;> cases hd : d.cl <;> simp only [hd, hb]
   | rp own cs off =>
    cases own with
    | none => cases d.cl <;> rfl
    | some x => cases hd : d.cl <;> simp only [hd]; cases frzL _ <;> rfl
   | _ => cases d.cl <;> rfl
@[go_sem] theorem storeP_ptr (sz o off : Nat) (ds : List D) (e : List (Nat × D)) (h : List (Nat × List D)) (g : List (Tag × Bool)) : storeP ⟨e, h, g⟩ sz (some (.ptr o off)) (some ds) J = stO (lkp o h) fun cs => ds.length = sz ∧ off + sz ≤ cs.length ∧ J (St.setBox ⟨e, h, g⟩ o (putCells cs off ds)) := by
 simp only [storeP, box_mk]
 cases lkp o h <;> rfl
@[go_sem] theorem storeP_rp (sz i off : Nat) (t : Tag) (ds cs : List D) : storeP S sz (some (.rp (some (t, i)) cs off)) (some ds) J = stO (frzL ds) fun fs => S.tag t = some true ∧ ds.length = sz ∧ off + sz ≤ cs.length ∧ (tagsL ds).all (fun t' => (S.tag t').isSome && decide (t' ≠ t)) = true ∧ J ((S.share (tagsL ds)).upd t i off fs) := by
 simp only [storeP]
 cases frzL ds <;> rfl
def bsliceP (S : St) (d e sz len : Nat) (cs : Option (List D)) (J : St → Prop) : Prop :=
 match cs with
 | some cs => match frzL cs with
  | some fs => (tagsL cs).all (fun t => (S.tag t).isSome) = true ∧ fs.all D.one = true ∧ J (((S.share (tagsL cs)).newTag (d, e, sz) true).put (some d) (.sl (some (d, e, sz)) (chunk sz len fs)))
  | none => False
 | none => False
@[go_sem] theorem v_bslice (e sz len d : Nat) (z : List D) (ps : List (Nat × Nat × Operand)) : vstep P (.bslice e sz z len ps) (some d) S J = bsliceP S d e sz len (fillD S (rept z len) ps) J := by
 simp only [vstep, bsliceP]
 cases fillD S (rept z len) ps <;> rfl
@[go_sem] theorem bsliceP_some (d e sz len : Nat) (cs : List D) : bsliceP S d e sz len (some cs) J = stO (frzL cs) fun fs => (tagsL cs).all (fun t => (S.tag t).isSome) = true ∧ fs.all D.one = true ∧ J (((S.share (tagsL cs)).newTag (d, e, sz) true).put (some d) (.sl (some (d, e, sz)) (chunk sz len fs))) := by
 simp only [bsliceP]
 cases frzL cs <;> rfl
def qbsliceP (S : St) (dst : Option Nat) (sz len : Nat) (cs : Option (List D)) (J : St → Prop) : Prop :=
 match cs with
 | some cs => match frzL cs with
  | some fs => tagsL cs = [] ∧ fs.all D.one = true ∧ J (S.put dst (.sl none (chunk sz len fs)))
  | none => False
 | none => False
@[go_sem] theorem q_bslice (e sz len : Nat) (dst : Option Nat) (z : List D) (ps : List (Nat × Nat × Operand)) : qstep P (.bslice e sz z len ps) dst S J = qbsliceP S dst sz len (fillD S (rept z len) ps) J := by
 simp only [qstep, QV, qbsliceP]
 cases fillD S (rept z len) ps with
 | none => simp
 | some cs =>
  cases hf : frzL cs with
  | none => simp [hf]
  | some fs =>
   apply propext
   constructor
   ·rintro ⟨d, ⟨cs', fs', h1, h2, h3, h4, rfl⟩, h6⟩
    injection h1 with h1; subst h1
    rw [hf] at h2; injection h2 with h2; subst h2
    simp only [hf]
    exact ⟨h3, h4, h6⟩
   ·intro h
    simp only [hf] at h
    exact ⟨_, ⟨cs, fs, rfl, hf, h.1, h.2.1, rfl⟩, h.2.2⟩
@[go_sem] theorem qbsliceP_some (dst : Option Nat) (sz len : Nat) (cs : List D) : qbsliceP S dst sz len (some cs) J = stO (frzL cs) fun fs => tagsL cs = [] ∧ fs.all D.one = true ∧ J (S.put dst (.sl none (chunk sz len fs))) := by
 simp only [qbsliceP]
 cases frzL cs <;> rfl
def appendP (S : St) (e sz bytes : Nat) (dst : Option Nat) (x y : Option D) (J : St → Prop) : Prop :=
 match x, y with
 | some (.sl (some t) es), some (.sl tag ys) => t.2 = (e, sz) ∧ Nat.ble t.1 999998 = true ∧ (S.tag t).isSome = true ∧ tag.all (fun t' => (S.tag t').isSome) = true ∧ (∀ e ∈ es, e.length = sz) ∧ (∀ y ∈ ys, y.length = sz) ∧ es.length + ys.length ≤ 140737488355328 ∧
       (es.length + ys.length) * bytes ≤ 140737488355328 ∧ J ((S.only (fun _ => true) (fun y => decide (y ≠ t))).put dst (.sl (some t) (es ++ ys)))
 | _, _ => False
def clrS (sz : Nat) (zero : List D) (dst : Option Nat) (x : Option D) (S : St) (J : St → Prop) : Prop := match x with
 | some (.part t lo n es) => S.tag t = some true ∧ t.2.2 = sz ∧ lo + n ≤ es.length ∧ zero.all D.one = true ∧ J ((S.remake t (es.take lo ++ List.replicate n zero ++ es.drop (lo + n))).put dst .undef)
 | _ => False
@[go_sem] theorem v_clr (sz : Nat) (zero : List D) (x : Operand) (dst : Option Nat) : vstep P (.xop (.clr sz zero x)) dst S J = clrS sz zero dst (look S x) S J := (rfl)
@[go_sem] theorem clrS_part (sz : Nat) (zero : List D) (dst : Option Nat) (t : Tag) (lo n : Nat) (es : List (List D)) : clrS sz zero dst (some (.part t lo n es)) S J = (S.tag t = some true ∧ t.2.2 = sz ∧ lo + n ≤ es.length ∧ zero.all D.one = true ∧ J ((S.remake t (es.take lo ++ List.replicate n zero ++ es.drop (lo + n))).put dst .undef)) := (rfl)
def slc3S (lo hi : Option Operand) (mx : Operand) (dst : Option Nat) (x : Option D) (S : St) (J : St → Prop) : Prop := match x with
 | some (.sl tag es) => tag.all (fun t => (S.tag t).isSome) = true ∧ ∃ m h l, boundD S 0 es.length (some mx) = some m ∧ hi.isSome = true ∧ boundD S 0 m hi = some h ∧ boundD S 0 h lo = some l ∧ J (S.put dst .undef)
 | _ => False
@[go_sem] theorem v_slc3 (sz : Nat) (x : Operand) (lo hi : Option Operand) (mx : Operand) (dst : Option Nat) : vstep P (.xop (.slc3 sz x lo hi mx)) dst S J = slc3S lo hi mx dst (look S x) S J := (rfl)
theorem slc3S_by {lo : Option Operand} {hi mx : Operand} {dst : Option Nat} {tag : Option Tag} {es : List (List D)} (m h l : Nat) (h0 : tag.all (fun t => (S.tag t).isSome) = true) (h1 : boundD S 0 es.length (some mx) = some m) (h3 : boundD S 0 m (some hi) = some h) (h4 : boundD S 0 h lo = some l) (h5 : J (S.put dst .undef)) :
    slc3S lo (some hi) mx dst (some (.sl tag es)) S J := ⟨h0, m, h, l, h1, rfl, h3, h4, h5⟩
def appPS (e sz : Nat) (dst : Option Nat) (x y : Option D) (S : St) (J : St → Prop) : Prop := match x, y with
 | some (.part t lo i es), some (.part t2 j n es2) => t2 = t ∧ lo = 0 ∧ S.tag t = some true ∧ t.2 = (e, sz) ∧ 0 < es.length ∧ i + n ≤ es.length ∧ j + n ≤ es.length ∧
       J ((S.remake t (es.take i ++ (es2.drop j).take n ++ es.drop (i + n))).put dst (.part t 0 (i + n) (es.take i ++ (es2.drop j).take n ++ es.drop (i + n))))
 | _, _ => False
@[go_sem] theorem v_appP (e sz bytes : Nat) (x y : Operand) (dst : Option Nat) : vstep P (.xop (.appP e sz bytes x y)) dst S J = appPS e sz dst (look S x) (look S y) S J := (rfl)
@[go_sem] theorem appPS_part (e sz : Nat) (dst : Option Nat) (t t2 : Tag) (lo i j n : Nat) (es es2 : List (List D)) : appPS e sz dst (some (.part t lo i es)) (some (.part t2 j n es2)) S J = (t2 = t ∧ lo = 0 ∧ S.tag t = some true ∧ t.2 = (e, sz) ∧ 0 < es.length ∧ i + n ≤ es.length ∧ j + n ≤ es.length ∧
        J ((S.remake t (es.take i ++ (es2.drop j).take n ++ es.drop (i + n))).put dst (.part t 0 (i + n) (es.take i ++ (es2.drop j).take n ++ es.drop (i + n))))) := (rfl)
def shrO (S : St) (k : Nat) (o : Option D) : Option St := match o with
 | some (.part t lo n es) => if lo = 0 ∧ 0 < es.length ∧ n ≤ es.length ∧ S.tag t = some true ∧ Nat.ble t.1 999998 = true then some ((S.newTag t true).put (some k) (.sl (some t) (es.take n))) else none
 | _ => none
@[go_sem] theorem shr_mk (e : List (Nat × D)) (h : List (Nat × List D)) (g : List (Tag × Bool)) (k : Nat) : St.shr ⟨e, h, g⟩ k = shrO ⟨e, h, g⟩ k (lkp k e) := (rfl)
@[go_sem] theorem shrO_part (k : Nat) (t : Tag) (lo n : Nat) (es : List (List D)) : shrO S k (some (.part t lo n es)) = if lo = 0 ∧ 0 < es.length ∧ n ≤ es.length ∧ S.tag t = some true ∧ Nat.ble t.1 999998 = true then some ((S.newTag t true).put (some k) (.sl (some t) (es.take n))) else none := (rfl)
def mkmapS (dst : Option Nat) (S : St) (J : St → Prop) : Prop := match dst with
 | some d => J ((S.newBox (mapB + d) [.mpc [], .undef, .undef]).put dst (.mh (mapB + d)))
 | none => False
@[go_sem] theorem v_mkmap (dst : Option Nat) : vstep P (.xop .mkmap) dst S J = mkmapS dst S J := (rfl)
@[go_sem] theorem mkmapS_some (d : Nat) : mkmapS (some d) S J = J ((S.newBox (10000000 + d) [.mpc [], .undef, .undef]).put (some d) (.mh (10000000 + d))) := (rfl)
theorem itB_le (o : Nat) : (o < itB) = (o ≤ 19999999) := by apply propext; unfold itB; omega
def mgetF (zero : D) (ok : Bool) (dst : Option Nat) (r : Option (Option (Nat × D))) (S : St) (J : St → Prop) : Prop := match r with
 | some r => J (S.put dst (mres ok zero r))
 | none => False
@[go_sem] theorem mgetF_some (zero : D) (ok : Bool) (dst : Option Nat) (r : Option (Nat × D)) : mgetF zero ok dst (some r) S J = J (S.put dst (mres ok zero r)) := (rfl)
def mgetB (ks : List SK) (zero : D) (ok : Bool) (dst : Option Nat) (o : Nat) (kd : D) (cs : Option (List D)) (S : St) (J : St → Prop) : Prop := match cs with
 | some (.mpc es :: _) => o < itB ∧ (eqKey ks kd kd).isSome = true ∧ mgetF zero ok dst (findE ks kd es 0) S J
 | _ => False
def mgetS (ks : List SK) (zero : D) (ok : Bool) (dst : Option Nat) (m k : Option D) (S : St) (J : St → Prop) : Prop := match m, k with
 | some (.mh o), some kd => mgetB ks zero ok dst o kd (S.box o) S J
 | _, _ => False
@[go_sem] theorem mgetS_mh (ks : List SK) (zero : D) (ok : Bool) (dst : Option Nat) (o : Nat) (kd : D) : mgetS ks zero ok dst (some (.mh o)) (some kd) S J = mgetB ks zero ok dst o kd (S.box o) S J := (rfl)
@[go_sem] theorem v_mget (ks : List SK) (zero : D) (ok : Bool) (m k : Operand) (dst : Option Nat) : vstep P (.xop (.mget ks zero ok m k)) dst S J = mgetS ks zero ok dst (look S m) (look S k) S J := (rfl)
def mputF (dst : Option Nat) (o : Nat) (kd fd : D) (ts : List Tag) (es : List (List D)) (r : Option (Option (Nat × D))) (S : St) (J : St → Prop) : Prop := match r with
 | some r => J (((S.share ts).setBox o [.mpc (putE kd fd es r), .undef, .undef]).put dst .undef)
 | none => False
@[go_sem] theorem mputF_some (dst : Option Nat) (o : Nat) (kd fd : D) (ts : List Tag) (es : List (List D)) (r : Option (Nat × D)) : mputF dst o kd fd ts es (some r) S J = J (((S.share ts).setBox o [.mpc (putE kd fd es r), .undef, .undef]).put dst .undef) := (rfl)
def mputB (ks : List SK) (dst : Option Nat) (o : Nat) (kd vd : D) (cs : Option (List D)) (fs : Option (List D)) (S : St) (J : St → Prop) : Prop := match cs, fs with
 | some [.mpc es, _, _], some [fd] => o < itB ∧ (eqKey ks kd kd).isSome = true ∧ (tagsL [vd]).all (fun t => (S.tag t).isSome) = true ∧ mputF dst o kd fd (tagsL [vd]) es (findE ks kd es 0) S J
 | _, _ => False
@[go_sem] theorem mputB_mpc (ks : List SK) (dst : Option Nat) (o : Nat) (kd vd fd d1 d2 : D) (es : List (List D)) : mputB ks dst o kd vd (some [.mpc es, d1, d2]) (some [fd]) S J =
    (o ≤ 19999999 ∧ (eqKey ks kd kd).isSome = true ∧ (tagsL [vd]).all (fun t => (S.tag t).isSome) = true ∧ mputF dst o kd fd (tagsL [vd]) es (findE ks kd es 0) S J) := by
 rw [← itB_le]; rfl
def mputS (ks : List SK) (dst : Option Nat) (m k v : Option D) (S : St) (J : St → Prop) : Prop := match m, k, v with
 | some (.mh o), some kd, some vd => mputB ks dst o kd vd (S.box o) (frzL [vd]) S J
 | _, _, _ => False
@[go_sem] theorem mputS_mh (ks : List SK) (dst : Option Nat) (o : Nat) (kd vd : D) : mputS ks dst (some (.mh o)) (some kd) (some vd) S J = mputB ks dst o kd vd (S.box o) (frzL [vd]) S J := (rfl)
@[go_sem] theorem v_mput (ks : List SK) (m k v : Operand) (dst : Option Nat) : vstep P (.xop (.mput ks m k v)) dst S J = mputS ks dst (look S m) (look S k) (look S v) S J := (rfl)
def mdelF (dst : Option Nat) (o : Nat) (es : List (List D)) (r : Option (Option (Nat × D))) (S : St) (J : St → Prop) : Prop := match r with
 | some r => J ((S.setBox o [.mpc (delE0 es r), .undef, .undef]).put dst .undef)
 | none => False
@[go_sem] theorem mdelF_some (dst : Option Nat) (o : Nat) (es : List (List D)) (r : Option (Nat × D)) : mdelF dst o es (some r) S J = J ((S.setBox o [.mpc (delE0 es r), .undef, .undef]).put dst .undef) := (rfl)
def mdelB (ks : List SK) (dst : Option Nat) (o : Nat) (kd : D) (cs : Option (List D)) (S : St) (J : St → Prop) : Prop := match cs with
 | some [.mpc es, _, _] => o < itB ∧ (eqKey ks kd kd).isSome = true ∧ mdelF dst o es (findE ks kd es 0) S J
 | _ => False
def mdelS (ks : List SK) (dst : Option Nat) (m k : Option D) (S : St) (J : St → Prop) : Prop := match m, k with
 | some (.mh o), some kd => mdelB ks dst o kd (S.box o) S J
 | _, _ => False
@[go_sem] theorem mdelS_mh (ks : List SK) (dst : Option Nat) (o : Nat) (kd : D) : mdelS ks dst (some (.mh o)) (some kd) S J = mdelB ks dst o kd (S.box o) S J := (rfl)
@[go_sem] theorem v_mdel (ks : List SK) (m k : Operand) (dst : Option Nat) : vstep P (.xop (.mdel ks m k)) dst S J = mdelS ks dst (look S m) (look S k) S J := (rfl)
def mlenB (dst : Option Nat) (o : Nat) (cs : Option (List D)) (S : St) (J : St → Prop) : Prop := match cs with
 | some (.mpc es :: _) => o < itB ∧ J (S.put dst (.val (.int .i64 es.length)))
 | _ => False
def mlenS (dst : Option Nat) (m : Option D) (S : St) (J : St → Prop) : Prop := match m with
 | some (.mh o) => mlenB dst o (S.box o) S J
 | _ => False
@[go_sem] theorem mlenS_mh (dst : Option Nat) (o : Nat) : mlenS dst (some (.mh o)) S J = mlenB dst o (S.box o) S J := (rfl)
@[go_sem] theorem v_mlen (m : Operand) (dst : Option Nat) : vstep P (.xop (.mlen m)) dst S J = mlenS dst (look S m) S J := (rfl)
def mrangeB (d o : Nat) (cs : Option (List D)) (S : St) (J : St → Prop) : Prop := match cs with
 | some [.mpc es, _, _] => o < itB ∧ ∀ (st : List Nat) (c : Nat), st.length = es.length → st.Nodup → J (((S.setBox o [.mpc es, stD st, .val (goInt (c : Int))]).newBox (itB + d) [.mh o, stD [], .val (goInt (c : Int)), .val (goInt (c : Int))]).put (some d) (.mh (itB + d)))
 | _ => False
def mrangeS (d : Nat) (m : Option D) (S : St) (J : St → Prop) : Prop := match m with
 | some (.mh o) => mrangeB d o (S.box o) S J
 | _ => False
@[go_sem] theorem mrangeS_mh (d o : Nat) : mrangeS d (some (.mh o)) S J = mrangeB d o (S.box o) S J := (rfl)
def nilIS (neg : Bool) (dst : Option Nat) (x : Option D) (S : St) (J : St → Prop) : Prop := match x with
 | some (.val .nilIface) => J (S.put dst (.val (.bool (!neg))))
 | some (.val (.iface _ _)) => J (S.put dst (.val (.bool neg)))
 | _ => False
@[go_sem] theorem nilIS_nil (neg : Bool) (dst : Option Nat) : nilIS neg dst (some (.val .nilIface)) S J = J (S.put dst (.val (.bool (!neg)))) := (rfl)
@[go_sem] theorem nilIS_iface (neg : Bool) (dst : Option Nat) (t : TypeId) (y : Value) : nilIS neg dst (some (.val (.iface t y))) S J = J (S.put dst (.val (.bool neg))) := (rfl)
@[go_sem] theorem v_isnilI (neg : Bool) (x : Operand) (dst : Option Nat) : vstep P (.xop (.isnilI neg x)) dst S J = nilIS neg dst (look S x) S J := (rfl)
theorem eqKey_one (k : SK) (x y : Value) : eqKey [k] (.val x) (.val y) = eqV k x y := (rfl)
theorem eqKey_two (k k' : SK) (ks : List SK) (xs ys : List D) : eqKey (k :: k' :: ks) (.agg xs) (.agg ys) = eqDs (k :: k' :: ks) xs ys := (rfl)
attribute [go_sem] eqKey_one eqKey_two Option.isSome_some
@[go_sem] theorem mres_some (zero : D) (x : Nat × D) : mres true zero (some x) = .tup [x.2, .val (.bool true)] := (rfl)
@[go_sem] theorem mres_some' (zero : D) (x : Nat × D) : mres false zero (some x) = x.2 := (rfl)
@[go_sem] theorem mres_none (zero : D) : mres true zero none = .tup [zero, .val (.bool false)] := (rfl)
@[go_sem] theorem mres_none' (zero : D) : mres false zero none = zero := (rfl)
@[go_sem] theorem v_append (e sz bytes : Nat) (dst : Option Nat) (x y : Operand) : vstep P (.append e sz bytes x y) dst S J = appendP S e sz bytes dst (look S x) (look S y) J := (rfl)
@[go_sem] theorem appendP_some (e sz bytes : Nat) (dst : Option Nat) (t : Tag) (tag : Option Tag) (es ys : List (List D)) : appendP S e sz bytes dst (some (.sl (some t) es)) (some (.sl tag ys)) J =
    (t.2 = (e, sz) ∧ Nat.ble t.1 999998 = true ∧ (S.tag t).isSome = true ∧ tag.all (fun t' => (S.tag t').isSome) = true ∧ (∀ e ∈ es, e.length = sz) ∧ (∀ y ∈ ys, y.length = sz) ∧ es.length + ys.length ≤ 140737488355328 ∧
        (es.length + ys.length) * bytes ≤ 140737488355328 ∧ J ((S.only (fun _ => true) (fun y => decide (y ≠ t))).put dst (.sl (some t) (es ++ ys)))) := rfl
def isnilP (S : St) (dst : Option Nat) (neg : Bool) (x : Option D) (J : St → Prop) : Prop :=
 match x with
 | some (.sl tag es) => tag.all (fun t => (S.tag t).isSome) = true ∧ ∀ b, (b = true → es = []) → J (S.put dst (.val (.bool (b != neg))))
 | _ => False
@[go_sem] theorem v_isnil (neg : Bool) (dst : Option Nat) (x : Operand) : vstep P (.isnil neg x) dst S J = isnilP S dst neg (look S x) J := (rfl)
@[go_sem] theorem isnilP_some (dst : Option Nat) (neg : Bool) (tag : Option Tag) (es : List (List D)) : isnilP S dst neg (some (.sl tag es)) J = (tag.all (fun t => (S.tag t).isSome) = true ∧ ∀ b, (b = true → es = []) → J (S.put dst (.val (.bool (b != neg))))) := (rfl)
def liveAll (S : St) (ds : List D) : Prop := (tagsL ds).all (fun t => (S.tag t).isSome) = true
def callP (P : Program) (S : St) (k : FuncId) (ds : List D) (dst : Option Nat) (J : St → Prop) : Prop :=
 stO (frzL ds) fun fs => liveAll S ds ∧ PureAt P k fs fun r => J ((S.share (tagsL ds)).put dst r)
def callF (P : Program) (S : St) (k : FuncId) (ds : List D) (d e sz : Nat) (J : St → Prop) : Prop :=
 stO (frzL ds) fun fs => liveAll S ds ∧ FreshAt P k fs e sz fun es => J (((S.share (tagsL ds)).newTag (d, e, sz) true).put (some d) (.sl (some (d, e, sz)) es))
def callT (P : Program) (S : St) (k : FuncId) (ds : List D) (dst : Option Nat) (J : St → Prop) : Prop :=
 match ds with
 | .sl (some t) es :: rest => stO (frzL rest) fun fs => S.tag t = some true ∧ (tagsL rest).all (fun t' => (S.tag t').isSome && decide (t' ≠ t)) = true ∧ MutAt P k t.2.1 t.2.2 es fs fun es' r => J (((S.share (tagsL rest)).remake t es').put dst r)
 | _ => False
def atFn (f : Option D) (as : Option (List D)) (c : FuncId → List D → Prop) : Prop :=
 match f, as with
 | some (.fn k first caps), some ds => c k (first ++ ds ++ caps)
 | _, _ => False
@[go_sem] theorem atFn_some (k : FuncId) (first caps ds : List D) (c : FuncId → List D → Prop) : atFn (some (.fn k first caps)) (some ds) c = c k (first ++ ds ++ caps) := (rfl)
@[go_sem] theorem v_call (f : Operand) (args : List Operand) (dst : Option Nat) : vstep P (.call f args .pure) dst S J = atFn (look S f) (looks S args) fun k ds => callP P S k ds dst J := by
 simp only [vstep, atFn]
 cases look S f with
 | none => rfl
 | some d =>
  cases d with
  | fn k first caps =>
   cases looks S args with
   | none => rfl
   | some ds =>
    simp only [callP, stO]
    cases frzL (first ++ ds ++ caps) <;> rfl
  | _ => rfl
@[go_sem] theorem v_callF (f : Operand) (args : List Operand) (d e sz : Nat) : vstep P (.call f args (.fresh e sz)) (some d) S J = atFn (look S f) (looks S args) fun k ds => callF P S k ds d e sz J := by
 simp only [vstep, atFn]
 cases look S f with
 | none => rfl
 | some d =>
  cases d with
  | fn k first caps =>
   cases looks S args with
   | none => rfl
   | some ds =>
    simp only [callF, stO]
    cases frzL (first ++ ds ++ caps) <;> rfl
  | _ => rfl
theorem v_copy_by {f : Operand} {args : List Operand} {d e sz : Nat} {k : FuncId} {t : Tag} {es : List (List D)} (hf : look S f = some (.fn k [] [])) (ha : looks S args = some [.sl (some t) es]) (ht : t.2 = (e, sz)) (hl : (S.tag t).isSome = true) (hc : CopyAt P k e sz es.length)
    (h : J ((S.newTag (d, e, sz) true).put (some d) (.sl (some (d, e, sz)) es))) : vstep P (.call f args (.copy e sz)) (some d) S J := by
 simp only [vstep, hf, ha, List.append_nil, List.nil_append]
 exact ⟨ht, hl, hc, h⟩
@[go_sem] theorem v_callO (f : Operand) (args : List Operand) (dst : Option Nat) (bs : List (Nat × Nat)) (ts : List (Tag × Tag)) (nb : List (Nat × Nat)) (nt : List (Tag × Tag)) : vstep P (.call f args (.obj bs ts nb nt)) dst S J = atFn (look S f) (looks S args) fun k ds => objP P ⟨bs, ts, nb, nt⟩ k ds dst S J := by
 simp only [vstep, atFn]
 cases look S f with
 | none => rfl
 | some d =>
  cases d with
  | fn k first caps => cases looks S args <;> rfl
  | _ => rfl
def finOP (os : List Nat) (ts : List Tag) (R : D → List (Nat × List D) → List (Tag × Bool) → Prop) (S : St) (es : Option (List D)) : Prop := match es with
 | some es => R (oneD es) ((pickL os S.hp).filter fun x => !x.2.isEmpty) (pickL ts S.tg)
 | none => False
def fullH (l : List (Nat × List D)) : List (Nat × List D) := l.filter fun x => !x.2.isEmpty
@[go_sem] theorem fullH_nil : fullH [] = [] := (rfl)
@[go_sem] theorem fullH_cons (o : Nat) (d : D) (ds : List D) (l : List (Nat × List D)) : fullH ((o, d :: ds) :: l) = (o, d :: ds) :: fullH l := (rfl)
@[go_sem] theorem finOP_some (os : List Nat) (ts : List Tag) (R : D → List (Nat × List D) → List (Tag × Bool) → Prop) (e : List (Nat × D)) (h : List (Nat × List D)) (g : List (Tag × Bool)) (es : List D) : finOP os ts R ⟨e, h, g⟩ (some es) = R (oneD es) (fullH (pickL os h)) (pickL ts g) := (rfl)
@[go_sem] theorem finO_ret (rs : List MOp) (os : List Nat) (ts : List Tag) (R : D → List (Nat × List D) → List (Tag × Bool) → Prop) : finO rs os ts R .ret S = finOP os ts R S (resD S rs) := by
 simp only [finO, finOP]
 cases resD S rs <;> rfl
def atFnV (f : Option D) (args : List Operand) (as : Option (List D)) (c : FuncId → List D → Prop) : Prop :=
 match f, as with
 | some (.fn k first caps), some ds => c k (first ++ exactL args ds ++ caps)
 | _, _ => False
@[go_sem] theorem atFnV_some (k : FuncId) (first caps ds : List D) (args : List Operand) (c : FuncId → List D → Prop) : atFnV (some (.fn k first caps)) args (some ds) c = c k (first ++ exactL args ds ++ caps) := (rfl)
@[go_sem] theorem exactL_nil : exactL [] [] = [] := (rfl)
@[go_sem] theorem exactL_const (v : Value) (xs : List Operand) (d : D) (ds : List D) : exactL (.const v :: xs) (d :: ds) = .val v :: exactL xs ds := (rfl)
@[go_sem] theorem exactL_tmp (t : Nat) (xs : List Operand) (d : D) (ds : List D) : exactL (.tmp t :: xs) (d :: ds) = d :: exactL xs ds := (rfl)
@[go_sem] theorem exactL_func (t : FuncId) (xs : List Operand) (d : D) (ds : List D) : exactL (.func t :: xs) (d :: ds) = d :: exactL xs ds := (rfl)
@[go_sem] theorem v_bad (dst : Option Nat) : vstep P .bad dst S J = False := (rfl)
@[go_sem] theorem ev_bad : ev P .bad S K = False := (rfl)
@[go_sem] theorem v_callT (f : Operand) (args : List Operand) (dst : Option Nat) : vstep P (.call f args .turn) dst S J = atFn (look S f) (looks S args) fun k ds => callT P S k ds dst J := by
 simp only [vstep, atFn]
 cases look S f with
 | none => rfl
 | some d =>
  cases d with
  | fn k first caps =>
   cases looks S args with
   | none => rfl
   | some ds =>
    simp only [callT]
    cases first ++ ds ++ caps with
    | nil => rfl
    | cons d0 rest =>
     cases d0 with
     | sl tag es =>
      cases tag with
      | none => rfl
      | some t => simp only [stO]; cases frzL rest <;> rfl
     | _ => rfl
  | _ => rfl
def callK (P : Program) (S : St) (k : FuncId) (ds : List D) (dst : Option Nat) (J : St → Prop) : Prop :=
 match ds with
 | .sl (some t) es :: rest => stO (frzL rest) fun fs => S.tag t = some true ∧ (tagsL rest).all (fun t' => (S.tag t').isSome && decide (t' ≠ t)) = true ∧ TakeAt P k t.2.1 t.2.2 es fs fun es' r => J ((((S.share (tagsL rest)).remake t es').share [t]).put dst r)
 | _ => False
def callL (P : Program) (S : St) (k : FuncId) (ds : List D) (dst : Option Nat) (J : St → Prop) : Prop :=
 stO (frzL ds) fun fs => liveAll S ds ∧ PureAt P k fs fun r => r.plain = true ∧ J (S.put dst r)
@[go_sem] theorem v_callL (f : Operand) (args : List Operand) (dst : Option Nat) : vstep P (.call f args .lend) dst S J = atFn (look S f) (looks S args) fun k ds => callL P S k ds dst J := by
 simp only [vstep, atFn]
 cases look S f with
 | none => rfl
 | some d =>
  cases d with
  | fn k first caps =>
   cases looks S args with
   | none => rfl
   | some ds =>
    simp only [callL, stO]
    cases frzL (first ++ ds ++ caps) <;> rfl
  | _ => rfl
@[go_sem] theorem v_callK (f : Operand) (args : List Operand) (dst : Option Nat) : vstep P (.call f args .take) dst S J = atFn (look S f) (looks S args) fun k ds => callK P S k ds dst J := by
 simp only [vstep, atFn]
 cases look S f with
 | none => rfl
 | some d =>
  cases d with
  | fn k first caps =>
   cases looks S args with
   | none => rfl
   | some ds =>
    simp only [callK]
    cases first ++ ds ++ caps with
    | nil => rfl
    | cons d0 rest =>
     cases d0 with
     | sl tag es =>
      cases tag with
      | none => rfl
      | some t => simp only [stO]; cases frzL rest <;> rfl
     | _ => rfl
  | _ => rfl
def callQ (P : Program) (S : St) (k : FuncId) (ds : List D) (dst : Option Nat) (J : St → Prop) : Prop :=
 stO (frzL ds) fun fs => tagsL ds = [] ∧ ∃ d, PureAt P k fs (fun r => r = d) ∧ J (S.put dst d)
@[go_sem] theorem q_call (f : Operand) (args : List Operand) (dst : Option Nat) : qstep P (.call f args .pure) dst S J = atFn (look S f) (looks S args) fun k ds => callQ P S k ds dst J := by
 simp only [qstep, QV, atFn]
 cases hf : look S f with
 | none => simp
 | some d =>
  cases d with
  | fn k first caps =>
   cases ha : looks S args with
   | none => simp
   | some ds =>
    simp only [callQ, stO]
    apply propext
    constructor
    ·rintro ⟨d, ⟨_, k', first', caps', ds', fs, h1, h2, h3, h4, h5⟩, h6⟩
     injection h1 with h1; injection h1 with e1 e2 e3; subst e1; subst e2; subst e3
     injection h2 with h2; subst h2
     rw [h3]
     exact ⟨h4, d, h5, h6⟩
    ·intro h
     split at h
     ·rename_i fs hfs
      obtain ⟨h4, d, h5, h6⟩ := h
      exact ⟨d, ⟨trivial, k, first, caps, ds, fs, rfl, rfl, hfs, h4, h5⟩, h6⟩
     ·exact h.elim
  | _ => simp
@[go_sem] theorem one_int (k : IntKind) (n : Int) : (Value.int k n).oneCell' = true := (rfl)
@[go_sem] theorem one_bool (b : Bool) : (Value.bool b).oneCell' = true := (rfl)
@[go_sem] theorem one_string (b : ByteArray) : (Value.string b).oneCell' = true := (rfl)
@[go_sem] theorem one_ptr (b : Option Addr) : (Value.pointer b).oneCell' = true := (rfl)
@[go_sem] theorem setBox_mk (e : List (Nat × D)) (h : List (Nat × List D)) (g : List (Tag × Bool)) (o : Nat) (cs : List D) : St.setBox ⟨e, h, g⟩ o cs = ⟨e, (o, cs) :: dropK o h, g⟩ := (rfl)
@[go_sem] theorem share_cons (e : List (Nat × D)) (h : List (Nat × List D)) (g : List (Tag × Bool)) (t : Tag) (ts : List Tag) : St.share ⟨e, h, g⟩ (t :: ts) = ⟨e, h, g.map fun y => (y.1, y.2 && !(t :: ts).contains y.1)⟩ := (rfl)
def updE (t : Tag) (i off : Nat) (ds : List D) (l : List (Nat × D)) : List (Nat × D) := l.map fun x => (x.1, x.2.upd t i off ds)
def updH (t : Tag) (i off : Nat) (ds : List D) (l : List (Nat × List D)) : List (Nat × List D) := l.map fun x => (x.1, x.2.map (D.upd t i off ds))
@[go_sem] theorem updE_nil (t : Tag) (i off : Nat) (ds : List D) : updE t i off ds [] = [] := (rfl)
@[go_sem] theorem updE_cons (t : Tag) (i off : Nat) (ds : List D) (k : Nat) (d : D) (l : List (Nat × D)) : updE t i off ds ((k, d) :: l) = (k, d.upd t i off ds) :: updE t i off ds l := (rfl)
@[go_sem] theorem updH_nil (t : Tag) (i off : Nat) (ds : List D) : updH t i off ds [] = [] := (rfl)
@[go_sem] theorem updH_cons (t : Tag) (i off : Nat) (ds : List D) (k : Nat) (d : List D) (l : List (Nat × List D)) : updH t i off ds ((k, d) :: l) = (k, d.map (D.upd t i off ds)) :: updH t i off ds l := (rfl)
@[go_sem] theorem upd_mk (e : List (Nat × D)) (h : List (Nat × List D)) (g : List (Tag × Bool)) (t : Tag) (i off : Nat) (ds : List D) : St.upd ⟨e, h, g⟩ t i off ds = ⟨updE t i off ds e, updH t i off ds h, g⟩ := (rfl)
def makeE (t : Tag) (es : List (List D)) (l : List (Nat × D)) : List (Nat × D) := l.map fun x => (x.1, x.2.remake t es)
@[go_sem] theorem makeE_nil (t : Tag) (es : List (List D)) : makeE t es [] = [] := (rfl)
@[go_sem] theorem makeE_cons (t : Tag) (es : List (List D)) (k : Nat) (d : D) (l : List (Nat × D)) : makeE t es ((k, d) :: l) = (k, d.remake t es) :: makeE t es l := (rfl)
@[go_sem] theorem remake_mk (e : List (Nat × D)) (h : List (Nat × List D)) (g : List (Tag × Bool)) (t : Tag) (es : List (List D)) : St.remake ⟨e, h, g⟩ t es = ⟨makeE t es e, onlyH (fun _ => true) (fun y => decide (y ≠ t)) h, (t, true) :: dropK t g⟩ := (rfl)
attribute [go_sem] updR_length Nat.ble_eq
attribute [go_sem] D.upd D.remake List.contains_cons List.contains_nil Bool.or_false
@[go_sem] theorem share_nil' (S : St) : S.share [] = S := share_nil S
attribute [go_sem] List.length_cons List.length_nil List.drop_zero List.take_zero List.drop_succ_cons List.take_succ_cons List.map_cons List.map_nil List.all_cons List.all_nil List.set_cons_zero List.set_cons_succ List.getElem?_cons_zero List.getElem?_cons_succ
 List.cons_append List.nil_append Bool.and_true Bool.true_and Bool.and_self Bool.and_false Bool.false_and Option.map_some Option.all_some Option.all_none Option.isSome_some ne_eq not_true_eq_false not_false_eq_true decide_true decide_false reduceIte true_and and_true Bool.false_eq_true forall_const false_implies reduceCtorEq Bool.not_true Bool.not_false true_implies Option.some.injEq
end Go.Vm
