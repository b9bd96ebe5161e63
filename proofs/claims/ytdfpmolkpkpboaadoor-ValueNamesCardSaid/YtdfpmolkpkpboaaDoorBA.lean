/- A part of the proof; what is proved stands in the last text. -/
import Derived.Test.YtdfpmolkpkpboaaDoorVh6
import Derived.Shelf.Strings.Builder1
set_option linter.unusedVariables false
set_option maxRecDepth 2000
namespace Go.Vm
open Go.RowKit Go.Shelf Go.Proofs
set_option linter.unusedVariables false
variable {P : Program} {ρ : Ren} {w w' : World}
theorem ownsRow_cong {B : Nat} {e : TypeId} {n : Nat} {v : Value} {xs : List Value} (h : w.ownsRow B e 1 v n xs) (hw : ∀ k, v.ownBlock = some k → w'.heap[k]? = w.heap[k]?) : w'.ownsRow B e 1 v n xs := by
 refine ⟨h.1, ?_⟩
 rcases h.2 with h1 | ⟨g, cap, cur, hv, hB, hg, r⟩
 ·exact .inl h1
 ·exact .inr ⟨g, cap, cur, hv, hB, by rw [hw g (by rw [hv]; rfl)]; exact hg, r⟩
def bldHolds (T e : TypeId) : Option (Nat × List UInt8) → (Nat → Prop) → World → Prop
 | none, B, _ => ∀ b, ¬ B b
 | some (b, l), B, w => ∃ p v, (p = .pointer none ∨ p = .pointer (some ⟨b, 0, none⟩)) ∧ w.heap[b]? = some (.cells #[p, v] T (0, 0)) ∧ w.ownsRow 0 e 1 v l.length (Lib.byteCells l) ∧ v.ownBlock ≠ some b ∧ ∀ k, B k ↔ (k = b ∨ v.ownBlock = some k)
def bldH (T e : TypeId) : HidT (Option (Nat × List UInt8)) where
 holds := bldHolds T e
 lt {s B w b} h hb := by
  cases s with
  | none => exact absurd hb (h b)
  | some x =>
   obtain ⟨p, v, -, h1, h2, -, h3⟩ := h
   rcases (h3 b).1 hb with rfl | h4
   ·exact (Array.getElem?_eq_some_iff.1 h1).1
   ·exact (h2.lt b h4).2
 keep {s B w w'} h hw := by
  cases s with
  | none => exact h
  | some x =>
   obtain ⟨p, v, h0, h1, h2, h3, h4⟩ := h
   exact ⟨p, v, h0, by rw [hw _ ((h4 _).2 (.inl rfl))]; exact h1, ownsRow_cong h2 (fun k hk => hw k ((h4 k).2 (.inr hk))), h3, h4⟩
 make t cs s b s' := s = none ∧ t = T ∧ cs = #[.pointer none, .slice none 0 0] ∧ s' = some (b, [])
 made {s s' B w t cs} h hm := by
  obtain ⟨rfl, rfl, rfl, rfl⟩ := hm
  refine ⟨.pointer none, .slice none 0 0, .inl rfl, heap_alloc_new w _, World.ownsRow_nil _ 0 e 1, by simp [Value.ownBlock], fun k => ?_⟩
  have := h k
  simp [this, Value.ownBlock]
theorem bld0 (T e : TypeId) (w : World) : (bldH T e).holds none (fun _ => False) w := fun _ h => h
theorem append_string_drawn (t u ty e : TypeId) (i : TypeInfo) (ht : P.underlying t = some (.slice e)) (hu : P.underlying u = some .string) (hi : P.info? e = some i) (hz : i.zero = some (.int .u8 0))
    (hsize : i.size = 1) (hby : i.bytes = 1) (v : Value) (n : Nat) (xs : List Value) (hown : w.ownsRow 0 e 1 v n xs) (s : ByteArray) (hbytes : n + s.size ≤ 140737488355328) {v' : Value}
    (hr : (Builtin.append_ #[t, u] ty #[v, .string s]).run P w = .ok v' w') : w.drawn ≤ w'.drawn ∧ ((∃ b, v.ownBlock = some b ∧ v'.ownBlock = some b) ∨ ∀ b, v'.ownBlock = some b → w.heap.size ≤ b) := by
 have hxl : xs.length = n := by simpa using hown.1
 rcases hown.2 with ⟨rfl, rfl⟩ | ⟨g, cap, cur, rfl, hbg, hg, hnc, hcm, hcs, htake⟩
 ·by_cases hm : s.size = 0
  ·have hf := Lib.run_firstCells_string (P := P) w 1 s
   rw [hm] at hf
   simp [Builtin.append_, run_underlying ht, run_underlying hu, sizeOf, typeInfo, hi, hsize, Builtin.lenOf, hm, hf] at hr
   obtain ⟨rfl, rfl⟩ := hr
   exact ⟨Nat.le_refl _, .inr fun b hb => by simp [Value.ownBlock] at hb⟩
  ·rw [run_append_nil_string (P := P) w t u ty e i (.int .u8 0) ht hu hi hz s (by omega) (by omega) (by rw [hby]; omega)] at hr
   injection hr with h1 h2
   subst h1; subst h2
   exact ⟨Nat.le_succ _, .inr fun b hb => by simp only [Value.ownBlock, Option.some.injEq] at hb; omega⟩
 ·by_cases hroom : n + s.size ≤ cap
  ·rw [Lib.run_append_room_string (P := P) w t u ty e i ht hu hi hsize g n cap cur hg s hroom (by omega)] at hr
   injection hr with h1 h2
   subst h1; subst h2
   exact ⟨Nat.le_refl _, .inl ⟨g, rfl, rfl⟩⟩
  ·rw [Lib.run_append_grow_string (P := P) w t u ty e i (.int .u8 0) ht hu hi hz ⟨g, 0, none⟩ n cap xs (by rw [hsize]; omega) (hown.cells (g := g) rfl) s (by omega) (by omega) (by rw [hby]; exact growslice_fits (by omega) (by omega))] at hr
   injection hr with h1 h2
   subst h1; subst h2
   exact ⟨Nat.le_succ _, .inr fun b hb => by simp only [Value.ownBlock, Option.some.injEq] at hb; omega⟩
end Go.Vm

namespace Go.Vm
open Go.RowKit Go.Shelf Go.Proofs
set_option linter.unusedVariables false
variable {P : Program} {ρ : Ren} {w w' : World}
theorem RepF.args2 {F : Reg} {d1 d2 : D} {vs : Array Value} (hs : vs.size = [d1, d2].length) (hr : ∀ (i : Nat) (d : D) (v : Value), [d1, d2][i]? = some d → vs[i]? = some v → RepF F w d v) : ∃ x y, vs = #[x, y] ∧ RepF F w d1 x ∧ RepF F w d2 y := by
 match vs, hs with
 | ⟨[x, y]⟩, _ => exact ⟨x, y, rfl, hr 0 _ x rfl rfl, hr 1 _ y rfl rfl⟩
theorem RepF.args1 {F : Reg} {d1 : D} {vs : Array Value} (hs : vs.size = [d1].length) (hr : ∀ (i : Nat) (d : D) (v : Value), [d1][i]? = some d → vs[i]? = some v → RepF F w d v) : ∃ x, vs = #[x] ∧ RepF F w d1 x := by
 match vs, hs with
 | ⟨[x]⟩, _ => exact ⟨x, rfl, hr 0 _ x rfl rfl⟩
theorem KeepX.more {B B' : Nat → Prop} (h : KeepX B w w') (hB : ∀ b, B b → B' b) : KeepX B' w w' := ⟨h.os, h.tape, h.output, h.size, h.drawn, fun b o hb ho => h.block b o (fun hb' => hb (hB b hb')) ho⟩
structure Used (T e : TypeId) (b : Nat) (l : List UInt8) (v : Value) (w : World) : Prop where
 heap : w.heap[b]? = some (.cells #[.pointer (some ⟨b, 0, none⟩), v] T (0, 0))
 own : w.ownsRow 0 e 1 v l.length (Lib.byteCells l)
 ne : v.ownBlock ≠ some b
theorem setCell_keepX {B : Nat → Prop} (w : World) (a : Addr) (u : Value) (hB : B a.block) : KeepX B w (w.setCell a u) := by
 refine ⟨rfl, rfl, rfl, by simp [World.setCell], Nat.le_refl _, fun b o hb ho => ?_⟩
 have hne : b ≠ a.block := fun e => hb (e ▸ hB)
 have hlt := (Array.getElem?_eq_some_iff.1 ho).1
 rw [← ho]
 exact Below.heap_setCell w a u b hne
theorem Used.cell0 {T e : TypeId} {b : Nat} {l : List UInt8} {v : Value} (h : Used T e b l v w) : w.cell? ⟨b, 0, none⟩ = some (.pointer (some ⟨b, 0, none⟩)) := by rw [Lib.cell_of_heap h.heap]; rfl
theorem Used.cell1 {T e : TypeId} {b : Nat} {l : List UInt8} {v : Value} (h : Used T e b l v w) : w.cell? ⟨b, 1, none⟩ = some v := by rw [Lib.cell_of_heap h.heap]; rfl
theorem Used.lt {T e : TypeId} {b : Nat} {l : List UInt8} {v : Value} (h : Used T e b l v w) : b < w.heap.size := (Array.getElem?_eq_some_iff.1 h.heap).1
theorem Used.put {T e : TypeId} {b : Nat} {l' : List UInt8} {v v' : Value} (h : w.heap[b]? = some (.cells #[.pointer (some ⟨b, 0, none⟩), v] T (0, 0))) (ho : w.ownsRow 0 e 1 v' l'.length (Lib.byteCells l')) (hne : T ≠ e) : Used T e b l' v' (w.setCell ⟨b, 1, none⟩ v') := by
 obtain ⟨-, u, h1, h2, h3⟩ := Lib.BuilderAt.put (B := 0) (bs' := Lib.byteCells l') (Nat.zero_le b) h (by simpa [Lib.byteCells_length] using ho) hne
 have hu : u = v' := by
  have h4 : (w.setCell ⟨b, 1, none⟩ v').heap[b]? = some (.cells #[.pointer (some ⟨b, 0, none⟩), v'] T (0, 0)) := by simp [World.setCell, Array.getElem?_modify, h]
  rw [h1] at h4
  injection h4 with h4; injection h4 with h4
  simpa using h4
 subst hu
 exact ⟨h1, by simpa [Lib.byteCells_length] using h2, h3⟩
theorem builder_check (L : Lays.n240 P ρ) (X : Builder.X72 P ρ) {b : Nat} {l : List UInt8} {p v : Value} (hp : p = .pointer none ∨ p = .pointer (some ⟨b, 0, none⟩)) (hb : w.heap[b]? = some (.cells #[p, v] (ρ.t 72) (0, 0)))
    (ho : w.ownsRow 0 (ρ.t 5) 1 v l.length (Lib.byteCells l)) (hne : v.ownBlock ≠ some b) :
    Calls P (ρ.f 240) #[.pointer (some ⟨b, 0, none⟩)] w fun e w' => e = .returned (.tuple #[]) ∧ Used (ρ.t 72) (ρ.t 5) b l v w' ∧ KeepX (fun k => k = b) w w' ∧ w'.heap.size = w.heap.size := by
 have hA : Lib.BuilderAt (ρ.t 72) (ρ.t 5) 0 b p (Lib.byteCells l) w := ⟨Nat.zero_le _, v, hb, by simpa [Lib.byteCells_length] using ho, hne⟩
 rcases hp with rfl | rfl
 ·refine (Any.Builder_copyCheck_fresh L X b w hA.cell0 hA.shape hA.frozen0).mono ?_
  rintro e w' ⟨rfl, rfl⟩
  obtain ⟨-, u, h1, h2, h3⟩ := hA.used (.pointer (some ⟨b, 0, none⟩))
  have hu : u = v := by
   have h4 : (w.setCell ⟨b, 0, none⟩ (.pointer (some ⟨b, 0, none⟩))).heap[b]? = some (.cells #[.pointer (some ⟨b, 0, none⟩), v] (ρ.t 72) (0, 0)) := by simp [World.setCell, Array.getElem?_modify, hb]
   rw [h1] at h4
   injection h4 with h4; injection h4 with h4
   simpa using h4
  subst hu
  exact ⟨rfl, ⟨h1, by simpa [Lib.byteCells_length] using h2, h3⟩, setCell_keepX w _ _ rfl, by simp [World.setCell]⟩
 ·refine (Any.Builder_copyCheck_used L X b w hA.cell0).mono ?_
  rintro e w' ⟨rfl, rfl⟩
  exact ⟨rfl, ⟨hb, ho, hne⟩, KeepX.refl _ _, rfl⟩
end Go.Vm

namespace Go.Vm
open Go.RowKit Go.Shelf Go.Proofs
set_option linter.unusedVariables false
variable {P : Program} {ρ : Ren} {w w' : World}
theorem wp_append_string {ops : Array Oper} {rest : List Oper} {o : Oper} {a : Act} {Q : Exit → Act → World → Prop} (hgd : o.guard = none) (sl x : Operand) (t u : TypeId)
    (ho : o.op = .call { callee := .builtin .append, args := #[sl, x], argTypes := #[t, u] }) (e : TypeId) (i : TypeInfo) (ht : P.underlying t = some (.slice e)) (hu : P.underlying u = some .string) (hi : P.info? e = some i) (hz : i.zero = some (.int .u8 0))
    (hsize : i.size = 1) (hby : i.bytes = 1) (v : Value) (n : Nat) (xs : List Value) (hs : a.eval sl = v) (hown : w.ownsRow 0 e 1 v n xs) (s : ByteArray) (hx : a.eval x = .string s) (hbytes : n + s.size ≤ 140737488355328)
    (h : ∀ v' w', w'.ownsRow 0 e 1 v' (n + s.size) (xs ++ Lib.strCells s) → w.grownBy w' v.ownBlock → w.drawn ≤ w'.drawn → ((∃ b, v.ownBlock = some b ∧ v'.ownBlock = some b) ∨ ∀ b, v'.ownBlock = some b → w.heap.size ≤ b) → wpList P ops Q rest (a.put o.dst v') w') : wpList P ops Q (o :: rest) a w := by
 refine wpList_plain hgd fun K hK => ?_
 obtain ⟨v', w', hr, h2, h3, -⟩ := Lib.run_append_own_string (P := P) w 0 t u o.type e i ht hu hi hz hsize hby v n xs hown s (by unfold maxLen; omega) hbytes (Nat.zero_le _)
 obtain ⟨d1, d2⟩ := append_string_drawn t u o.type e i ht hu hi hz hsize hby v n xs hown s hbytes hr
 unfold Oper.wp execOp
 simp only [ho, resolve, invoke, builtin, Sem.run_bind, Sem.run_pure, Result.andThen_ok, List.map_toArray, List.map_cons, List.map_nil, hs, hx, hr]
 exact hK _ _ (h v' w' h2 h3 d1 d2)
set_option maxHeartbeats 2000000 in
set_option maxRecDepth 100000 in
theorem writeString_run (L : Lays.n166 P ρ) (X : Builder.Extra P ρ) (b : Nat) (l : List UInt8) (s : ByteArray) (p v : Value) (w : World) (hp : p = .pointer none ∨ p = .pointer (some ⟨b, 0, none⟩)) (hb : w.heap[b]? = some (.cells #[p, v] (ρ.t 72) (0, 0)))
    (ho : w.ownsRow 0 (ρ.t 5) 1 v l.length (Lib.byteCells l)) (hne : v.ownBlock ≠ some b) (hlen : l.length + s.size ≤ 140737488355328) :
    Calls P (ρ.f 166) #[.pointer (some ⟨b, 0, none⟩), .string s] w fun e w' => e = .returned (.tuple #[.int .i64 s.size, .nilIface]) ∧ ∃ v', Used (ρ.t 72) (ρ.t 5) b (l ++ s.data.toList) v' w' ∧ KeepX (fun k => k = b ∨ v.ownBlock = some k) w w' ∧ ((∃ k, v.ownBlock = some k ∧ v'.ownBlock = some k) ∨ ∀ k, v'.ownBlock = some k → w.heap.size ≤ k) := by
 obtain ⟨i0, hi, hz0, hz1, hz2⟩ := info_parts X.infoByte
 have mixed := L.mixed
 have t72 := L.t72; have a72 := L.a72; have z72 := L.z72; have v72 := L.v72; have u72 := run_underlying L.t72
 have t70 := L.t70; have a70 := L.a70; have z70 := L.z70; have v70 := L.v70; have u70 := run_underlying L.t70
 have t37 := L.t37; have a37 := L.a37; have z37 := L.z37; have v37 := L.v37; have u37 := run_underlying L.t37
 have t3 := L.t3; have a3 := L.a3; have z3 := L.z3; have v3 := L.v3; have u3 := run_underlying L.t3
 have t9 := L.t9; have a9 := L.a9; have z9 := L.z9; have v9 := L.v9; have u9 := run_underlying L.t9
 have t4 := L.t4; have a4 := L.a4; have z4 := L.z4; have v4 := L.v4; have u4 := run_underlying L.t4
 have t164 := L.t164; have a164 := L.a164; have z164 := L.z164; have v164 := L.v164; have u164 := run_underlying L.t164
 have t5 := X.t5; have a5 := X.a5; have z5 := X.z5; have v5 := X.v5; have u5 := run_underlying X.t5
 have e240 : ∀ args w, (callFunc (ρ.f 240) args).run P w = .ok (.enter (ρ.f 240) args) w := enters_of L.f240 (by kernel_rfl) rfl
 go_enter L.f166, Body.n166_ntmps ρ
 go_wp2_with (go_at_fn (ρ.f 240); refine (builder_check { L with } X.toX72 hp hb ho hne).mono ?_)
 rintro e w1 ⟨rfl, hu, hk1, -⟩
 have c0 := hu.cell0
 have c1 := hu.cell1
 go_wp2_with (at_builtin; refine wp_append_string rfl _ _ (ρ.t 37) (ρ.t 9) rfl (ρ.t 5) i0 L.t37 L.t9 hi hz0 hz1 hz2 _ _ _ rfl hu.own s rfl hlen ?_)
 intro v' w2 hown' hgrow hdr halt
 have hb2 : w2.heap[b]? = some (.cells #[.pointer (some ⟨b, 0, none⟩), v] (ρ.t 72) (0, 0)) := by
  rw [hgrow.block b hu.lt (fun e => hu.ne e.symm)]
  exact hu.heap
 have d0 : w2.cell? ⟨b, 0, none⟩ = some (.pointer (some ⟨b, 0, none⟩)) := by rw [Lib.cell_of_heap hb2]; rfl
 have d1 : w2.cell? ⟨b, 1, none⟩ = some v := by rw [Lib.cell_of_heap hb2]; rfl
 have f1 : w2.frozen? ⟨b, 1, none⟩ = false := Lib.frozen_of_heap hb2 1
 have hput : Used (ρ.t 72) (ρ.t 5) b (l ++ s.data.toList) v' (w2.setCell ⟨b, 1, none⟩ v') := by
  refine Used.put hb2 ?_ X.neB5
  have e1 : (l ++ s.data.toList).length = l.length + s.size := by rw [List.length_append]; rfl
  have e2 : Lib.byteCells (l ++ s.data.toList) = Lib.byteCells l ++ Lib.strCells s := by simp [Lib.byteCells, Lib.strCells]
  rw [e1, e2]; exact hown'
 have hkeep : KeepX (fun k => k = b ∨ v.ownBlock = some k) w (w2.setCell ⟨b, 1, none⟩ v') := by
  have k2 : KeepX (fun k => v.ownBlock = some k) w1 w2 := ⟨hgrow.os, hgrow.tape, hgrow.output, hgrow.size, hdr, fun k o hk ho => by rw [hgrow.block k (Array.getElem?_eq_some_iff.1 ho).1 (fun e => hk e.symm)]; exact ho⟩
  exact ((hk1.more (fun k h => .inl h)).trans (k2.more (B' := fun k => k = b ∨ v.ownBlock = some k) fun k h => .inr h) (fun k _ h => h)).trans ((setCell_keepX w2 ⟨b, 1, none⟩ v' (B := fun k => k = b) rfl).more fun k h => .inl h) (fun k _ h => h)
 obtain ⟨ao, n', cap, rfl⟩ : ∃ ao n' cap, v' = .slice ao n' cap := by
  rcases hown'.2 with ⟨hv, _⟩ | ⟨g, cap, cur, hv, _⟩
  ·exact ⟨_, _, _, hv⟩
  ·exact ⟨_, _, _, hv⟩
 go_wp2
 go_ret2
 refine ⟨rfl, _, hput, hkeep, halt.imp id fun h k hk => ?_⟩
 have := h k hk
 have := hk1.size
 omega
theorem wp_append_own {ops : Array Oper} {rest : List Oper} {o : Oper} {a : Act} {Q : Exit → Act → World → Prop} (hgd : o.guard = none) (sl x : Operand) (t : TypeId)
    (ho : o.op = .call { callee := .builtin .append, args := #[sl, x], argTypes := #[t, t] }) (e : TypeId) (i : TypeInfo) (z : Value) (ht : P.underlying t = some (.slice e)) (hi : P.info? e = some i) (hz : i.zero = some z) (hsize : i.size = 1) (hby : i.bytes = 1) (hzs : z.cells.size = 1)
    (v : Value) (n : Nat) (xs : List Value) (hs : a.eval sl = v) (hown : w.ownsRow 0 e 1 v n xs) (ad : Addr) (m c : Nat) (news : List Value) (hx : a.eval x = .slice (some ad) m c) (hl : news.length = m * 1) (hnews : ∀ (j : Nat) (u : Value), news[j]? = some u → w.cell? (ad.add j) = some u) (h1 : ∀ u ∈ news, u.oneCell' = true)
    (hbytes : n + m ≤ 140737488355328)
    (h : ∀ v' w', w'.ownsRow 0 e 1 v' (n + m) (xs ++ news) → w.grownBy w' v.ownBlock → w.drawn ≤ w'.drawn → ((∃ b, v.ownBlock = some b ∧ v'.ownBlock = some b) ∨ ∀ b, v'.ownBlock = some b → w.heap.size ≤ b) → wpList P ops Q rest (a.put o.dst v') w') : wpList P ops Q (o :: rest) a w := by
 refine wpList_plain hgd fun K hK => ?_
 obtain ⟨v', w', hr, h2, ⟨h3, hd⟩, h4⟩ := run_append (P := P) (w := w) t o.type e i z 1 1 ht hi hz hsize hby hzs (by omega) v n xs hown ad m c news hl hnews h1 (by unfold maxLen; omega) (by omega)
 unfold Oper.wp execOp
 simp only [ho, resolve, invoke, builtin, Sem.run_bind, Sem.run_pure, Result.andThen_ok, List.map_toArray, List.map_cons, List.map_nil, hs, hx, hr]
 refine hK _ _ (h v' w' h2 h3 hd ?_)
 rcases h4 with ⟨h5, -⟩ | ⟨b, cur, cur', h5, h6, -⟩
 ·exact .inr h5
 ·exact .inl ⟨b, h5, h6⟩
set_option maxHeartbeats 2000000 in
set_option maxRecDepth 100000 in
theorem writeByte_run (L : Lays.n167 P ρ) (X : Builder.Extra P ρ) (b : Nat) (l : List UInt8) (c : UInt8) (p v : Value) (w : World) (hp : p = .pointer none ∨ p = .pointer (some ⟨b, 0, none⟩)) (hb : w.heap[b]? = some (.cells #[p, v] (ρ.t 72) (0, 0)))
    (ho : w.ownsRow 0 (ρ.t 5) 1 v l.length (Lib.byteCells l)) (hne : v.ownBlock ≠ some b) (hlen : l.length + 1 ≤ 140737488355328) :
    Calls P (ρ.f 167) #[.pointer (some ⟨b, 0, none⟩), .int .u8 c.toNat] w fun e w' => e = .returned .nilIface ∧ ∃ v', Used (ρ.t 72) (ρ.t 5) b (l ++ [c]) v' w' ∧ KeepX (fun k => k = b ∨ v.ownBlock = some k) w w' ∧ ((∃ k, v.ownBlock = some k ∧ v'.ownBlock = some k) ∨ ∀ k, v'.ownBlock = some k → w.heap.size ≤ k) := by
 obtain ⟨i0, hi, hz0, hz1, hz2⟩ := info_parts X.infoByte
 have mixed := L.mixed
 have t72 := L.t72; have a72 := L.a72; have z72 := L.z72; have v72 := L.v72; have u72 := run_underlying L.t72
 have t70 := L.t70; have a70 := L.a70; have z70 := L.z70; have v70 := L.v70; have u70 := run_underlying L.t70
 have t5 := L.t5; have a5 := L.a5; have z5 := L.z5; have v5 := L.v5; have u5 := run_underlying L.t5
 have t37 := L.t37; have a37 := L.a37; have z37 := L.z37; have v37 := L.v37; have u37 := run_underlying L.t37
 have t9 := L.t9; have a9 := L.a9; have z9 := L.z9; have v9 := L.v9; have u9 := run_underlying L.t9
 have t4 := L.t4; have a4 := L.a4; have z4 := L.z4; have v4 := L.v4; have u4 := run_underlying L.t4
 have t164 := L.t164; have a164 := L.a164; have z164 := L.z164; have v164 := L.v164; have u164 := run_underlying L.t164
 have e240 : ∀ args w, (callFunc (ρ.f 240) args).run P w = .ok (.enter (ρ.f 240) args) w := enters_of L.f240 (by kernel_rfl) rfl
 go_enter L.f167, Body.n167_ntmps ρ
 go_wp2_with (go_at_fn (ρ.f 240); refine (builder_check { L with } X.toX72 hp hb ho hne).mono ?_)
 rintro e w1 ⟨rfl, hu, hk1, -⟩
 have c0 := hu.cell0
 have c1 := hu.cell1
 go_wp2_with (at_builtin; refine wp_append_own rfl _ _ (ρ.t 37) rfl (ρ.t 5) i0 (.int .u8 0) L.t37 hi hz0 hz1 hz2 rfl _ _ _ rfl (hu.own.alloc _) ⟨w1.heap.size, 0, none⟩ 1 1 [.int .u8 c.toNat] rfl rfl ?c1 ?c2 hlen ?_)
 case c1 =>
  intro j u hj
  match j, hj with
  | 0, hj => simp at hj; subst hj; simp [Addr.add]
 case c2 => intro u hu; simp at hu; subst hu; rfl
 intro v' w2 hown' hgrow hdr halt
 have hb2 : w2.heap[b]? = some (.cells #[.pointer (some ⟨b, 0, none⟩), v] (ρ.t 72) (0, 0)) := by
  have := hu.lt
  rw [hgrow.block b (by simp; omega) (fun e => hu.ne e.symm), Lib.alloc_old w1 _ b hu.lt]
  exact hu.heap
 have d0 : w2.cell? ⟨b, 0, none⟩ = some (.pointer (some ⟨b, 0, none⟩)) := by rw [Lib.cell_of_heap hb2]; rfl
 have d1 : w2.cell? ⟨b, 1, none⟩ = some v := by rw [Lib.cell_of_heap hb2]; rfl
 have f1 : w2.frozen? ⟨b, 1, none⟩ = false := Lib.frozen_of_heap hb2 1
 have hput : Used (ρ.t 72) (ρ.t 5) b (l ++ [c]) v' (w2.setCell ⟨b, 1, none⟩ v') := by
  refine Used.put hb2 ?_ X.neB5
  have e1 : (l ++ [c]).length = l.length + 1 := by simp
  have e2 : Lib.byteCells (l ++ [c]) = Lib.byteCells l ++ [.int .u8 c.toNat] := by simp [Lib.byteCells]
  rw [e1, e2]; exact hown'
 have hsz2 : w1.heap.size ≤ w2.heap.size := by have := hgrow.size; simp at this; omega
 have hkeep : KeepX (fun k => k = b ∨ v.ownBlock = some k) w (w2.setCell ⟨b, 1, none⟩ v') := by
  have k2 : KeepX (fun k => v.ownBlock = some k) w1 w2 := ⟨hgrow.os, hgrow.tape, hgrow.output, hsz2, hdr, fun k o hk ho => by
   have hlt := (Array.getElem?_eq_some_iff.1 ho).1
   rw [hgrow.block k (by simp; omega) (fun e => hk e.symm), Lib.alloc_old w1 _ k hlt]; exact ho⟩
  exact ((hk1.more (fun k h => .inl h)).trans (k2.more (B' := fun k => k = b ∨ v.ownBlock = some k) fun k h => .inr h) (fun k _ h => h)).trans ((setCell_keepX w2 ⟨b, 1, none⟩ v' (B := fun k => k = b) rfl).more fun k h => .inl h) (fun k _ h => h)
 obtain ⟨g, cap, rfl⟩ : ∃ g cap, v' = .slice (some ⟨g, 0, none⟩) (l.length + 1) cap := by
  rcases hown'.2 with ⟨_, h0⟩ | ⟨g, cap, cur, hv, _⟩
  ·omega
  ·exact ⟨g, cap, hv⟩
 go_wp2
 go_ret
 refine ⟨rfl, _, hput, hkeep, halt.imp id fun h k hk => ?_⟩
 have := h k hk
 have := hk1.size
 simp at *
 omega
set_option maxHeartbeats 1000000 in
set_option maxRecDepth 100000 in
theorem string_run (L : Lays.n169 P ρ) (X : Builder.Extra P ρ) (b : Nat) (l : List UInt8) (p v : Value) (w : World) (hb : w.heap[b]? = some (.cells #[p, v] (ρ.t 72) (0, 0)))
    (hown : w.ownsRow 0 (ρ.t 5) 1 v l.length (Lib.byteCells l)) (hne : v.ownBlock ≠ some b) (h0 : l ≠ []) :
    Calls P (ρ.f 169) #[.pointer (some ⟨b, 0, none⟩)] w fun e w' => e = .returned (.string ⟨l.toArray⟩) ∧ KeepX (fun k => k = b ∨ v.ownBlock = some k) w w' := by
 have hl0 : l.length ≠ 0 := by simpa using h0
 obtain ⟨g, cap, cur, rfl, hbg, hg, hnc, hcm, hcs, htake⟩ : ∃ g cap cur, v = .slice (some ⟨g, 0, none⟩) l.length cap ∧ 0 ≤ g ∧ w.heap[g]? = some (.cells cur (ρ.t 5) (0, 0)) ∧ l.length ≤ cap ∧ cap ≤ maxLen ∧ cur.size = cap * 1 ∧ cur.toList.take (l.length * 1) = Lib.byteCells l := by
  rcases hown.2 with ⟨_, hz⟩ | ⟨g, cap, cur, hv, r⟩
  ·exact absurd hz hl0
  ·exact ⟨g, cap, cur, hv, r⟩
 have c1 : w.drew.cell? ⟨b, 1, none⟩ = some (.slice (some ⟨g, 0, none⟩) l.length cap) := by
  have : w.drew.heap[b]? = some (.cells #[p, .slice (some ⟨g, 0, none⟩) l.length cap] (ρ.t 72) (0, 0)) := hb
  rw [Lib.cell_of_heap this]; rfl
 have hSD : (Builtin.unsafeSliceData_ #[(ρ.t 37)] (ρ.t 127) #[.slice (some ⟨g, 0, none⟩) l.length cap]).run P w.drew = .ok (.pointer (some ⟨g, 0, none⟩)) w.drew :=
  Lib.run_unsafeSliceData_row _ _ _ _ _ _ (by omega)
 have hUS : (Builtin.unsafeString_ #[(ρ.t 127), (ρ.t 3)] (ρ.t 9) #[.pointer (some ⟨g, 0, none⟩), .int .i64 l.length]).run P w.drew = .ok (.string ⟨l.toArray⟩) (w.drew.freeze ⟨g, 0, none⟩ l.length) := by
  refine Lib.run_unsafeString_row w.drew (ρ.t 127) (ρ.t 3) (ρ.t 9) (ρ.t 5) L.t127 X.cellsByte g cur.size (by have hg' : w.drew.heap[g]? = some (.cells cur (ρ.t 5) (0, 0)) := hg; simp [World.shape?, hg']) l h0 (by omega) (by unfold maxLen at hcm; omega) ?_
  intro j x hx
  exact hown.cells (g := g) rfl j (.int .u8 x.toNat) (by simp [Lib.byteCells, hx])
 have mixed := L.mixed
 have t72 := L.t72; have a72 := L.a72; have z72 := L.z72; have v72 := L.v72; have u72 := run_underlying L.t72
 have t70 := L.t70; have a70 := L.a70; have z70 := L.z70; have v70 := L.v70; have u70 := run_underlying L.t70
 have t37 := L.t37; have a37 := L.a37; have z37 := L.z37; have v37 := L.v37; have u37 := run_underlying L.t37
 have t127 := L.t127; have a127 := L.a127; have z127 := L.z127; have v127 := L.v127; have u127 := run_underlying L.t127
 have t3 := L.t3; have a3 := L.a3; have z3 := L.z3; have v3 := L.v3; have u3 := run_underlying L.t3
 have t9 := L.t9; have a9 := L.a9; have z9 := L.z9; have v9 := L.v9; have u9 := run_underlying L.t9
 have t5 := X.t5; have a5 := X.a5; have z5 := X.z5; have v5 := X.v5; have u5 := run_underlying X.t5
 have hk : KeepX (fun k => k = b ∨ (Value.slice (some ⟨g, 0, none⟩) l.length cap).ownBlock = some k) w (w.drew.freeze ⟨g, 0, none⟩ l.length) := by
  have hfz : ∃ f, w.drew.freeze ⟨g, 0, none⟩ l.length = { w.drew with heap := w.drew.heap.modify g f } := by
   unfold World.freeze
   rw [if_neg (by omega)]
   exact ⟨_, rfl⟩
  obtain ⟨f, hfz⟩ := hfz
  rw [hfz]
  refine ⟨rfl, rfl, rfl, by simp, Nat.le_succ _, fun k o hk ho => ?_⟩
  have hkg : k ≠ g := fun e => hk (.inr (by simp [Value.ownBlock, e]))
  have hlt := (Array.getElem?_eq_some_iff.1 ho).1
  have ho' : w.drew.heap[k]? = some o := ho
  show (w.drew.heap.modify g f)[k]? = some o
  rw [Array.getElem?_modify, if_neg (fun e => hkg e.symm)]
  exact ho'
 go_enter L.f169, Body.n169_ntmps ρ
 go_wp2
 go_region_o
 all_goals (go_wp2; go_ret; exact ⟨rfl, hk⟩)
end Go.Vm

namespace Go.Vm
open Go.RowKit Go.Shelf Go.Proofs
set_option linter.unusedVariables false
variable {P : Program} {ρ : Ren} {w w' : World}
def Known (P : Program) (k : FuncId) : Prop := ∃ fn, P.funcs[k]? = some fn ∧ (fn.name == "runtime.NumGoroutine") = false ∧ fn.body.isNone = false
theorem used_holds {T e : TypeId} {b : Nat} {l l' : List UInt8} {v v' : Value} {B : Nat → Prop} (hu : Used T e b l' v' w') (h4 : ∀ k, B k ↔ (k = b ∨ v.ownBlock = some k)) (halt : (∃ k, v.ownBlock = some k ∧ v'.ownBlock = some k) ∨ ∀ k, v'.ownBlock = some k → w.heap.size ≤ k) :
    (bldH T e).holds (some (b, l')) (fun k => k = b ∨ v'.ownBlock = some k) w' ∧ ∀ k, (k = b ∨ v'.ownBlock = some k) → B k ∨ w.heap.size ≤ k := by
 refine ⟨⟨_, v', .inr rfl, hu.heap, hu.own, hu.ne, fun k => Iff.rfl⟩, fun k hk => ?_⟩
 rcases hk with rfl | hk
 ·exact .inl ((h4 _).2 (.inl rfl))
 ·rcases halt with ⟨j, h1, h2⟩ | h1
  ·rw [hk] at h2; injection h2 with h2; subst h2
   exact .inl ((h4 k).2 (.inr h1))
  ·exact .inr (h1 k hk)
theorem bld_writeString (L : Lays.n166 P ρ) (X : Builder.Extra P ρ) (hk : Known P (ρ.f 166)) (b : Nat) (l : List UInt8) (s : ByteArray) (hlen : l.length + s.size ≤ 140737488355328) :
    HidAt P (bldH (ρ.t 72) (ρ.t 5)) (ρ.f 166) (some (b, l)) [.val (.pointer (some ⟨b, 0, none⟩)), .val (.string s)] (fun r s' => r = .tup [.val (.int .i64 s.size), .val .nilIface] ∧ s' = some (b, l ++ s.data.toList)) := by
 refine ⟨hk, fun F w B vs hF hB hFB hs hr => ?_⟩
 obtain ⟨p, v, hp, h1, h2, h3, h4⟩ := hB
 obtain ⟨x, y, rfl, hx, hy⟩ := RepF.args2 hs hr
 cases hx
 cases hy
 refine (writeString_run L X b l s p v w hp h1 h2 h3 hlen).mono ?_
 rintro e w' ⟨rfl, v', hu, hkx, halt⟩
 obtain ⟨q1, q2⟩ := used_holds (l := l) hu h4 halt
 refine ⟨_, _, _, _, rfl, ⟨rfl, rfl⟩, q1, q2, .tup _ _ rfl (fun i d v hd hv => ?_), hkx.more fun k h => (h4 k).2 h⟩
 match i, hd, hv with
 | 0, hd, hv => simp at hd hv; subst hd; subst hv; exact .val _
 | 1, hd, hv => simp at hd hv; subst hd; subst hv; exact .val _
 | i + 2, hd, hv => simp at hd
theorem bld_writeByte (L : Lays.n167 P ρ) (X : Builder.Extra P ρ) (hk : Known P (ρ.f 167)) (b : Nat) (l : List UInt8) (c : UInt8) (hlen : l.length + 1 ≤ 140737488355328) :
    HidAt P (bldH (ρ.t 72) (ρ.t 5)) (ρ.f 167) (some (b, l)) [.val (.pointer (some ⟨b, 0, none⟩)), .val (.int .u8 c.toNat)] (fun r s' => r = .val .nilIface ∧ s' = some (b, l ++ [c])) := by
 refine ⟨hk, fun F w B vs hF hB hFB hs hr => ?_⟩
 obtain ⟨p, v, hp, h1, h2, h3, h4⟩ := hB
 obtain ⟨x, y, rfl, hx, hy⟩ := RepF.args2 hs hr
 cases hx
 cases hy
 refine (writeByte_run L X b l c p v w hp h1 h2 h3 hlen).mono ?_
 rintro e w' ⟨rfl, v', hu, hkx, halt⟩
 obtain ⟨q1, q2⟩ := used_holds (l := l) hu h4 halt
 exact ⟨_, _, _, _, rfl, ⟨rfl, rfl⟩, q1, q2, .val _, hkx.more fun k h => (h4 k).2 h⟩
theorem bld_string (L : Lays.n169 P ρ) (X : Builder.Extra P ρ) (hk : Known P (ρ.f 169)) (b : Nat) (l : List UInt8) (h0 : l ≠ []) :
    HidAt P (bldH (ρ.t 72) (ρ.t 5)) (ρ.f 169) (some (b, l)) [.val (.pointer (some ⟨b, 0, none⟩))] (fun r s' => r = .val (.string ⟨l.toArray⟩) ∧ s' = none) := by
 refine ⟨hk, fun F w B vs hF hB hFB hs hr => ?_⟩
 obtain ⟨p, v, hp, h1, h2, h3, h4⟩ := hB
 obtain ⟨x, rfl, hx⟩ := RepF.args1 hs hr
 cases hx
 refine (string_run L X b l p v w h1 h2 h3 h0).mono ?_
 rintro e w' ⟨rfl, hkx⟩
 exact ⟨_, _, none, fun _ => False, rfl, ⟨rfl, rfl⟩, fun _ h => h, fun _ h => h.elim, .val _, hkx.more fun k h => (h4 k).2 h⟩
end Go.Vm
