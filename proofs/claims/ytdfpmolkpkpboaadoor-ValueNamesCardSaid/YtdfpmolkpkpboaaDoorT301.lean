/- A part of the proof; what is proved stands in the last text. -/
import Derived.Shelf.Strconv.AtoiAll
import Derived.Shelf.RegionOpenPlain
import Derived.Lib.BufferWrite
import Derived.Lib.UnsafeStr
import Derived.Lib.Hide
import Derived.Lib.IfaceEq
import Derived.Laws.MakeOwn
import Derived.RegionTactic
import Derived.Deep.RegionWith
set_option linter.unusedVariables false
set_option maxRecDepth 2000
namespace Go.Proofs
open Go.Shelf Go.RowKit
set_option linter.unusedVariables false
set_option linter.unusedSimpArgs false
variable {P : Program} {ρ : Ren}
structure BelowD (B : Nat) (w w' : World) : Prop where
 bel : Below B w w'
 dr : w.drawn ≤ w'.drawn
theorem BelowD.refl (B : Nat) (w : World) : BelowD B w w := ⟨.refl _ _, Nat.le_refl _⟩
theorem BelowD.trans {B : Nat} {a b c : World} (h : BelowD B a b) (k : BelowD B b c) : BelowD B a c := ⟨h.bel.trans k.bel, Nat.le_trans h.dr k.dr⟩
theorem BelowD.mono {B B' : Nat} {w w' : World} (h : BelowD B w w') (hB : B' ≤ B) : BelowD B' w w' := ⟨h.bel.mono hB, h.dr⟩
theorem BelowD.drew {B : Nat} {a w : World} (h : BelowD B a w) : BelowD B a w.drew := ⟨h.bel.drew, Nat.le_trans h.dr (Nat.le_succ _)⟩
theorem BelowD.alloc {B : Nat} {a w : World} (h : BelowD B a w) (hB : B ≤ w.heap.size) (o : Obj) : BelowD B a (w.alloc o) := ⟨h.bel.alloc hB o, h.dr⟩
theorem BelowD.cell {B : Nat} {w w' : World} (h : BelowD B w w') {p : Addr} (hp : p.block < B) : w'.cell? p = w.cell? p := h.bel.cell hp
theorem BelowD.size {B : Nat} {w w' : World} (h : BelowD B w w') : w.heap.size ≤ w'.heap.size := h.bel.size
theorem belowD_freeze {B : Nat} {a w : World} (h : BelowD B a w) {p : Addr} (hp : B ≤ p.block) (n : Nat) : BelowD B a (w.freeze p n) := by
 refine ⟨Lib.below_freeze h.bel hp n, Nat.le_trans h.dr ?_⟩
 unfold World.freeze
 split <;> exact Nat.le_refl _
theorem bytesWorld_belowD (w : World) (e : TypeId) (s : ByteArray) : BelowD w.heap.size w (Lib.bytesWorld w e s) :=
 belowD_freeze ((BelowD.drew (BelowD.refl _ w)).alloc (Nat.le_refl _) _) (p := ⟨w.heap.size, _, none⟩) (Nat.le_refl _) 1
set_option maxHeartbeats 6400000 in
set_option maxRecDepth 100000 in
theorem AnyD.stringslite_Clone (L : LaysM.n316 P ρ) (s : ByteArray) (w : World) (hlim : s.size ≤ 281474976710656) :
    Calls P (ρ.f 316) #[.string s] w fun e w' => e = .returned (.string s) ∧ BelowD w.heap.size w w' := by
 have mixed := L.mixed
 have t5 := L.t5; have a5 := L.a5; have z5 := L.z5; have v5 := L.v5
 have t9 := L.t9; have a9 := L.a9; have z9 := L.z9; have v9 := L.v9
 have t3 := L.t3; have a3 := L.a3; have z3 := L.z3; have v3 := L.v3
 have t4 := L.t4; have a4 := L.a4; have z4 := L.z4; have v4 := L.v4
 have t37 := L.t37; have a37 := L.a37; have z37 := L.z37; have v37 := L.v37
 have t0 := L.t0; have a0 := L.a0; have z0 := L.z0; have v0 := L.v0
 have t127 := L.t127; have a127 := L.a127; have z127 := L.z127; have v127 := L.v127
 by_cases h0 : s.size = 0
 ·have hs : s = ⟨#[]⟩ := by
    apply ByteArray.ext
    exact Array.eq_empty_of_size_eq_zero h0
  subst hs
  go_enter L.f316, Body.n316_ntmps ρ
  go_wp2
  go_ret
  exact ⟨rfl, BelowD.refl _ _⟩
 ·obtain ⟨i0, hi, hz0, hz1, hz2⟩ := info_parts L.i5
  have hinfo : (P.info? (ρ.t 5)).map (·.size) = some 1 := by rw [hi]; simp [hz1]
  have hco : P.cellsOf (ρ.t 5) = 1 := by simp [Program.cellsOf, hi, hz1]
  obtain ⟨M, hM⟩ : ∃ M, M = madeCells (Value.int .u8 0).cells (((s.size : Nat) : Int).toNat * i0.size) := ⟨_, rfl⟩
  have hMs : M.size = s.size := by rw [hM, size_madeCells, hz1]; simp
  have hmk : ∀ W : World, (Instr.makeSlice (ρ.t 37) (.int .i64 (s.size : Int)) (.int .i64 (s.size : Int))).run P W = .ok (.slice (some ⟨W.heap.size, 0, none⟩) s.size s.size) (W.alloc (.cells M (ρ.t 5))) := fun W => by
   have h := run_make (P := P) W (ρ.t 37) (ρ.t 5) i0 (.int .u8 0) L.t37 hi hz0 .i64 .i64 (s.size : Int) (s.size : Int) (by omega) (by omega) (by rw [hz2]; omega) (by omega)
   rw [← hM] at h
   simpa using h
  clear hM
  have hcp := Lib.run_copy_row_string (P := P) (w.alloc (.cells M (ρ.t 5))) (ρ.t 37) (ρ.t 9) (ρ.t 3) (ρ.t 5) w.heap.size 0 s.size s.size s M (ρ.t 5) L.t37 hinfo (heap_alloc_new w _) (Nat.le_refl _) (by omega)
  obtain ⟨Y, hY⟩ : ∃ Y, Y = (M.toList.take 0 ++ Lib.byteCells s.data.toList ++ M.toList.drop (0 + s.size)).toArray := ⟨_, rfl⟩
  rw [← hY] at hcp
  have hYl : Y.toList = Lib.byteCells s.data.toList := by
   rw [hY, List.toList_toArray, List.take_zero, List.nil_append, List.drop_of_length_le (by rw [Array.length_toList]; omega), List.append_nil]
  have hYs : Y.size = s.size := by rw [← Array.length_toList, hYl, Lib.byteCells_length, ← Lib.size_eq]
  have hgY : ((w.alloc (.cells M (ρ.t 5))).setRow w.heap.size Y).heap[w.heap.size]? = some (.cells Y (ρ.t 5) (0, 0)) := setRow_heap _ _ M _ (ρ.t 5) (0, 0) (heap_alloc_new w _)
  have hne : s.data.toList ≠ [] := fun e => h0 (by rw [Lib.size_eq, e]; rfl)
  have hUS := Lib.run_unsafeString_row (P := P) ((w.alloc (.cells M (ρ.t 5))).setRow w.heap.size Y) (ρ.t 127) (ρ.t 3) (ρ.t 9) (ρ.t 5) L.t127 hco w.heap.size Y.size (by unfold World.shape?; rw [hgY]) s.data.toList hne (by rw [← Lib.size_eq]; omega) (by rw [← Lib.size_eq]; omega)
   (fun j x hx => Lib.cells_of_row hgY Y.size j _ (by rw [List.take_of_length_le (by rw [Array.length_toList]; exact Nat.le_refl _), hYl]; simp [Lib.byteCells, hx]))
  rw [← Lib.size_eq] at hUS
  clear hY
  go_enter L.f316, Body.n316_ntmps ρ
  go_wp2
  go_ret
  have hb1 : BelowD w.heap.size w (w.alloc (.cells M (ρ.t 5))) := (BelowD.refl _ w).alloc (Nat.le_refl _) _
  have hb2 : BelowD w.heap.size (w.alloc (.cells M (ρ.t 5))) ((w.alloc (.cells M (ρ.t 5))).setRow w.heap.size Y) := ⟨⟨rfl, rfl, rfl, by simp, fun k hk => setRow_other _ _ _ _ (by omega)⟩, Nat.le_refl _⟩
  exact ⟨rfl, belowD_freeze (hb1.trans hb2) (p := ⟨w.heap.size, 0, none⟩) (Nat.le_refl _) _⟩
set_option maxHeartbeats 6400000 in
set_option maxRecDepth 100000 in
theorem AnyD.strconv_syntaxError (L : LaysM.n279 P ρ) (fn s : ByteArray) (ev : Value) (w : World) (hlim : s.size ≤ 281474976710656) (hv : w.cell? ⟨(ρ.g 15), 0, none⟩ = some ev)
    (hev : ev = .nilIface ∨ ∃ te pe, ev = .iface te pe) :
    Calls P (ρ.f 279) #[.string fn, .string s] w fun e w' => ∃ N, e = .returned (.pointer (some ⟨N, 0, none⟩)) ∧ w.heap.size ≤ N ∧ w'.heap[N]? = some (.cells #[.string fn, .string s, ev] (ρ.t 210) (0, 0)) ∧ BelowD w.heap.size w w' := by
 have mixed := L.mixed
 have t9 := L.t9; have a9 := L.a9; have z9 := L.z9; have v9 := L.v9
 have t168 := L.t168; have a168 := L.a168; have z168 := L.z168; have v168 := L.v168
 have t75 := L.t75; have a75 := L.a75; have z75 := L.z75; have v75 := L.v75
 have t210 := L.t210; have u210 := run_underlying L.t210; have a210 := L.a210; have z210 := L.z210; have v210 := L.v210
 have e316 : ∀ args w, (callFunc (ρ.f 316) args).run P w = .ok (.enter (ρ.f 316) args) w := enters_of L.f316 (by kernel_rfl) rfl
 rcases hev with rfl | ⟨te, pe, rfl⟩
 all_goals (
  have hG : (ρ.g 15) < w.heap.size := Lib.lt_of_cell hv
  have hvd : w.drew.cell? ⟨(ρ.g 15), 0, none⟩ = some _ := hv
  go_enter L.f279, Body.n279_ntmps ρ
  go_wp2
  go_region_with_o (
      go_at_fn (ρ.f 316)
      refine (AnyD.stringslite_Clone { L with } s _ hlim).mono ?_
      rintro e w2 ⟨rfl, hbel⟩
      have hv2 : w2.cell? ⟨(ρ.g 15), 0, none⟩ = some _ := (hbel.cell (show (⟨(ρ.g 15), 0, none⟩ : Addr).block < w.drew.heap.size from hG)).trans hvd)
  all_goals (
   go_wp2
   go_ret
   have hs2 : w.heap.size ≤ w2.heap.size := hbel.size
   exact ⟨_, rfl, hs2, heap_alloc_new w2 _, ((BelowD.drew (BelowD.refl _ w)).trans hbel).alloc hs2 _⟩))
set_option maxHeartbeats 6400000 in
set_option maxRecDepth 100000 in
theorem AnyD.strconv_rangeError (L : LaysM.n280 P ρ) (fn s : ByteArray) (ev : Value) (w : World) (hlim : s.size ≤ 281474976710656) (hv : w.cell? ⟨(ρ.g 16), 0, none⟩ = some ev)
    (hev : ev = .nilIface ∨ ∃ te pe, ev = .iface te pe) :
    Calls P (ρ.f 280) #[.string fn, .string s] w fun e w' => ∃ N, e = .returned (.pointer (some ⟨N, 0, none⟩)) ∧ w.heap.size ≤ N ∧ w'.heap[N]? = some (.cells #[.string fn, .string s, ev] (ρ.t 210) (0, 0)) ∧ BelowD w.heap.size w w' := by
 have mixed := L.mixed
 have t9 := L.t9; have a9 := L.a9; have z9 := L.z9; have v9 := L.v9
 have t168 := L.t168; have a168 := L.a168; have z168 := L.z168; have v168 := L.v168
 have t75 := L.t75; have a75 := L.a75; have z75 := L.z75; have v75 := L.v75
 have t210 := L.t210; have u210 := run_underlying L.t210; have a210 := L.a210; have z210 := L.z210; have v210 := L.v210
 have e316 : ∀ args w, (callFunc (ρ.f 316) args).run P w = .ok (.enter (ρ.f 316) args) w := enters_of L.f316 (by kernel_rfl) rfl
 rcases hev with rfl | ⟨te, pe, rfl⟩
 all_goals (
  have hG : (ρ.g 16) < w.heap.size := Lib.lt_of_cell hv
  have hvd : w.drew.cell? ⟨(ρ.g 16), 0, none⟩ = some _ := hv
  go_enter L.f280, Body.n280_ntmps ρ
  go_wp2
  go_region_with_o (
      go_at_fn (ρ.f 316)
      refine (AnyD.stringslite_Clone { L with } s _ hlim).mono ?_
      rintro e w2 ⟨rfl, hbel⟩
      have hv2 : w2.cell? ⟨(ρ.g 16), 0, none⟩ = some _ := (hbel.cell (show (⟨(ρ.g 16), 0, none⟩ : Addr).block < w.drew.heap.size from hG)).trans hvd)
  all_goals (
   go_wp2
   go_ret
   have hs2 : w.heap.size ≤ w2.heap.size := hbel.size
   exact ⟨_, rfl, hs2, heap_alloc_new w2 _, ((BelowD.drew (BelowD.refl _ w)).trans hbel).alloc hs2 _⟩))
set_option maxHeartbeats 6400000 in
set_option maxRecDepth 100000 in
theorem AnyD.strconv_toError_syntax (L : LaysC.n245 P ρ) (fn s : ByteArray) (base bits : Int) (ev : Value) (w : World) (hlim : s.size ≤ 281474976710656) (hv : w.cell? ⟨(ρ.g 15), 0, none⟩ = some ev) (hev : ev = .nilIface ∨ ∃ te pe, ev = .iface te pe) :
    Calls P (ρ.f 245) #[.string fn, .string s, .int .i64 base, .int .i64 bits, .iface (ρ.t 167) (.int .i64 2)] w fun e w' => ∃ N, e = .returned (.iface (ρ.t 168) (.pointer (some ⟨N, 0, none⟩))) ∧ w.heap.size ≤ N ∧ w'.heap[N]? = some (.cells #[.string fn, .string s, ev] (ρ.t 210) (0, 0)) ∧ BelowD w.heap.size w w' := by
 have mixed := L.mixed
 have t9 := L.t9; have a9 := L.a9; have z9 := L.z9; have v9 := L.v9
 have t3 := L.t3; have a3 := L.a3; have z3 := L.z3; have v3 := L.v3
 have t75 := L.t75; have a75 := L.a75; have z75 := L.z75; have v75 := L.v75
 have t167 := L.t167; have a167 := L.a167; have z167 := L.z167; have v167 := L.v167
 have t4 := L.t4; have a4 := L.a4; have z4 := L.z4; have v4 := L.v4
 have t168 := L.t168; have a168 := L.a168; have z168 := L.z168; have v168 := L.v168
 have e279 : ∀ args w, (callFunc (ρ.f 279) args).run P w = .ok (.enter (ρ.f 279) args) w := enters_of L.f279 (by kernel_rfl) rfl
 have heq : ∀ W, (binOp .eql (ρ.t 75) (.iface (ρ.t 167) (.int .i64 2)) (.iface (ρ.t 167) (.int .i64 2))).run P W = .ok (.bool true) W := fun W => Lib.run_eql_iface_int W 2 2 L.t75 L.c167 L.t167
 go_enter L.f245, Body.n245_ntmps ρ
 go_wp2_with (go_at_fn (ρ.f 279); refine (AnyD.strconv_syntaxError { L with } fn s ev _ hlim ?_ hev).mono ?_)
 ·exact hv
 rintro e w2 ⟨N, rfl, h1, h2, h3⟩
 go_wp2
 go_ret
 exact ⟨N, rfl, h1, h2, h3⟩
set_option maxHeartbeats 6400000 in
set_option maxRecDepth 100000 in
theorem AnyD.strconv_toError_range (L : LaysC.n245 P ρ) (fn s : ByteArray) (base bits : Int) (ev : Value) (w : World) (hlim : s.size ≤ 281474976710656) (hv : w.cell? ⟨(ρ.g 16), 0, none⟩ = some ev) (hev : ev = .nilIface ∨ ∃ te pe, ev = .iface te pe) :
    Calls P (ρ.f 245) #[.string fn, .string s, .int .i64 base, .int .i64 bits, .iface (ρ.t 167) (.int .i64 1)] w fun e w' => ∃ N, e = .returned (.iface (ρ.t 168) (.pointer (some ⟨N, 0, none⟩))) ∧ w.heap.size ≤ N ∧ w'.heap[N]? = some (.cells #[.string fn, .string s, ev] (ρ.t 210) (0, 0)) ∧ BelowD w.heap.size w w' := by
 have mixed := L.mixed
 have t9 := L.t9; have a9 := L.a9; have z9 := L.z9; have v9 := L.v9
 have t3 := L.t3; have a3 := L.a3; have z3 := L.z3; have v3 := L.v3
 have t75 := L.t75; have a75 := L.a75; have z75 := L.z75; have v75 := L.v75
 have t167 := L.t167; have a167 := L.a167; have z167 := L.z167; have v167 := L.v167
 have t4 := L.t4; have a4 := L.a4; have z4 := L.z4; have v4 := L.v4
 have t168 := L.t168; have a168 := L.a168; have z168 := L.z168; have v168 := L.v168
 have e280 : ∀ args w, (callFunc (ρ.f 280) args).run P w = .ok (.enter (ρ.f 280) args) w := enters_of L.f280 (by kernel_rfl) rfl
 have hq12 : ∀ W, (binOp .eql (ρ.t 75) (.iface (ρ.t 167) (.int .i64 1)) (.iface (ρ.t 167) (.int .i64 2))).run P W = .ok (.bool false) W := fun W => Lib.run_eql_iface_int W 1 2 L.t75 L.c167 L.t167
 have hq11 : ∀ W, (binOp .eql (ρ.t 75) (.iface (ρ.t 167) (.int .i64 1)) (.iface (ρ.t 167) (.int .i64 1))).run P W = .ok (.bool true) W := fun W => Lib.run_eql_iface_int W 1 1 L.t75 L.c167 L.t167
 go_enter L.f245, Body.n245_ntmps ρ
 go_wp2_with (go_at_fn (ρ.f 280); refine (AnyD.strconv_rangeError { L with } fn s ev _ hlim ?_ hev).mono ?_)
 ·exact hv
 rintro e w2 ⟨N, rfl, h1, h2, h3⟩
 go_wp2
 go_ret
 exact ⟨N, rfl, h1, h2, h3⟩
set_option maxHeartbeats 6400000 in
set_option maxRecDepth 100000 in
theorem AnyD.strconv_Atoi_syntax (L : LaysC.n172 P ρ) (s : ByteArray) (hlim : s.size ≤ 281474976710656) (h : Lib.atoiAll s.data.toList = .«syntax») (ev : Value) (w : World) (hv : w.cell? ⟨(ρ.g 15), 0, none⟩ = some ev) (hev : ev = .nilIface ∨ ∃ te pe, ev = .iface te pe) :
    Calls P (ρ.f 172) #[.string s] w fun e w' => ∃ N, e = .returned (.tuple #[.int .i64 (0), .iface (ρ.t 168) (.pointer (some ⟨N, 0, none⟩))]) ∧ w.heap.size ≤ N ∧ w'.heap[N]? = some (.cells #[.string ⟨#[65, 116, 111, 105]⟩, .string s, ev] (ρ.t 210) (0, 0)) ∧ BelowD w.heap.size w w' := by
 have mixed := L.mixed
 have t9 := L.t9; have a9 := L.a9; have z9 := L.z9; have v9 := L.v9
 have t3 := L.t3; have a3 := L.a3; have z3 := L.z3; have v3 := L.v3
 have t75 := L.t75; have a75 := L.a75; have z75 := L.z75; have v75 := L.v75
 have t76 := L.t76; have a76 := L.a76; have z76 := L.z76; have v76 := L.v76
 have t4 := L.t4; have a4 := L.a4; have z4 := L.z4; have v4 := L.v4
 have e244 : ∀ args w, (callFunc (ρ.f 244) args).run P w = .ok (.enter (ρ.f 244) args) w := enters_of L.f244 (by kernel_rfl) rfl
 have e245 : ∀ args w, (callFunc (ρ.f 245) args).run P w = .ok (.enter (ρ.f 245) args) w := enters_of L.f245 (by kernel_rfl) rfl
 have hG : (ρ.g 15) < w.heap.size := Lib.lt_of_cell hv
 have hI := Any.internal_strconv_Atoi_all { L with } s (by omega) w
 rw [h] at hI
 obtain ⟨sb0, sb1⟩ := Lib.atoiSat_bounds s.data.toList
 generalize Lib.atoiSat s.data.toList = sat at hI sb0 sb1 ⊢
 have hI : Calls P (ρ.f 244) #[.string s] w fun e w' => e = .returned (.tuple #[.int .i64 (0), .iface (ρ.t 167) (.int .i64 2)]) ∧ (w' = w ∨ ∃ t, w' = Lib.bytesWorld w (ρ.t 5) t) := hI
 clear h
 go_enter L.f172, Body.n172_ntmps ρ
 go_wp2_with (go_at_fn (ρ.f 244); refine hI.mono ?_)
 rintro e W1 ⟨rfl, hW⟩
 have hb1 : BelowD w.heap.size w W1 := by
  rcases hW with rfl | ⟨t, rfl⟩
  ·exact BelowD.refl _ _
  ·exact bytesWorld_belowD _ _ _
 have hv1 : W1.cell? ⟨(ρ.g 15), 0, none⟩ = some ev := (hb1.cell (show (⟨(ρ.g 15), 0, none⟩ : Addr).block < w.heap.size from hG)).trans hv
 clear hW
 go_wp2_with (go_at_fn (ρ.f 245); refine (AnyD.strconv_toError_syntax { L with } ⟨#[65, 116, 111, 105]⟩ s 0 0 ev _ hlim ?_ hev).mono ?_)
 ·exact hv1
 rintro e W2 ⟨N, rfl, h1, h2, h3⟩
 go_wp2
 go_ret2
 exact ⟨N, rfl, Nat.le_trans hb1.size h1, h2, hb1.trans (h3.mono hb1.size)⟩
set_option maxHeartbeats 6400000 in
set_option maxRecDepth 100000 in
theorem AnyD.strconv_Atoi_range (L : LaysC.n172 P ρ) (s : ByteArray) (hlim : s.size ≤ 281474976710656) (h : Lib.atoiAll s.data.toList = .range) (ev : Value) (w : World) (hv : w.cell? ⟨(ρ.g 16), 0, none⟩ = some ev) (hev : ev = .nilIface ∨ ∃ te pe, ev = .iface te pe) :
    Calls P (ρ.f 172) #[.string s] w fun e w' => ∃ N, e = .returned (.tuple #[.int .i64 (Lib.atoiSat s.data.toList), .iface (ρ.t 168) (.pointer (some ⟨N, 0, none⟩))]) ∧ w.heap.size ≤ N ∧ w'.heap[N]? = some (.cells #[.string ⟨#[65, 116, 111, 105]⟩, .string s, ev] (ρ.t 210) (0, 0)) ∧ BelowD w.heap.size w w' := by
 have mixed := L.mixed
 have t9 := L.t9; have a9 := L.a9; have z9 := L.z9; have v9 := L.v9
 have t3 := L.t3; have a3 := L.a3; have z3 := L.z3; have v3 := L.v3
 have t75 := L.t75; have a75 := L.a75; have z75 := L.z75; have v75 := L.v75
 have t76 := L.t76; have a76 := L.a76; have z76 := L.z76; have v76 := L.v76
 have t4 := L.t4; have a4 := L.a4; have z4 := L.z4; have v4 := L.v4
 have e244 : ∀ args w, (callFunc (ρ.f 244) args).run P w = .ok (.enter (ρ.f 244) args) w := enters_of L.f244 (by kernel_rfl) rfl
 have e245 : ∀ args w, (callFunc (ρ.f 245) args).run P w = .ok (.enter (ρ.f 245) args) w := enters_of L.f245 (by kernel_rfl) rfl
 have hG : (ρ.g 16) < w.heap.size := Lib.lt_of_cell hv
 have hI := Any.internal_strconv_Atoi_all { L with } s (by omega) w
 rw [h] at hI
 obtain ⟨sb0, sb1⟩ := Lib.atoiSat_bounds s.data.toList
 generalize Lib.atoiSat s.data.toList = sat at hI sb0 sb1 ⊢
 have hI : Calls P (ρ.f 244) #[.string s] w fun e w' => e = .returned (.tuple #[.int .i64 (sat), .iface (ρ.t 167) (.int .i64 1)]) ∧ (w' = w ∨ ∃ t, w' = Lib.bytesWorld w (ρ.t 5) t) := hI
 clear h
 go_enter L.f172, Body.n172_ntmps ρ
 go_wp2_with (go_at_fn (ρ.f 244); refine hI.mono ?_)
 rintro e W1 ⟨rfl, hW⟩
 have hb1 : BelowD w.heap.size w W1 := by
  rcases hW with rfl | ⟨t, rfl⟩
  ·exact BelowD.refl _ _
  ·exact bytesWorld_belowD _ _ _
 have hv1 : W1.cell? ⟨(ρ.g 16), 0, none⟩ = some ev := (hb1.cell (show (⟨(ρ.g 16), 0, none⟩ : Addr).block < w.heap.size from hG)).trans hv
 clear hW
 go_wp2_with (go_at_fn (ρ.f 245); refine (AnyD.strconv_toError_range { L with } ⟨#[65, 116, 111, 105]⟩ s 0 0 ev _ hlim ?_ hev).mono ?_)
 ·exact hv1
 rintro e W2 ⟨N, rfl, h1, h2, h3⟩
 go_wp2
 go_ret2
 exact ⟨N, rfl, Nat.le_trans hb1.size h1, h2, hb1.trans (h3.mono hb1.size)⟩
end Go.Proofs
