/- A part of the proof; what is proved stands in the last text. -/
import Derived.Test.YtaoppmjidjdgdaaGreatT337
set_option linter.unusedVariables false
set_option maxRecDepth 2000
namespace Go.Proofs
open Go.Vm
set_option linter.unusedSimpArgs false
def gotR (W : List (Int × Bool)) : List (List D) := W.map fun p => [.val (.int .i64 p.1), .val (.bool p.2)]
theorem len_gotR (W : List (Int × Bool)) : (gotR W).length = W.length := by simp [gotR]
def gfind (k : Int) : List (Int × Bool) → Nat → Option (Nat × Bool)
 | [], _ => none
 | p :: W, i => if p.1 = k then some (i, p.2) else gfind k W (i + 1)
def gotV (W : List (Int × Bool)) (k : Int) : Bool := ((gfind k W 0).map (·.2)).getD false
def gput (k : Int) (b : Bool) : List (Int × Bool) → List (Int × Bool)
 | [] => [(k, b)]
 | p :: W => if p.1 = k then (k, b) :: W else p :: gput k b W
def gRes (r : Option (Nat × Bool)) : Option (Nat × D) := r.map fun x => (x.1, .val (.bool x.2))
theorem findE_got (k : Int) : ∀ (W : List (Int × Bool)) (i : Nat), findE [.i] (.val (.int .i64 k)) (gotR W) i = some (gRes (gfind k W i))
 | [], i => rfl
 | p :: W, i => by
  have e : findE [.i] (.val (.int .i64 k)) (gotR (p :: W)) i = match (some (k == p.1) : Option Bool) with | some true => some (some (i, .val (.bool p.2))) | some false => findE [.i] (.val (.int .i64 k)) (gotR W) (i + 1) | none => none := rfl
  rw [e]
  by_cases h : p.1 = k
  ·have h1 : (k == p.1) = true := by simp [h]
   rw [h1, gfind, if_pos h]; rfl
  ·have h1 : (k == p.1) = false := by simpa using fun e => h e.symm
   rw [h1, gfind, if_neg h]
   exact findE_got k W (i + 1)
theorem gfind_shift (k : Int) : ∀ (W : List (Int × Bool)) (i : Nat), gfind k W (i + 1) = (gfind k W i).map fun x => (x.1 + 1, x.2)
 | [], i => rfl
 | p :: W, i => by
  unfold gfind
  split
  ·rfl
  ·exact gfind_shift k W (i + 1)
theorem put_got (k : Int) (b : Bool) : ∀ (W : List (Int × Bool)), putE (.val (.int .i64 k)) (.val (.bool b)) (gotR W) (gRes (gfind k W 0)) = gotR (gput k b W)
 | [] => rfl
 | p :: W => by
  unfold gfind gput
  split
  ·rfl
  ·have ih := put_got k b W
   rw [gfind_shift]
   cases h : gfind k W 0 with
   | none => rw [h] at ih; exact congrArg (fun l => [D.val (.int .i64 p.1), D.val (.bool p.2)] :: l) ih
   | some x => rw [h] at ih; exact congrArg (fun l => [D.val (.int .i64 p.1), D.val (.bool p.2)] :: l) ih
theorem mres_got (W : List (Int × Bool)) (k : Int) : mres false (.val (.bool false)) (gRes (gfind k W 0)) = .val (.bool (gotV W k)) := by
 unfold gotV
 cases gfind k W 0 <;> rfl
theorem gotV_cons (p : Int × Bool) (W : List (Int × Bool)) (k : Int) : gotV (p :: W) k = if p.1 = k then p.2 else gotV W k := by
 unfold gotV
 rw [gfind]
 split
 ·rfl
 ·rw [gfind_shift, Option.map_map]; rfl
theorem gotV_put (k : Int) (b : Bool) (k' : Int) : ∀ (W : List (Int × Bool)), gotV (gput k b W) k' = if k = k' then b else gotV W k'
 | [] => by rw [gput, gotV_cons]
 | p :: W => by
  unfold gput
  split
  ·rename_i h
   rw [gotV_cons, gotV_cons]
   subst h
   split
   ·rfl
   ·rename_i h2; rfl
  ·rename_i h
   rw [gotV_cons, gotV_put k b k' W, gotV_cons]
   by_cases h2 : p.1 = k'
   ·rw [if_pos h2, if_pos h2, if_neg (fun e => h (h2.trans e.symm))]
   ·rw [if_neg h2, if_neg h2]
def keysG (W : List (Int × Bool)) : List Int := W.map (·.1)
theorem gput_keys (k : Int) (b : Bool) : ∀ (W : List (Int × Bool)) (x : Int), x ∈ keysG (gput k b W) → x = k ∨ x ∈ keysG W
 | [], x => by intro h; simp [gput, keysG] at h; exact .inl h
 | p :: W, x => by
  intro h
  unfold gput at h
  split at h
  ·simp only [keysG, List.map_cons, List.mem_cons] at h ⊢
   rcases h with h | h
   ·exact .inl h
   ·exact .inr (.inr h)
  ·simp only [keysG, List.map_cons, List.mem_cons] at h ⊢
   rcases h with h | h
   ·exact .inr (.inl h)
   ·rcases gput_keys k b W x h with h | h
    ·exact .inl h
    ·exact .inr (.inr h)
theorem gput_nodup (k : Int) (b : Bool) : ∀ (W : List (Int × Bool)), (keysG W).Nodup → (keysG (gput k b W)).Nodup
 | [], _ => by simp [gput, keysG]
 | p :: W, h => by
  unfold keysG at h
  rw [List.map_cons, List.nodup_cons] at h
  unfold gput
  split
  ·rename_i e
   unfold keysG
   rw [List.map_cons, List.nodup_cons]
   exact ⟨by rw [← e]; exact h.1, h.2⟩
  ·rename_i e
   unfold keysG
   rw [List.map_cons, List.nodup_cons]
   refine ⟨fun hm => ?_, gput_nodup k b W h.2⟩
   rcases gput_keys k b W _ hm with h2 | h2
   ·exact e h2
   ·exact h.1 h2
theorem gotV_mem : ∀ {W : List (Int × Bool)}, (keysG W).Nodup → ∀ k, gotV W k = true ↔ (k, true) ∈ W
 | [], _, k => by simp [gotV, gfind]
 | p :: W, h, k => by
  unfold keysG at h
  rw [List.map_cons, List.nodup_cons] at h
  rw [gotV_cons]
  by_cases e : p.1 = k
  ·rw [if_pos e]
   constructor
   ·intro h2
    rw [List.mem_cons]
    exact .inl (by rw [← e, ← h2])
   ·intro h2
    rcases List.mem_cons.1 h2 with h2 | h2
    ·rw [← h2]
    ·exact absurd (List.mem_map.2 ⟨(k, true), h2, rfl⟩) (by rw [e] at h; exact h.1)
  ·rw [if_neg e, gotV_mem h.2 k, List.mem_cons]
   constructor
   ·exact .inr
   ·rintro (h2 | h2)
    ·exact absurd (by rw [← h2]) e
    ·exact h2
theorem count_got {W : List (Int × Bool)} {G : List Int} (hn : (keysG W).Nodup) (hg : G.Nodup) (h : ∀ k, gotV W k = decide (k ∈ G)) : (W.filter (·.2)).length = G.length := by
 have hp : ((W.filter (·.2)).map (·.1)).Perm G := by
  refine (List.perm_ext_iff_of_nodup (hn.sublist (List.filter_sublist.map _)) hg).2 fun k => ?_
  have h1 := gotV_mem hn k
  rw [h k, decide_eq_true_eq] at h1
  rw [h1, List.mem_map]
  constructor
  ·rintro ⟨⟨a, b⟩, hm, rfl⟩
   obtain ⟨hm, hb⟩ := List.mem_filter.1 hm
   simp only at hb
   subst hb
   exact hm
  ·intro hm
   exact ⟨(k, true), List.mem_filter.2 ⟨hm, rfl⟩, rfl⟩
 rw [← hp.length_eq, List.length_map]
theorem count_seen {W : List (Int × Bool)} {vis : List Nat} (hn : vis.Nodup) (hl : ∀ j ∈ vis, j < W.length) (ha : ∀ j, j < W.length → j ∈ vis) : (vis.filter fun j => (W.getD j (0, false)).2).length = (W.filter (·.2)).length := by
 have hp : vis.Perm (List.range W.length) := by
  refine (List.perm_ext_iff_of_nodup hn List.nodup_range).2 fun j => ?_
  rw [List.mem_range]
  exact ⟨hl j, ha j⟩
 rw [(hp.filter _).length_eq]
 have : W = (List.range W.length).map fun j => W.getD j (0, false) := by
  apply List.ext_getElem
  ·simp
  ·intro i h1 h2
   simp [List.getD_eq_getElem?_getD, h1]
 conv => rhs; rw [this]
 rw [List.filter_map, List.length_map]
 rfl
theorem len_sub : ∀ (l m : List Nat), l.Nodup → (∀ x ∈ l, x ∈ m) → l.length ≤ m.length
 | [], m, _, _ => Nat.zero_le _
 | x :: l, m, h, hs => by
  rw [List.nodup_cons] at h
  have hx := hs x List.mem_cons_self
  have := len_sub l (m.erase x) h.2 fun y hy => (List.mem_erase_of_ne (fun e => h.1 (by rw [← e]; exact hy))).2 (hs y (List.mem_cons_of_mem _ hy))
  rw [List.length_erase_of_mem hx] at this
  have hp := List.length_pos_of_mem hx
  rw [List.length_cons]
  omega
theorem vis_le {W : List (Int × Bool)} {vis : List Nat} (hn : vis.Nodup) (hl : ∀ j ∈ vis, j < W.length) : vis.length ≤ W.length := by
 have := len_sub vis (List.range W.length) hn fun j hj => List.mem_range.2 (hl j hj)
 rwa [List.length_range] at this
@[go_sem] theorem keep_stD (p : Nat → Bool) (q : Tag → Bool) (st : List Nat) : D.keep p q (stD st) = stD st := by
 have : ∀ l : List Nat, D.avoids.avoidsL p q (l.map fun (s : Nat) => D.val (goInt (s : Int))) = true := fun l => by
  induction l with
  | nil => rfl
  | cons x l ih => simp only [List.map_cons, D.avoids.avoidsL, ih]; rfl
 unfold D.keep
 rw [if_pos]
 exact this st
theorem get_gotR {W : List (Int × Bool)} {j : Nat} (h : j < W.length) : (gotR W)[j]? = some [.val (.int .i64 (W.getD j (0, false)).1), .val (.bool (W.getD j (0, false)).2)] := by
 unfold gotR
 rw [List.getElem?_map, List.getElem?_eq_getElem h, List.getD_eq_getElem?_getD, List.getElem?_eq_getElem h]; rfl
end Go.Proofs
