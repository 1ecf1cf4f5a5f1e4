/- Texts of this claim, joined: Ptu. -/
import Derived.Test.YtfclfaidmipjpaaGreatDoorOt01
namespace Go.Proofs.YtfclfaidmipjpaaGreatDoor
set_option maxRecDepth 100000
set_option maxHeartbeats 20000000
def trX (k : Int) (l : List J) (ns : List (List UInt8)) (i : Nat) : Nat := if k = 5 ∧ ns.length = l.length then l.length - 1 - i else i
def trN (k : Int) (l : List J) (ns : List (List UInt8)) (i : Nat) : List (List UInt8) := if k = 5 ∧ ns.length = l.length then (List.range i).map (fun j => ns.getD (l.length - 1 - j) []) else []
mutual
def turnJ : J → J
 | .mk k b n t l ns => .mk k b n t (if k = 5 ∧ ns.length = l.length then (turnL l).reverse else turnL l) (if k = 5 ∧ ns.length = l.length then ns.reverse else [])
def turnL : List J → List J
 | [] => []
 | x :: r => turnJ x :: turnL r
end
theorem turnL_map (l : List J) : turnL l = l.map turnJ := by
 induction l with
 | nil => simp [turnL]
 | cons x l ih => simp [turnL, ih]
def trL (k : Int) (l : List J) (ns : List (List UInt8)) (i : Nat) : List J := (List.range i).map (fun j => turnJ (l.getD (trX k l ns j) J.zero))
theorem trX_lt (k : Int) (l : List J) (ns : List (List UInt8)) {i : Nat} (h : i < l.length) : trX k l ns i < l.length := by
 unfold trX
 split <;> omega
theorem trL_step (k : Int) (l : List J) (ns : List (List UInt8)) {i : Nat} (_ : i < l.length) : trL k l ns (i + 1) = trL k l ns i ++ [turnJ (l.getD (trX k l ns i) J.zero)] := by
 unfold trL
 rw [List.range_succ, List.map_append]; rfl
theorem trN_step (k : Int) (l : List J) (ns : List (List UInt8)) (i : Nat) : trN k l ns (i + 1) = trN k l ns i ++ (if k = 5 ∧ ns.length = l.length then [ns.getD (trX k l ns i) []] else []) := by
 unfold trN trX
 split
 ·rw [List.range_succ, List.map_append]; rfl
 ·rfl
def obB (k : Int) (l : List J) (ns : List (List UInt8)) : Bool := decide (k = 5 ∧ ns.length = l.length)
theorem trN_zero (k : Int) (l : List J) (ns : List (List UInt8)) : trN k l ns 0 = [] := by
 unfold trN
 split <;> rfl
theorem trN_len (k : Int) (l : List J) (ns : List (List UInt8)) (i : Nat) : (trN k l ns i).length = if k = 5 ∧ ns.length = l.length then i else 0 := by
 unfold trN
 split <;> simp
theorem rev_map {α β : Type} (f : α → β) (d : α) (l : List α) : (List.range l.length).map (fun j => f (l.getD (l.length - 1 - j) d)) = (l.map f).reverse := by
 apply List.ext_getElem
 ·simp
 ·intro i h1 h2
  simp only [List.length_map, List.length_range] at h1
  simp only [List.getElem_map, List.getElem_range, List.getElem_reverse, List.length_map]
  rw [List.getD_eq_getElem?_getD, List.getElem?_eq_getElem (by omega)]
  rfl
theorem for_map {α β : Type} (f : α → β) (d : α) (l : List α) : (List.range l.length).map (fun j => f (l.getD j d)) = l.map f := by
 apply List.ext_getElem
 ·simp
 ·intro i h1 h2
  simp only [List.length_map, List.length_range] at h1
  simp only [List.getElem_map, List.getElem_range]
  rw [List.getD_eq_getElem?_getD, List.getElem?_eq_getElem h1]
  rfl
theorem turn_mk (k : Int) (b : Bool) (n : Dec) (t : List UInt8) (l : List J) (ns : List (List UInt8)) : turnJ (.mk k b n t l ns) = .mk k b n t (trL k l ns l.length) (trN k l ns l.length) := by
 rw [turnJ, turnL_map]
 unfold trL trN trX
 by_cases h : k = 5 ∧ ns.length = l.length
 ·simp only [if_pos h]
  rw [rev_map]
  congr 1
  rw [← h.2, rev_map (fun s => s)]; simp
 ·simp only [if_neg h]
  rw [for_map]
theorem turnL_len (l : List J) : (turnL l).length = l.length := by rw [turnL_map, List.length_map]
theorem turn_form {k : Int} {b : Bool} {n : Dec} {t : List UInt8} {l : List J} {ns : List (List UInt8)} (h : goodJ (.mk k b n t l ns) = true) : turnJ (.mk k b n t l ns) = .mk k b n t (if k = 5 then (turnL l).reverse else turnL l) (if k = 5 then ns.reverse else ns) := by
 obtain ⟨_, _, _, _, h5, _, _, _, h9⟩ := good_head h
 rw [turnJ]
 by_cases hk : k = 5
 ·have hl : ns.length = l.length := by
   rcases h9 with g | g | g | g | g | g
   iterate 5 omega
   exact g.2.1
  rw [if_pos ⟨hk, hl⟩, if_pos ⟨hk, hl⟩, if_pos hk, if_pos hk]
 ·rw [if_neg (fun e => hk e.1), if_neg (fun e => hk e.1), if_neg hk, if_neg hk, h5.resolve_left hk]
theorem goodL_rev (l : List J) (h : goodL l = true) : goodL l.reverse = true := by
 rw [goodL_iff] at h ⊢
 intro x hx
 exact h x (List.mem_reverse.1 hx)
mutual
theorem turn_good : (v : J) → goodJ v = true → goodJ (turnJ v) = true
 | .mk k b n t l ns, h => by
  have h8 := (good_head h).2.2.2.2.2.2.2.1
  have hl := turnL_good l h8
  have h9 := (good_head h).2.2.2.2.2.2.2.2
  rw [turn_form h]
  refine good_swap h ?_ ?_ ?_ (fun e => ?_)
  ·split <;> simp [turnL_len]
  ·split <;> simp
  ·split
   ·exact goodL_rev _ hl
   ·exact hl
  ·rw [if_pos e]
   rcases h9 with g | g | g | g | g | g
   iterate 5 omega
   have hu := (unlike_iff ns).1 g.2.2
   exact (unlike_iff _).2 ⟨(List.reverse_perm ns).nodup_iff.2 hu.1, fun s hs => hu.2 s (List.mem_reverse.1 hs)⟩
theorem turnL_good : (l : List J) → goodL l = true → goodL (turnL l) = true
 | [], _ => rfl
 | x :: l, h => by
  rw [goodL, Bool.and_eq_true] at h
  rw [turnL, goodL, turn_good x h.1, turnL_good l h.2]; rfl
end
theorem getD_rev {α : Type} (l : List α) (d : α) {i : Nat} (h : i < l.length) : l.reverse.getD i d = l.getD (l.length - 1 - i) d := by
 rw [List.getD_eq_getElem?_getD, List.getD_eq_getElem?_getD, List.getElem?_reverse h]
theorem getD_turn (l : List J) (i : Nat) (h : i < l.length) : (turnL l).getD i J.zero = turnJ (l.getD i J.zero) := by
 rw [turnL_map, List.getD_eq_getElem?_getD, List.getD_eq_getElem?_getD, List.getElem?_map, List.getElem?_eq_getElem h]; rfl
mutual
theorem turn_sort : (v : J) → goodJ v = true → sortJ (turnJ v) = sortJ v
 | .mk k b n t l ns, h => by
  have hg := turn_good _ h
  have h8 := (good_head h).2.2.2.2.2.2.2.1
  have h9 := (good_head h).2.2.2.2.2.2.2.2
  have hl := turnL_sort l h8
  rw [turn_form h] at hg ⊢
  refine (eq_sort hg h).2 ⟨rfl, rfl, rfl, rfl, by split <;> simp [turnL_len], fun i hi => ?_⟩
  have hi2 : i < l.length := by
   by_cases hk : k = 5
   ·rw [if_pos hk] at hi; simpa [turnL_len] using hi
   ·rw [if_neg hk] at hi; simpa [turnL_len] using hi
  by_cases hk : k = 5
  ·have hg5 : ns.length = l.length ∧ unlikeB ns = true := by
    rcases h9 with g | g | g | g | g | g
    iterate 5 omega
    exact g.2
   have hnd := unlike_nodup hg5.2
   simp only [if_pos hk]
   have e1 : ns.reverse.getD i [] = ns.getD (l.length - 1 - i) [] := by rw [getD_rev ns [] (by omega), hg5.1]
   have e2 := idx_getD hnd (i := l.length - 1 - i) (by omega)
   refine ⟨fun _ => by rw [e1]; exact getD_mem (by omega), ?_⟩
   rw [e1, e2, getD_rev _ _ (by rw [turnL_len]; exact hi2), turnL_len, getD_turn l _ (by omega)]
   exact hl _ (by omega)
  ·simp only [if_neg hk]
   refine ⟨fun e => absurd e hk, ?_⟩
   rw [getD_turn l _ hi2]
   exact hl _ hi2
theorem turnL_sort : (l : List J) → goodL l = true → ∀ i, i < l.length → sortJ (turnJ (l.getD i J.zero)) = sortJ (l.getD i J.zero)
 | [], _ => fun i hi => by simp at hi
 | x :: l, h => by
  rw [goodL, Bool.and_eq_true] at h
  intro i hi
  cases i with
  | zero => exact turn_sort x h.1
  | succ i => exact turnL_sort l h.2 i (by simpa using hi)
end
theorem same_sort {a b : J} (ha : goodJ a = true) (hb : goodJ b = true) (h : sortJ a = sortJ b) : deepJ a = deepJ b ∧ (toldJ a).length = (toldJ b).length := by
 rw [← sort_deep a ha, ← sort_deep b hb, ← sort_len a ha, ← sort_len b hb, h]
 exact ⟨rfl, rfl⟩
end Go.Proofs.YtfclfaidmipjpaaGreatDoor
