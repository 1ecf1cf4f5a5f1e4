/- Texts of this claim, joined: Pso, Peq. -/
import Derived.Test.YtfclfaidmipjpaaGreatDoorOt00
namespace Go.Proofs.YtfclfaidmipjpaaGreatDoor
set_option maxRecDepth 100000
set_option maxHeartbeats 20000000
theorem srtN_sorted (ns : List (List UInt8)) : (srtN ns).Pairwise (· ≤ ·) := by
 have h := List.pairwise_mergeSort (le := fun (x y : List UInt8) => decide (x ≤ y)) (fun _ _ _ h1 h2 => by
  simp only [decide_eq_true_eq] at *; exact List.le_trans h1 h2) (fun _ _ => by
  simp only [Bool.or_eq_true, decide_eq_true_eq]; exact List.le_total _ _) ns
 exact h.imp (fun h => by simpa using h)
theorem srtN_unique {ns ms : List (List UInt8)} (hp : ms.Perm ns) (hs : ms.Pairwise (· ≤ ·)) : ms = srtN ns :=
 List.Perm.eq_of_pairwise (fun _ _ _ _ h1 h2 => List.le_antisymm h1 h2) hs (srtN_sorted ns) (hp.trans (srtN_perm ns).symm)
def posR (s : List UInt8) (out : List (List UInt8)) : Nat → Nat
 | 0 => 0
 | n + 1 => if s < out.getD n [] then posR s out n else n + 1
theorem posR_le (s : List UInt8) (out : List (List UInt8)) : ∀ n, posR s out n ≤ n
 | 0 => Nat.le_refl _
 | n + 1 => by
  unfold posR
  split
  ·exact Nat.le_succ_of_le (posR_le s out n)
  ·exact Nat.le_refl _
theorem posR_hi (s : List UInt8) (out : List (List UInt8)) : ∀ n i, posR s out n ≤ i → i < n → s < out.getD i []
 | 0, i, _, h => absurd h (Nat.not_lt_zero _)
 | n + 1, i, h1, h2 => by
  unfold posR at h1
  split at h1
  ·rename_i hs
   by_cases e : i = n
   ·rw [e]; exact hs
   ·exact posR_hi s out n i h1 (by omega)
  ·omega
theorem posR_lo (s : List UInt8) (out : List (List UInt8)) : ∀ n k, posR s out n = k + 1 → out.getD k [] ≤ s
 | 0, k, h => by simp [posR] at h
 | n + 1, k, h => by
  unfold posR at h
  split at h
  ·exact posR_lo s out n k h
  ·rename_i hs
   obtain rfl : n = k := by omega
   exact List.not_lt.1 hs
def insN (s : List UInt8) (out : List (List UInt8)) : List (List UInt8) := out.take (posR s out out.length) ++ s :: out.drop (posR s out out.length)
theorem insN_sorted (s : List UInt8) (out : List (List UInt8)) (h : out.Pairwise (· ≤ ·)) : (insN s out).Pairwise (· ≤ ·) := by
 unfold insN
 have hp := posR_le s out out.length
 have hg : ∀ i (hi : i < out.length), out.getD i [] = out[i] := fun i hi => by simp [hi]
 have hlo : ∀ x ∈ out.take (posR s out out.length), x ≤ s := by
  intro x hx
  cases hk : posR s out out.length with
  | zero => rw [hk] at hx; simp at hx
  | succ k =>
   have h1 := posR_lo s out out.length k hk
   rw [hk] at hx hp
   rw [hg k (by omega)] at h1
   obtain ⟨i, hi, rfl⟩ := List.getElem_of_mem hx
   rw [List.getElem_take]
   have hi2 : i < k + 1 := by simp at hi; omega
   by_cases e : i = k
   ·subst e; exact h1
   ·exact List.le_trans (List.pairwise_iff_getElem.1 h i k (by omega) (by omega) (by omega)) h1
 have hhi : ∀ x ∈ out.drop (posR s out out.length), s ≤ x := by
  intro x hx
  obtain ⟨i, hi, rfl⟩ := List.getElem_of_mem hx
  rw [List.getElem_drop]
  have h1 := posR_hi s out out.length (posR s out out.length + i) (by omega) (by simp at hi; omega)
  rw [hg _ (by simp at hi; omega)] at h1
  exact List.le_of_lt h1
 refine List.pairwise_append.2 ⟨h.sublist (List.take_sublist _ _), List.pairwise_cons.2 ⟨hhi, h.sublist (List.drop_sublist _ _)⟩, fun a ha b hb => ?_⟩
 rcases List.mem_cons.1 hb with rfl | hb
 ·exact hlo a ha
 ·exact List.le_trans (hlo a ha) (hhi b hb)
theorem insN_perm (s : List UInt8) (out : List (List UInt8)) : (insN s out).Perm (s :: out) := by
 unfold insN
 refine List.perm_middle.trans ?_
 rw [List.take_append_drop]
variable {α : Type}
def insP (s : List UInt8) (x : α) (ns : List (List UInt8)) (l : List α) : List α := l.take (posR s ns ns.length) ++ x :: l.drop (posR s ns ns.length)
def insAll : List (List UInt8) → List α → List (List UInt8) → List α → List (List UInt8) × List α
 | s :: ns, x :: l, ms, m => insAll ns l (insN s ms) (insP s x ms m)
 | _, _, ms, m => (ms, m)
theorem insP_zip (s : List UInt8) (x : α) (ns : List (List UInt8)) (l : List α) (h : ns.length = l.length) : (insN s ns).zip (insP s x ns l) = (ns.zip l).take (posR s ns ns.length) ++ (s, x) :: (ns.zip l).drop (posR s ns ns.length) := by
 unfold insN insP
 rw [List.zip_append (by simp [h]), List.zip_cons_cons]
 simp only [List.zip_eq_zipWith, List.take_zipWith, List.drop_zipWith]
theorem insN_len (s : List UInt8) (ns : List (List UInt8)) : (insN s ns).length = ns.length + 1 := (insN_perm s ns).length_eq
theorem insP_len (s : List UInt8) (x : α) (ns : List (List UInt8)) (l : List α) (h : ns.length = l.length) : (insP s x ns l).length = l.length + 1 := by
 unfold insP
 have := posR_le s ns ns.length
 simp; omega
theorem insAll_spec : ∀ (ns : List (List UInt8)) (l : List α) (ms : List (List UInt8)) (m : List α), ns.length = l.length → ms.length = m.length → ms.Pairwise (· ≤ ·) →
  (insAll ns l ms m).1.Pairwise (· ≤ ·) ∧ (insAll ns l ms m).1.length = (insAll ns l ms m).2.length ∧ ((insAll ns l ms m).1.zip (insAll ns l ms m).2).Perm (ns.zip l ++ ms.zip m)
 | [], [], ms, m, _, h2, h3 => by simpa [insAll] using ⟨h3, h2⟩
 | s :: ns, x :: l, ms, m, h1, h2, h3 => by
  have ih := insAll_spec ns l (insN s ms) (insP s x ms m) (by simpa using h1) (by rw [insN_len, insP_len _ _ _ _ h2, h2]) (insN_sorted s ms h3)
  refine ⟨ih.1, ih.2.1, ih.2.2.trans ?_⟩
  rw [insP_zip s x ms m h2]
  simp only [List.zip_cons_cons, List.cons_append]
  refine List.Perm.trans (List.Perm.append_left _ List.perm_middle) ?_
  rw [List.take_append_drop]
  exact List.perm_middle
 | [], _ :: _, _, _, h, _, _ => by simp at h
 | _ :: _, [], _, _, h, _, _ => by simp at h
theorem zip_idx (d : α) {ns : List (List UInt8)} {l : List α} (hn : ns.Nodup) (hl : ns.length = l.length) {p : List UInt8 × α} (h : p ∈ ns.zip l) : p.2 = l.getD (ns.idxOf p.1) d := by
 obtain ⟨i, hi, rfl⟩ := List.getElem_of_mem h
 have hi2 : i < ns.length := by simp at hi; omega
 rw [List.getElem_zip]
 have he : ns.idxOf ns[i] = i := by
  have h1 : ns.idxOf ns[i] < ns.length := List.idxOf_lt_length_iff.2 (List.getElem_mem _)
  have h2 := List.getElem_idxOf h1
  exact (List.getElem_inj hn).1 h2
 simp only [he]
 simp [show i < l.length by omega]
theorem insAll_ord (d : α) {ns : List (List UInt8)} {l : List α} (hn : ns.Nodup) (hl : ns.length = l.length) : insAll ns l [] [] = (srtN ns, ordL d l ns) := by
 obtain ⟨h1, h2, h3⟩ := insAll_spec ns l [] [] hl rfl List.Pairwise.nil
 simp only [List.zip_nil_left, List.append_nil] at h3
 generalize insAll ns l [] [] = r at *
 obtain ⟨a, b⟩ := r
 simp only at h1 h2 h3
 have e1 : a = (a.zip b).map (·.1) := by rw [List.map_fst_zip (by omega)]
 have e2 : b = (a.zip b).map (·.2) := by rw [List.map_snd_zip (by omega)]
 have e3 : ns = (ns.zip l).map (·.1) := by rw [List.map_fst_zip (by omega)]
 have ha : a = srtN ns := by
  refine srtN_unique ?_ h1
  rw [e1, e3]
  have := h3.map (·.1)
  rwa [← e3]  at this ⊢
 subst ha
 congr 1
 unfold ordL
 rw [e2]
 conv => rhs; rw [e1]
 rw [List.map_map]
 refine List.map_congr_left (fun p hp => ?_)
 exact zip_idx d hn hl ((h3.mem_iff).1 hp)
theorem ordL_perm (d : α) {ns : List (List UInt8)} {l : List α} (hn : ns.Nodup) (hl : ns.length = l.length) : (ordL d l ns).Perm l := by
 have h := (insAll_spec ns l [] [] hl rfl List.Pairwise.nil).2.2
 rw [insAll_ord d hn hl] at h
 simp only [List.zip_nil_left, List.append_nil] at h
 have h2 := h.map (·.2)
 rw [List.map_snd_zip (by rw [ordL_len, srtN_len]; omega), List.map_snd_zip (by omega)] at h2
 exact h2
theorem srtN_nodup {ns : List (List UInt8)} (hn : ns.Nodup) : (srtN ns).Nodup := (srtN_perm ns).nodup_iff.2 hn
theorem srtN_same {ns : List (List UInt8)} (h : ns.Pairwise (· ≤ ·)) : srtN ns = ns := (srtN_unique (List.Perm.refl ns) h).symm
theorem srtN_twice (ns : List (List UInt8)) : srtN (srtN ns) = srtN ns := srtN_same (srtN_sorted ns)
theorem map_idx (d : α) {ns : List (List UInt8)} {l : List α} (hn : ns.Nodup) (hl : ns.length = l.length) : ns.map (fun s => l.getD (ns.idxOf s) d) = l := by
 apply List.ext_getElem
 ·rw [List.length_map, hl]
 ·intro i h1 h2
  rw [List.getElem_map, idx_at hn i (by omega)]
  simp [h2]
theorem ordL_sorted (d : α) {ns : List (List UInt8)} {l : List α} (hn : ns.Nodup) (hl : ns.length = l.length) (hs : ns.Pairwise (· ≤ ·)) : ordL d l ns = l := by
 unfold ordL
 rw [srtN_same hs]
 exact map_idx d hn hl
theorem goodL_iff (l : List J) : goodL l = true ↔ ∀ x ∈ l, goodJ x = true := by
 induction l with
 | nil => simp [goodL]
 | cons x l ih => rw [goodL, Bool.and_eq_true, ih]; simp
theorem unlR_of : ∀ (ns seen : List (List UInt8)), ns.Nodup → (∀ s ∈ ns, s ∉ seen ∧ Lib.validD s = true) → unlR seen ns = true
 | [], _, _, _ => rfl
 | n :: ns, seen, h1, h2 => by
  rw [unlR]
  obtain ⟨a1, a2⟩ := h2 n (by simp)
  rw [if_neg (by simp [a1, a2])]
  refine unlR_of ns _ (List.nodup_cons.1 h1).2 (fun s hs => ⟨fun hm => ?_, (h2 s (by simp [hs])).2⟩)
  rcases List.mem_append.1 hm with hm | hm
  ·exact (h2 s (by simp [hs])).1 hm
  ·simp at hm; subst hm
   exact (List.nodup_cons.1 h1).1 hs
theorem unlike_iff (ns : List (List UInt8)) : unlikeB ns = true ↔ ns.Nodup ∧ ∀ s ∈ ns, Lib.validD s = true :=
 ⟨fun h => ⟨unlike_nodup h, fun s hs => unl_valid ns [] h s hs⟩, fun h => unlR_of ns [] h.1 (fun s hs => ⟨by simp, h.2 s hs⟩)⟩
theorem good_swap {k : Int} {b : Bool} {n : Dec} {t : List UInt8} {l l2 : List J} {ns ns2 : List (List UInt8)} (h : goodJ (.mk k b n t l ns) = true) (hl : l2.length = l.length) (hn : ns2.length = ns.length) (hg : goodL l2 = true) (hu : k = 5 → unlikeB ns2 = true) : goodJ (.mk k b n t l2 ns2) = true := by
 simp only [goodJ, Bool.and_eq_true] at h ⊢
 refine ⟨?_, hg⟩
 obtain ⟨h1, _⟩ := h
 unfold headB badK okK at h1 ⊢
 rw [hl, hn]
 by_cases e : k = 5
 ·rw [if_pos e] at h1 ⊢
  rw [hu e]
  simp only [Bool.and_eq_true] at h1 ⊢
  exact ⟨h1.1, h1.2.1, h1.2.2.1, trivial⟩
 ·rw [if_neg e] at h1 ⊢
  exact h1
mutual
theorem sort_good : (v : J) → goodJ v = true → goodJ (sortJ v) = true
 | .mk k b n t l ns, h => by
  obtain ⟨h1, h2, h3, h4, h5, h6, h7, h8, h9⟩ := good_head h
  have hg := sortL_good l h8
  have hk : k = 5 → ns.length = l.length ∧ unlikeB ns = true := by
   intro e
   rcases h9 with h9 | h9 | h9 | h9 | h9 | ⟨_, a, b⟩
   iterate 5 omega
   exact ⟨a, b⟩
  rw [sortJ]
  by_cases e : k = 5
  ·obtain ⟨hl, hu⟩ := hk e
   obtain ⟨hu1, hu2⟩ := (unlike_iff ns).1 hu
   rw [if_pos e]
   refine good_swap h (by rw [ordL_len, hl]) (srtN_len ns) ((goodL_iff _).2 fun x hx => ?_) (fun _ => (unlike_iff _).2 ⟨srtN_nodup hu1, fun s hs => hu2 s ((srtN_perm ns).mem_iff.1 hs)⟩)
   exact (goodL_iff _).1 hg x ((ordL_perm J.zero hu1 (by rw [sortL_len, hl])).mem_iff.1 hx)
  ·rw [if_neg e]
   exact good_swap h (sortL_len l) (srtN_len ns) hg (fun e2 => absurd e2 e)
theorem sortL_good : (l : List J) → goodL l = true → goodL (sortL l) = true
 | [], _ => rfl
 | x :: l, h => by
  have h2 : goodJ x = true ∧ goodL l = true := by simpa [goodL] using h
  rw [sortL, goodL, sort_good x h2.1, sortL_good l h2.2]; rfl
end
theorem deepL_iff (l : List J) : ∀ (d m : Nat), deepL d l ≤ m ↔ d ≤ m ∧ ∀ x ∈ l, deepJ x + 1 ≤ m := by
 induction l with
 | nil => intro d m; simp [deepL]
 | cons x l ih =>
  intro d m
  rw [deepL, ih]
  simp only [List.mem_cons, forall_eq_or_imp]
  constructor
  ·rintro ⟨h1, h2⟩; exact ⟨by omega, by omega, h2⟩
  ·rintro ⟨h1, h2, h3⟩; exact ⟨by omega, h3⟩
theorem deepL_perm {l m : List J} (h : l.Perm m) (d : Nat) : deepL d l = deepL d m := by
 apply Nat.le_antisymm
 ·have := (deepL_iff m d (deepL d m)).1 (Nat.le_refl _)
  exact (deepL_iff l d _).2 ⟨this.1, fun x hx => this.2 x (h.mem_iff.1 hx)⟩
 ·have := (deepL_iff l d (deepL d l)).1 (Nat.le_refl _)
  exact (deepL_iff m d _).2 ⟨this.1, fun x hx => this.2 x (h.mem_iff.2 hx)⟩
mutual
theorem sort_deep : (v : J) → goodJ v = true → deepJ (sortJ v) = deepJ v
 | .mk k b n t l ns, h => by
  obtain ⟨h1, h2, h3, h4, h5, h6, h7, h8, h9⟩ := good_head h
  have hd := sortL_deep l h8
  rw [sortJ, deepJ, deepJ]
  by_cases e : k = 5
  ·rcases h9 with h9 | h9 | h9 | h9 | h9 | ⟨_, hl, hu⟩
   iterate 5 omega
   rw [if_pos e, deepL_perm (ordL_perm J.zero (unlike_nodup hu) (by rw [sortL_len, hl])), hd]
  ·rw [if_neg e, hd]
theorem sortL_deep : (l : List J) → goodL l = true → ∀ d, deepL d (sortL l) = deepL d l
 | [], _, _ => rfl
 | x :: l, h, d => by
  have h2 : goodJ x = true ∧ goodL l = true := by simpa [goodL] using h
  rw [sortL, deepL, deepL, sort_deep x h2.1, sortL_deep l h2.2]
end
def lenL (l : List J) : Nat := (l.map (fun x => (toldJ x).length + 1)).sum
def lenN (ns : List (List UInt8)) : Nat := (ns.map (fun u => (quoT u).length + 1)).sum
theorem toldL_len : ∀ (l : List J) (obj f : Bool) (ns : List (List UInt8)), (obj = true → ns.length = l.length) → (toldL obj f l ns).length + (if f = true ∧ l ≠ [] then 1 else 0) = lenL l + (if obj then lenN ns else 0)
 | [], obj, f, ns, h => by
  cases obj with
  | false => simp [toldL, lenL]
  | true =>
   obtain rfl : ns = [] := List.length_eq_zero_iff.1 (h rfl)
   simp [toldL, lenL, lenN]
 | x :: l, obj, f, ns, h => by
  have ih := toldL_len l obj false ns.tail (fun e => by rw [List.length_tail, h e]; simp)
  simp only [Bool.false_eq_true, false_and, if_false, Nat.add_zero] at ih
  rw [toldL]
  have hL : lenL (x :: l) = (toldJ x).length + 1 + lenL l := by simp [lenL]
  rw [hL]
  simp only [List.length_append, ih]
  cases obj with
  | false => cases f <;> simp <;> omega
  | true =>
   cases ns with
   | nil => have := h rfl; simp at this
   | cons u ns =>
    have hN : lenN (u :: ns) = (quoT u).length + 1 + lenN ns := by simp [lenN]
    rw [hN]
    cases f <;> simp <;> omega
mutual
theorem sort_len : (v : J) → goodJ v = true → (toldJ (sortJ v)).length = (toldJ v).length
 | .mk k b n t l ns, h => by
  obtain ⟨h1, h2, h3, h4, h5, h6, h7, h8, h9⟩ := good_head h
  have hd := sortL_lenL l h8
  rw [sortJ, toldJ, toldJ]
  split
  ·rfl
  split
  ·rfl
  split
  ·rfl
  split
  ·rfl
  by_cases e : k = 5
  ·rcases h9 with h9 | h9 | h9 | h9 | h9 | ⟨_, hl, hu⟩
   iterate 5 omega
   subst e
   have hp := ordL_perm J.zero (unlike_nodup hu) (show ns.length = (sortL l).length by rw [sortL_len, hl])
   have a1 := toldL_len l true true ns (fun _ => hl)
   have a2 := toldL_len (ordL J.zero (sortL l) ns) true true (srtN ns) (fun _ => by rw [ordL_len, srtN_len])
   have e1 : lenL (ordL J.zero (sortL l) ns) = lenL l := by rw [← hd]; exact (hp.map _).sum_nat
   have e2 : lenN (srtN ns) = lenN ns := ((srtN_perm ns).map _).sum_nat
   have e3 : (ordL J.zero (sortL l) ns ≠ []) ↔ l ≠ [] := by
    rw [← List.length_pos_iff, ← List.length_pos_iff, ordL_len, hl]
   rw [e1, e2] at a2
   simp only [true_and, e3] at a1 a2
   simp only [if_true, decide_true, List.length_append]
   omega
  ·obtain rfl : ns = [] := h5.resolve_left e
   rw [if_neg e, if_neg e, if_neg e]
   have a1 := toldL_len l (decide (k = 5)) true [] (fun e9 => absurd (by simpa using e9) e)
   have a2 := toldL_len (sortL l) (decide (k = 5)) true (srtN []) (fun e9 => absurd (by simpa using e9) e)
   have e3 : (sortL l ≠ []) ↔ l ≠ [] := by
    rw [← List.length_pos_iff, ← List.length_pos_iff, sortL_len]
   rw [hd, srtN_nil] at a2
   simp only [true_and, e3] at a1 a2
   simp only [List.length_append, srtN_nil]
   omega
theorem sortL_lenL : (l : List J) → goodL l = true → lenL (sortL l) = lenL l
 | [], _ => rfl
 | x :: l, h => by
  have h2 : goodJ x = true ∧ goodL l = true := by simpa [goodL] using h
  have h3 := sort_len x h2.1
  have h4 := sortL_lenL l h2.2
  rw [sortL]
  simp only [lenL, List.map_cons, List.sum_cons, h3] at h4 ⊢
  omega
end
theorem sortL_ord (l : List J) (ns : List (List UInt8)) : sortL (ordL J.zero l ns) = ordL J.zero (sortL l) ns := by
 rw [sortL_map, sortL_map]
 unfold ordL
 rw [List.map_map]
 refine List.map_congr_left (fun s _ => ?_)
 simp only [Function.comp, List.getD_eq_getElem?_getD, List.getElem?_map]
 cases l[ns.idxOf s]? with
 | none => simp [sort_zero]
 | some x => simp
mutual
theorem sort_twice : (v : J) → goodJ v = true → sortJ (sortJ v) = sortJ v
 | .mk k b n t l ns, h => by
  obtain ⟨h1, h2, h3, h4, h5, h6, h7, h8, h9⟩ := good_head h
  have hd := sortL_twice l h8
  by_cases e : k = 5
  ·rcases h9 with h9 | h9 | h9 | h9 | h9 | ⟨_, hl, hu⟩
   iterate 5 omega
   rw [sortJ, if_pos e, sortJ, if_pos e, srtN_twice, sortL_ord, hd, ordL_sorted J.zero (srtN_nodup (unlike_nodup hu)) (by rw [ordL_len, srtN_len]) (srtN_sorted ns)]
  ·rw [sortJ, if_neg e, sortJ, if_neg e, srtN_twice, hd]
theorem sortL_twice : (l : List J) → goodL l = true → sortL (sortL l) = sortL l
 | [], _ => rfl
 | x :: l, h => by
  have h2 : goodJ x = true ∧ goodL l = true := by simpa [goodL] using h
  rw [sortL, sortL, sort_twice x h2.1, sortL_twice l h2.2]
end
theorem perm_of_sub : ∀ (a b : List (List UInt8)), a.Nodup → (∀ s ∈ a, s ∈ b) → b.length ≤ a.length → a.Perm b
 | [], b, _, _, h => by
  obtain rfl : b = [] := List.length_eq_zero_iff.1 (by simpa using h)
  exact List.Perm.refl _
 | x :: a, b, hn, hs, hl => by
  have hx : x ∈ b := hs x (by simp)
  have hp := List.perm_cons_erase hx
  have hn2 := List.nodup_cons.1 hn
  have hlb : b.length = (b.erase x).length + 1 := hp.length_eq
  refine List.Perm.trans (List.Perm.cons x (perm_of_sub a (b.erase x) hn2.2 (fun s hsa => ?_) (by simp at hl; omega))) hp.symm
  have h1 := (hp.mem_iff (a := s)).1 (hs s (by simp [hsa]))
  rcases List.mem_cons.1 h1 with rfl | h1
  ·exact absurd hsa hn2.1
  ·exact h1
theorem eq_list (l l2 : List J) : sortL l = sortL l2 ↔ l.length = l2.length ∧ ∀ i, i < l.length → sortJ (l.getD i J.zero) = sortJ (l2.getD i J.zero) := by
 constructor
 ·intro h
  refine ⟨by rw [← sortL_len l, h, sortL_len], fun i _ => ?_⟩
  rw [← getD_sort, h, getD_sort]
 ·rintro ⟨h1, h2⟩
  apply List.ext_getElem
  ·rw [sortL_len, sortL_len, h1]
  ·intro i hi hj
   rw [sortL_len] at hi hj
   have := h2 i hi
   rw [← getD_sort, ← getD_sort] at this
   simpa [sortL_len, hi, hj, List.getD_eq_getElem?_getD] using this
theorem eq_obj {ns ns2 : List (List UInt8)} {l l2 : List J} (hn : ns.Nodup) (_ : ns2.Nodup) (hl : ns.length = l.length) (hl2 : ns2.length = l2.length) :
  (srtN ns = srtN ns2 ∧ ordL J.zero (sortL l) ns = ordL J.zero (sortL l2) ns2) ↔ l.length = l2.length ∧ ∀ i, i < l.length → ns.getD i [] ∈ ns2 ∧ sortJ (l.getD i J.zero) = sortJ (l2.getD (ns2.idxOf (ns.getD i [])) J.zero) := by
 constructor
 ·rintro ⟨h1, h2⟩
  have hlen : l.length = l2.length := by rw [← hl, ← hl2, ← srtN_len ns, h1, srtN_len]
  refine ⟨hlen, fun i hi => ?_⟩
  have hm : ns.getD i [] ∈ srtN ns := (srtN_perm ns).mem_iff.2 (getD_mem (by omega))
  refine ⟨(srtN_perm ns2).mem_iff.1 (h1 ▸ hm), ?_⟩
  unfold ordL at h2
  rw [← h1] at h2
  have h3 := List.map_inj_left.1 h2 _ hm
  rw [getD_sort, getD_sort, idx_getD hn (by omega)] at h3
  exact h3
 ·rintro ⟨h1, h2⟩
  have hp : ns.Perm ns2 := by
   refine perm_of_sub ns ns2 hn (fun s hs => ?_) (by omega)
   obtain ⟨i, hi, rfl⟩ := List.getElem_of_mem hs
   have := (h2 i (by omega)).1
   simpa [hi] using this
  have h3 : srtN ns = srtN ns2 := srtN_unique ((srtN_perm ns).trans hp) (srtN_sorted ns)
  refine ⟨h3, ?_⟩
  unfold ordL
  rw [← h3]
  refine List.map_congr_left (fun s hs => ?_)
  obtain ⟨i, hi, rfl⟩ := List.getElem_of_mem ((srtN_perm ns).mem_iff.1 hs)
  have h4 := (h2 i (by omega)).2
  have e : ns.getD i [] = ns[i] := by simp [hi]
  rw [getD_sort, getD_sort, idx_at hn i hi, h4, e]
theorem eq_sort {k k2 : Int} {b b2 : Bool} {n n2 : Dec} {t t2 : List UInt8} {l l2 : List J} {ns ns2 : List (List UInt8)} (h : goodJ (.mk k b n t l ns) = true) (h2 : goodJ (.mk k2 b2 n2 t2 l2 ns2) = true) :
  sortJ (.mk k b n t l ns) = sortJ (.mk k2 b2 n2 t2 l2 ns2) ↔ k = k2 ∧ b = b2 ∧ n = n2 ∧ t = t2 ∧ l.length = l2.length ∧ ∀ i, i < l.length → (k = 5 → ns.getD i [] ∈ ns2) ∧ sortJ (l.getD i J.zero) = sortJ (l2.getD (if k = 5 then ns2.idxOf (ns.getD i []) else i) J.zero) := by
 rw [sortJ, sortJ, J.mk.injEq]
 constructor
 ·rintro ⟨rfl, rfl, rfl, rfl, h5, h6⟩
  refine ⟨rfl, rfl, rfl, rfl, ?_⟩
  obtain ⟨_, _, _, _, _, _, _, _, g9⟩ := good_head h
  obtain ⟨_, _, _, _, _, _, _, _, g9'⟩ := good_head h2
  by_cases e : k = 5
  ·rcases g9 with g | g | g | g | g | ⟨_, hl, hu⟩
   iterate 5 omega
   rcases g9' with g | g | g | g | g | ⟨_, hl2, hu2⟩
   iterate 5 omega
   rw [if_pos e, if_pos e] at h5
   have := (eq_obj (unlike_nodup hu) (unlike_nodup hu2) hl hl2).1 ⟨h6, h5⟩
   refine ⟨this.1, fun i hi => ⟨fun _ => (this.2 i hi).1, ?_⟩⟩
   rw [if_pos e]; exact (this.2 i hi).2
  ·rw [if_neg e, if_neg e] at h5
   have := (eq_list l l2).1 h5
   refine ⟨this.1, fun i hi => ⟨fun e2 => absurd e2 e, ?_⟩⟩
   rw [if_neg e]; exact this.2 i hi
 ·rintro ⟨rfl, rfl, rfl, rfl, h5, h6⟩
  refine ⟨rfl, rfl, rfl, rfl, ?_⟩
  obtain ⟨_, _, _, _, a5, _, _, _, g9⟩ := good_head h
  obtain ⟨_, _, _, _, a5', _, _, _, g9'⟩ := good_head h2
  by_cases e : k = 5
  ·rcases g9 with g | g | g | g | g | ⟨_, hl, hu⟩
   iterate 5 omega
   rcases g9' with g | g | g | g | g | ⟨_, hl2, hu2⟩
   iterate 5 omega
   rw [if_pos e, if_pos e]
   have := (eq_obj (unlike_nodup hu) (unlike_nodup hu2) hl hl2).2 ⟨h5, fun i hi => by have := h6 i hi; rw [if_pos e] at this; exact ⟨this.1 e, this.2⟩⟩
   exact ⟨this.2, this.1⟩
  ·rw [if_neg e, if_neg e, a5.resolve_left e, a5'.resolve_left e]
   exact ⟨(eq_list l l2).2 ⟨h5, fun i hi => by have := (h6 i hi).2; rw [if_neg e] at this; exact this⟩, rfl⟩
theorem text_one {a b : J} (ha : goodJ a = true) (hb : goodJ b = true) (da : deepJ a ≤ 64) (db : deepJ b ≤ 64) (la : (toldJ a).length ≤ 1048576) (lb : (toldJ b).length ≤ 1048576) : toldJ (sortJ a) = toldJ (sortJ b) ↔ sortJ a = sortJ b := by
 constructor
 ·intro h
  have h1 := told_back (sortJ a) (sort_good a ha) (by rw [sort_deep a ha]; exact da) (by rw [sort_len a ha]; exact la) []
  have h2 := told_back (sortJ b) (sort_good b hb) (by rw [sort_deep b hb]; exact db) (by rw [sort_len b hb]; exact lb) []
  rw [h, h2] at h1
  exact (Prod.mk.inj h1).1.symm
 ·intro h; rw [h]
end Go.Proofs.YtfclfaidmipjpaaGreatDoor
