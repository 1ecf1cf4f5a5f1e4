/- Texts of this claim, joined: Pso, Chk, Jr7, JOj. -/
import Derived.Test.YtfclfaidmipjpaaGreatDoorCo32
import Derived.Test.YtfclfaidmipjpaaGreatDoorVl01
namespace Go.Proofs.YtfclfaidmipjpaaGreatDoor
set_option maxRecDepth 100000
set_option maxHeartbeats 20000000
open Go.Lib (hid)
theorem srtN_sorted (ns : List (List UInt8)) : (srtN ns).Pairwise (· ≤ ·) := by
 have h := List.pairwise_mergeSort (le := fun (x y : List UInt8) => decide (x ≤ y)) (fun _ _ _ h1 h2 => by
  simp only [decide_eq_true_eq] at *; exact List.le_trans h1 h2) (fun _ _ => by
  simp only [Bool.or_eq_true, decide_eq_true_eq]; exact List.le_total _ _) ns
 exact h.imp (fun h => by simpa using h)
theorem srtN_unique {ns ms : List (List UInt8)} (hp : ms.Perm ns) (hs : ms.Pairwise (· ≤ ·)) : ms = srtN ns :=
 List.Perm.eq_of_pairwise (fun _ _ _ _ h1 h2 => List.le_antisymm h1 h2) hs (srtN_sorted ns) (hp.trans (srtN_perm ns).symm)
def posR (s : List UInt8) (out : List (List UInt8)) : Nat → Nat
 | 0 => 0
 | n + 1 => if s < out.getD n [] then posR s out n else n + 1
theorem posR_le (s : List UInt8) (out : List (List UInt8)) : ∀ n, posR s out n ≤ n
 | 0 => Nat.le_refl _
 | n + 1 => by
  unfold posR
  split
  ·exact Nat.le_succ_of_le (posR_le s out n)
  exact Nat.le_refl _
theorem posR_hi (s : List UInt8) (out : List (List UInt8)) : ∀ n i, posR s out n ≤ i → i < n → s < out.getD i []
 | 0, i, _, h => absurd h (Nat.not_lt_zero _)
 | n + 1, i, h1, h2 => by
  unfold posR at h1
  split at h1
  ·rename_i hs
   by_cases e : i = n
   ·rw [e]; exact hs
   exact posR_hi s out n i h1 (by omega)
  omega
theorem posR_lo (s : List UInt8) (out : List (List UInt8)) : ∀ n k, posR s out n = k + 1 → out.getD k [] ≤ s
 | 0, k, h => by simp [posR] at h
 | n + 1, k, h => by
  unfold posR at h
  split at h
  ·exact posR_lo s out n k h
  rename_i hs
  obtain rfl : n = k := by omega
  exact List.not_lt.1 hs
def insN (s : List UInt8) (out : List (List UInt8)) : List (List UInt8) := out.take (posR s out out.length) ++ s :: out.drop (posR s out out.length)
theorem insN_sorted (s : List UInt8) (out : List (List UInt8)) (h : out.Pairwise (· ≤ ·)) : (insN s out).Pairwise (· ≤ ·) := by
 unfold insN
 have hp := posR_le s out out.length
 have hg : ∀ i (hi : i < out.length), out.getD i [] = out[i] := fun i hi => by simp [hi]
 have hlo : ∀ x ∈ out.take (posR s out out.length), x ≤ s := by
  intro x hx
  cases hk : posR s out out.length with
  | zero => rw [hk] at hx; simp at hx
  | succ k =>
   have h1 := posR_lo s out out.length k hk
   rw [hk] at hx hp
   rw [hg k (by omega)] at h1
   obtain ⟨i, hi, rfl⟩ := List.getElem_of_mem hx
   rw [List.getElem_take]
   have hi2 : i < k + 1 := by simp at hi; omega
   by_cases e : i = k
   ·subst e; exact h1
   exact List.le_trans (List.pairwise_iff_getElem.1 h i k (by omega) (by omega) (by omega)) h1
 have hhi : ∀ x ∈ out.drop (posR s out out.length), s ≤ x := by
  intro x hx
  obtain ⟨i, hi, rfl⟩ := List.getElem_of_mem hx
  rw [List.getElem_drop]
  have h1 := posR_hi s out out.length (posR s out out.length + i) (by omega) (by simp at hi; omega)
  rw [hg _ (by simp at hi; omega)] at h1
  exact List.le_of_lt h1
 refine List.pairwise_append.2 ⟨h.sublist (List.take_sublist _ _), List.pairwise_cons.2 ⟨hhi, h.sublist (List.drop_sublist _ _)⟩, fun a ha b hb => ?_⟩
 rcases List.mem_cons.1 hb with rfl | hb
 ·exact hlo a ha
 exact List.le_trans (hlo a ha) (hhi b hb)
theorem insN_perm (s : List UInt8) (out : List (List UInt8)) : (insN s out).Perm (s :: out) := by
 unfold insN
 refine List.perm_middle.trans ?_
 rw [List.take_append_drop]
variable {α : Type}
def insP (s : List UInt8) (x : α) (ns : List (List UInt8)) (l : List α) : List α := l.take (posR s ns ns.length) ++ x :: l.drop (posR s ns ns.length)
def insAll : List (List UInt8) → List α → List (List UInt8) → List α → List (List UInt8) × List α
 | s :: ns, x :: l, ms, m => insAll ns l (insN s ms) (insP s x ms m)
 | _, _, ms, m => (ms, m)
theorem insP_zip (s : List UInt8) (x : α) (ns : List (List UInt8)) (l : List α) (h : ns.length = l.length) : (insN s ns).zip (insP s x ns l) = (ns.zip l).take (posR s ns ns.length) ++ (s, x) :: (ns.zip l).drop (posR s ns ns.length) := by
 unfold insN insP
 rw [List.zip_append (by simp [h]), List.zip_cons_cons]
 simp only [List.zip_eq_zipWith, List.take_zipWith, List.drop_zipWith]
theorem insN_len (s : List UInt8) (ns : List (List UInt8)) : (insN s ns).length = ns.length + 1 := (insN_perm s ns).length_eq
theorem insP_len (s : List UInt8) (x : α) (ns : List (List UInt8)) (l : List α) (h : ns.length = l.length) : (insP s x ns l).length = l.length + 1 := by
 unfold insP
 have := posR_le s ns ns.length
 simp; omega
theorem insAll_spec : ∀ (ns : List (List UInt8)) (l : List α) (ms : List (List UInt8)) (m : List α), ns.length = l.length → ms.length = m.length → ms.Pairwise (· ≤ ·) →
  (insAll ns l ms m).1.Pairwise (· ≤ ·) ∧ (insAll ns l ms m).1.length = (insAll ns l ms m).2.length ∧ ((insAll ns l ms m).1.zip (insAll ns l ms m).2).Perm (ns.zip l ++ ms.zip m)
 | [], [], ms, m, _, h2, h3 => by simpa [insAll] using ⟨h3, h2⟩
 | s :: ns, x :: l, ms, m, h1, h2, h3 => by
  have ih := insAll_spec ns l (insN s ms) (insP s x ms m) (by simpa using h1) (by rw [insN_len, insP_len _ _ _ _ h2, h2]) (insN_sorted s ms h3)
  refine ⟨ih.1, ih.2.1, ih.2.2.trans ?_⟩
  rw [insP_zip s x ms m h2]
  simp only [List.zip_cons_cons, List.cons_append]
  refine List.Perm.trans (List.Perm.append_left _ List.perm_middle) ?_
  rw [List.take_append_drop]
  exact List.perm_middle
 | [], _ :: _, _, _, h, _, _ => by simp at h
 | _ :: _, [], _, _, h, _, _ => by simp at h
theorem zip_idx (d : α) {ns : List (List UInt8)} {l : List α} (hn : ns.Nodup) (hl : ns.length = l.length) {p : List UInt8 × α} (h : p ∈ ns.zip l) : p.2 = l.getD (ns.idxOf p.1) d := by
 obtain ⟨i, hi, rfl⟩ := List.getElem_of_mem h
 have hi2 : i < ns.length := by simp at hi; omega
 rw [List.getElem_zip]
 have he : ns.idxOf ns[i] = i := by
  have h1 : ns.idxOf ns[i] < ns.length := List.idxOf_lt_length_iff.2 (List.getElem_mem _)
  have h2 := List.getElem_idxOf h1
  exact (List.getElem_inj hn).1 h2
 simp only [he]
 simp [show i < l.length by omega]
theorem insAll_ord (d : α) {ns : List (List UInt8)} {l : List α} (hn : ns.Nodup) (hl : ns.length = l.length) : insAll ns l [] [] = (srtN ns, ordL d l ns) := by
 obtain ⟨h1, h2, h3⟩ := insAll_spec ns l [] [] hl rfl List.Pairwise.nil
 simp only [List.zip_nil_left, List.append_nil] at h3
 generalize insAll ns l [] [] = r at *
 obtain ⟨a, b⟩ := r
 simp only at h1 h2 h3
 have e1 : a = (a.zip b).map (·.1) := by rw [List.map_fst_zip (by omega)]
 have e2 : b = (a.zip b).map (·.2) := by rw [List.map_snd_zip (by omega)]
 have e3 : ns = (ns.zip l).map (·.1) := by rw [List.map_fst_zip (by omega)]
 have ha : a = srtN ns := by
  refine srtN_unique ?_ h1
  rw [e1, e3]
  have := h3.map (·.1)
  rwa [← e3]  at this ⊢
 subst ha
 congr 1
 unfold ordL
 rw [e2]
 conv => rhs; rw [e1]
 rw [List.map_map]
 refine List.map_congr_left (fun p hp => ?_)
 exact zip_idx d hn hl ((h3.mem_iff).1 hp)
theorem ordL_perm (d : α) {ns : List (List UInt8)} {l : List α} (hn : ns.Nodup) (hl : ns.length = l.length) : (ordL d l ns).Perm l := by
 have h := (insAll_spec ns l [] [] hl rfl List.Pairwise.nil).2.2
 rw [insAll_ord d hn hl] at h
 simp only [List.zip_nil_left, List.append_nil] at h
 have h2 := h.map (·.2)
 rw [List.map_snd_zip (by rw [ordL_len, srtN_len]; omega), List.map_snd_zip (by omega)] at h2
 exact h2
theorem srtN_nodup {ns : List (List UInt8)} (hn : ns.Nodup) : (srtN ns).Nodup := (srtN_perm ns).nodup_iff.2 hn
theorem goodL_iff (l : List J) : goodL l = true ↔ ∀ x ∈ l, goodJ x = true := by
 induction l with
 | nil => simp [goodL]
 | cons x l ih => rw [goodL, Bool.and_eq_true, ih]; simp
theorem unlR_of : ∀ (ns seen : List (List UInt8)), ns.Nodup → (∀ s ∈ ns, s ∉ seen ∧ Lib.validD s = true) → unlR seen ns = true
 | [], _, _, _ => rfl
 | n :: ns, seen, h1, h2 => by
  rw [unlR]
  obtain ⟨a1, a2⟩ := h2 n (by simp)
  rw [if_neg (by simp [a1, a2])]
  refine unlR_of ns _ (List.nodup_cons.1 h1).2 (fun s hs => ⟨fun hm => ?_, (h2 s (by simp [hs])).2⟩)
  rcases List.mem_append.1 hm with hm | hm
  ·exact (h2 s (by simp [hs])).1 hm
  simp at hm; subst hm
  exact (List.nodup_cons.1 h1).1 hs
theorem unlike_iff (ns : List (List UInt8)) : unlikeB ns = true ↔ ns.Nodup ∧ ∀ s ∈ ns, Lib.validD s = true :=
 ⟨fun h => ⟨unlike_nodup h, fun s hs => unl_valid ns [] h s hs⟩, fun h => unlR_of ns [] h.1 (fun s hs => ⟨by simp, h.2 s hs⟩)⟩
theorem good_swap {k : Int} {b : Bool} {n : Dec} {t : List UInt8} {l l2 : List J} {ns ns2 : List (List UInt8)} (h : goodJ (.mk k b n t l ns) = true) (hl : l2.length = l.length) (hn : ns2.length = ns.length) (hg : goodL l2 = true) (hu : k = 5 → unlikeB ns2 = true) : goodJ (.mk k b n t l2 ns2) = true := by
 simp only [goodJ, Bool.and_eq_true] at h ⊢
 refine ⟨?_, hg⟩
 obtain ⟨h1, _⟩ := h
 unfold headB badK okK at h1 ⊢
 rw [hl, hn]
 by_cases e : k = 5
 ·rw [if_pos e] at h1 ⊢
  rw [hu e]
  simp only [Bool.and_eq_true] at h1 ⊢
  exact ⟨h1.1, h1.2.1, h1.2.2.1, trivial⟩
 rw [if_neg e] at h1 ⊢
 exact h1
mutual
theorem sort_good : (v : J) → goodJ v = true → goodJ (sortJ v) = true
 | .mk k b n t l ns, h => by
  obtain ⟨h1, h2, h3, h4, h5, h6, h7, h8, h9⟩ := good_head h
  have hg := sortL_good l h8
  have hk : k = 5 → ns.length = l.length ∧ unlikeB ns = true := by
   intro e
   rcases h9 with h9 | h9 | h9 | h9 | h9 | ⟨_, a, b⟩
   iterate 5 omega
   exact ⟨a, b⟩
  rw [sortJ]
  by_cases e : k = 5
  ·obtain ⟨hl, hu⟩ := hk e
   obtain ⟨hu1, hu2⟩ := (unlike_iff ns).1 hu
   rw [if_pos e]
   refine good_swap h (by rw [ordL_len, hl]) (srtN_len ns) ((goodL_iff _).2 fun x hx => ?_) (fun _ => (unlike_iff _).2 ⟨srtN_nodup hu1, fun s hs => hu2 s ((srtN_perm ns).mem_iff.1 hs)⟩)
   exact (goodL_iff _).1 hg x ((ordL_perm J.zero hu1 (by rw [sortL_len, hl])).mem_iff.1 hx)
  rw [if_neg e]
  exact good_swap h (sortL_len l) (srtN_len ns) hg (fun e2 => absurd e2 e)
theorem sortL_good : (l : List J) → goodL l = true → goodL (sortL l) = true
 | [], _ => rfl
 | x :: l, h => by
  have h2 : goodJ x = true ∧ goodL l = true := by simpa [goodL] using h
  rw [sortL, goodL, sort_good x h2.1, sortL_good l h2.2]; rfl
end
theorem deepL_iff (l : List J) : ∀ (d m : Nat), deepL d l ≤ m ↔ d ≤ m ∧ ∀ x ∈ l, deepJ x + 1 ≤ m := by
 induction l with
 | nil => intro d m; simp [deepL]
 | cons x l ih =>
  intro d m
  rw [deepL, ih]
  simp only [List.mem_cons, forall_eq_or_imp]
  constructor
  ·rintro ⟨h1, h2⟩; exact ⟨by omega, by omega, h2⟩
  rintro ⟨h1, h2, h3⟩; exact ⟨by omega, h3⟩
theorem deepL_perm {l m : List J} (h : l.Perm m) (d : Nat) : deepL d l = deepL d m := by
 apply Nat.le_antisymm
 ·have := (deepL_iff m d (deepL d m)).1 (Nat.le_refl _)
  exact (deepL_iff l d _).2 ⟨this.1, fun x hx => this.2 x (h.mem_iff.1 hx)⟩
 have := (deepL_iff l d (deepL d l)).1 (Nat.le_refl _)
 exact (deepL_iff m d _).2 ⟨this.1, fun x hx => this.2 x (h.mem_iff.2 hx)⟩
mutual
theorem sort_deep : (v : J) → goodJ v = true → deepJ (sortJ v) = deepJ v
 | .mk k b n t l ns, h => by
  obtain ⟨h1, h2, h3, h4, h5, h6, h7, h8, h9⟩ := good_head h
  have hd := sortL_deep l h8
  rw [sortJ, deepJ, deepJ]
  by_cases e : k = 5
  ·rcases h9 with h9 | h9 | h9 | h9 | h9 | ⟨_, hl, hu⟩
   iterate 5 omega
   rw [if_pos e, deepL_perm (ordL_perm J.zero (unlike_nodup hu) (by rw [sortL_len, hl])), hd]
  rw [if_neg e, hd]
theorem sortL_deep : (l : List J) → goodL l = true → ∀ d, deepL d (sortL l) = deepL d l
 | [], _, _ => rfl
 | x :: l, h, d => by
  have h2 : goodJ x = true ∧ goodL l = true := by simpa [goodL] using h
  rw [sortL, deepL, deepL, sort_deep x h2.1, sortL_deep l h2.2]
end
def lenL (l : List J) : Nat := (l.map (fun x => (toldJ x).length + 1)).sum
def lenN (ns : List (List UInt8)) : Nat := (ns.map (fun u => (quoT u).length + 1)).sum
theorem toldL_len : ∀ (l : List J) (obj f : Bool) (ns : List (List UInt8)), (obj = true → ns.length = l.length) → (toldL obj f l ns).length + (if f = true ∧ l ≠ [] then 1 else 0) = lenL l + (if obj then lenN ns else 0)
 | [], obj, f, ns, h => by
  cases obj with
  | false => simp [toldL, lenL]
  | true =>
   obtain rfl : ns = [] := List.length_eq_zero_iff.1 (h rfl)
   simp [toldL, lenL, lenN]
 | x :: l, obj, f, ns, h => by
  have ih := toldL_len l obj false ns.tail (fun e => by rw [List.length_tail, h e]; simp)
  simp only [Bool.false_eq_true, false_and, if_false, Nat.add_zero] at ih
  rw [toldL]
  have hL : lenL (x :: l) = (toldJ x).length + 1 + lenL l := by simp [lenL]
  rw [hL]
  simp only [List.length_append, ih]
  cases obj with
  | false => cases f <;> simp <;> omega
  | true =>
   cases ns with
   | nil => have := h rfl; simp at this
   | cons u ns =>
    have hN : lenN (u :: ns) = (quoT u).length + 1 + lenN ns := by simp [lenN]
    rw [hN]
    cases f <;> simp <;> omega
mutual
theorem sort_len : (v : J) → goodJ v = true → (toldJ (sortJ v)).length = (toldJ v).length
 | .mk k b n t l ns, h => by
  obtain ⟨h1, h2, h3, h4, h5, h6, h7, h8, h9⟩ := good_head h
  have hd := sortL_lenL l h8
  rw [sortJ, toldJ, toldJ]
  split
  ·rfl
  split
  ·rfl
  split
  ·rfl
  split
  ·rfl
  by_cases e : k = 5
  ·rcases h9 with h9 | h9 | h9 | h9 | h9 | ⟨_, hl, hu⟩
   iterate 5 omega
   subst e
   have hp := ordL_perm J.zero (unlike_nodup hu) (show ns.length = (sortL l).length by rw [sortL_len, hl])
   have a1 := toldL_len l true true ns (fun _ => hl)
   have a2 := toldL_len (ordL J.zero (sortL l) ns) true true (srtN ns) (fun _ => by rw [ordL_len, srtN_len])
   have e1 : lenL (ordL J.zero (sortL l) ns) = lenL l := by rw [← hd]; exact (hp.map _).sum_nat
   have e2 : lenN (srtN ns) = lenN ns := ((srtN_perm ns).map _).sum_nat
   have e3 : (ordL J.zero (sortL l) ns ≠ []) ↔ l ≠ [] := by
    rw [← List.length_pos_iff, ← List.length_pos_iff, ordL_len, hl]
   rw [e1, e2] at a2
   simp only [true_and, e3] at a1 a2
   simp only [if_true, decide_true, List.length_append]
   omega
  obtain rfl : ns = [] := h5.resolve_left e
  rw [if_neg e, if_neg e, if_neg e]
  have a1 := toldL_len l (decide (k = 5)) true [] (fun e9 => absurd (by simpa using e9) e)
  have a2 := toldL_len (sortL l) (decide (k = 5)) true (srtN []) (fun e9 => absurd (by simpa using e9) e)
  have e3 : (sortL l ≠ []) ↔ l ≠ [] := by
   rw [← List.length_pos_iff, ← List.length_pos_iff, sortL_len]
  rw [hd, srtN_nil] at a2
  simp only [true_and, e3] at a1 a2
  simp only [List.length_append, srtN_nil]
  omega
theorem sortL_lenL : (l : List J) → goodL l = true → lenL (sortL l) = lenL l
 | [], _ => rfl
 | x :: l, h => by
  have h2 : goodJ x = true ∧ goodL l = true := by simpa [goodL] using h
  have h3 := sort_len x h2.1
  have h4 := sortL_lenL l h2.2
  rw [sortL]
  simp only [lenL, List.map_cons, List.sum_cons, h3] at h4 ⊢
  omega
end
open Go.RowKit
def depthV (v : J) : Int := if checkJ v = 0 then (deepJ v : Int) else 0
theorem depthJ_calls {w0 : World} {S1 : Nat → Prop} {r1 : JR} (h1 : JV w0 S1 r1) (hTab : Tab w0) (hT : Lib.Utf8Tabs 0 1 w0) (w : World) (hb : Below w0.heap.size w0 w) (hsz : szJ r1.1 ≤ 20000000) :
  Calls Tryz.prog 34 #[jval r1] w fun e w' => e = .returned (.int .i64 (depthV r1.1)) ∧ Below w.heap.size w w' := by
 have HB := hid hb
 have HSZ := hid hsz
 have HTL := hid (tabsLt hT)
 clear hb hsz
 go_enter Tryz.func34, Tryz.ntmps34
 go_upto_region 1 with (refine wpList_boxJ rfl _ rfl r1 rfl ?_; intro w1 hBx)
 have HV1 := hid hBx.row
 have HB1 := hid hBx.be
 have HW1 : Hid (Below w0.heap.size w0 w1) := hid (hBx.below HB.out HB.out.size)
 obtain ⟨g1, hg1⟩ : ∃ g, w.heap.size = g := ⟨_, rfl⟩
 rw [hg1] at HV1 ⊢
 clear hBx hg1
 go_wp2_with (refine wpList_loadJ rfl _ rfl r1 HV1.out rfl ?_)
 refine (checkJ_calls h1 hTab hT w1 HW1.out HSZ.out).mono ?_
 rintro e w2 ⟨rfl, hb2⟩
 have HV2 := hid (HV1.out.below hb2)
 have HB2 := hid (HB1.out.trans (hb2.mono HB1.out.size))
 have HW2 := hid (HW1.out.trans (hb2.mono HW1.out.size))
 clear hb2 HV1 HB1 HW1
 obtain ⟨c, hc⟩ : ∃ c, checkJ r1.1 = c := ⟨_, rfl⟩
 have HC := hid hc
 rw [hc]
 clear hc
 by_cases hc0 : c = 0
 ·subst hc0
  go_wp2_with (refine wpList_loadJ rfl _ rfl r1 HV2.out rfl ?_)
  refine (may_calls h1 w2 HW2.out (tabsB hT HW2.out HTL.out.1 HTL.out.2) (by have := HSZ.out; omega)).mono ?_
  rintro e w3 ⟨rfl, hb3⟩
  have HB3 := hid (HB2.out.trans (hb3.mono HB2.out.size))
  clear hb3 HV2
  go_wp2_with fail
  go_ret
  exact ⟨by rw [depthV, if_pos HC.out]; rfl, HB3.out⟩
 ·have n0 : ((c : Int) == 0) = false := by rw [beq_eq_false_iff_ne]; exact hc0
  go_wp2_with fail
  go_ret
  exact ⟨by rw [depthV, if_neg (by rw [HC.out]; exact hc0)]; rfl, HB2.out⟩
open Go.RowKit
theorem take_one (s : List UInt8) (j : Nat) (h : j < s.length) : s.take (j + 1) = s.take j ++ [s.getD j 0] := by
 rw [List.take_add_one, List.getElem?_eq_getElem h]; simp [List.getElem?_eq_getElem h]
open Go.ChangeShapes Go.WideShapes Go.ChangeAt Go.RowKit
set_option maxRecDepth 100000
theorem addr_ok {w : World} {a : Addr} {v : Value} (h : w.cell? a = some v) : a.spot = none ∧ a.block < w.heap.size := by
 unfold World.cell? at h
 rcases Nat.lt_or_ge a.block w.heap.size with h9 | h9
 ·refine ⟨?_, h9⟩
  cases hs : a.spot with
  | none => rfl
  | some s => rw [hs] at h; split at h <;> simp at h
 rw [Array.getElem?_eq_none h9] at h; cases h
theorem add_zero (a : Addr) : a.add 0 = a := by unfold Addr.add; rw [if_pos rfl]
theorem bulk_all {H : Type} (l : List (DataW H)) : Rows.uptoBulkAll l = (l.map Rows.uptoBulk).sum := by
 induction l with
 | nil => simp [Rows.uptoBulkAll]
 | cons x l ih => simp only [Rows.uptoBulkAll, List.map_cons, List.sum_cons, ih]
theorem part_le {H : Type} {d : DataW H} {l : List (DataW H)} (h : d ∈ l) : Rows.uptoBulk d ≤ Rows.uptoBulkAll l := by
 induction l with
 | nil => cases h
 | cons x l ih =>
  simp only [Rows.uptoBulkAll]
  rcases List.mem_cons.1 h with rfl | h
  ·omega
  have := ih h; omega
section
variable {H : Type} {enc : TypeId × Value → H} {W : World} {base : Nat} {sp : Nat → Bool} {held : Bool}
theorem string_cell {n : Nat} {cs : List Value} {y : DataW H × List MemPlace} (h : DataW.trod enc Tryz.prog W base sp held n 9 cs = some y) : ∃ l : List UInt8, cs = [.string ⟨l.toArray⟩] ∧ Rows.uptoBulk y.1 = l.length + 1 := by
 obtain ⟨s, rfl, rfl, _⟩ := DataW.trod_string Tryz.underlying9 h
 exact ⟨s.data.toList, rfl, by simp [Rows.uptoBulk]⟩
theorem trod_struct6 {P : Program} {t : TypeId} {f0 f1 f2 f3 f4 f5 : Field} {fuel : Nat} {cs : List Value} {x : DataW H × List MemPlace} (ht : P.underlying t = some (.struct #[f0, f1, f2, f3, f4, f5])) (h : DataW.trod enc P W base sp held fuel t cs = some x) :
  ∃ y0 y1 y2 y3 y4 y5 n, x = (.agg [y0.1, y1.1, y2.1, y3.1, y4.1, y5.1], y0.2 ++ (y1.2 ++ (y2.2 ++ (y3.2 ++ (y4.2 ++ y5.2))))) ∧ cs.length = P.cellsOf t ∧ DataW.trod enc P W base sp held n f0.type ((cs.drop f0.offset).take (P.cellsOf f0.type)) = some y0 ∧
   DataW.trod enc P W base sp held n f1.type ((cs.drop f1.offset).take (P.cellsOf f1.type)) = some y1 ∧ DataW.trod enc P W base sp held n f2.type ((cs.drop f2.offset).take (P.cellsOf f2.type)) = some y2 ∧
   DataW.trod enc P W base sp held n f3.type ((cs.drop f3.offset).take (P.cellsOf f3.type)) = some y3 ∧ DataW.trod enc P W base sp held n f4.type ((cs.drop f4.offset).take (P.cellsOf f4.type)) = some y4 ∧
   DataW.trod enc P W base sp held n f5.type ((cs.drop f5.offset).take (P.cellsOf f5.type)) = some y5 := by
 obtain ⟨xs, n, _, rfl, hl, hlen, hf⟩ := DataW.trod_struct ht h
 match xs, hlen with
 | [y0, y1, y2, y3, y4, y5], _ => exact ⟨y0, y1, y2, y3, y4, y5, n, by simp, hl, by simpa using hf 0 f0 rfl, by simpa using hf 1 f1 rfl, by simpa using hf 2 f2 rfl, by simpa using hf 3 f3 rfl, by simpa using hf 4 f4 rfl, by simpa using hf 5 f5 rfl⟩
theorem take1 {cs : List Value} {i : Nat} {v : Value} (h : (cs.drop i).take 1 = [v]) : cs[i]? = some v := by
 have := congrArg (·[0]?) h
 simpa using this
theorem trod_struct3 {P : Program} {t : TypeId} {f0 f1 f2 : Field} {fuel : Nat} {cs : List Value} {x : DataW H × List MemPlace} (ht : P.underlying t = some (.struct #[f0, f1, f2])) (h : DataW.trod enc P W base sp held fuel t cs = some x) :
  ∃ y0 y1 y2 n, x = (.agg [y0.1, y1.1, y2.1], y0.2 ++ (y1.2 ++ y2.2)) ∧ cs.length = P.cellsOf t ∧ DataW.trod enc P W base sp held n f0.type ((cs.drop f0.offset).take (P.cellsOf f0.type)) = some y0 ∧
   DataW.trod enc P W base sp held n f1.type ((cs.drop f1.offset).take (P.cellsOf f1.type)) = some y1 ∧ DataW.trod enc P W base sp held n f2.type ((cs.drop f2.offset).take (P.cellsOf f2.type)) = some y2 := by
 obtain ⟨xs, n, _, rfl, hl, hlen, hf⟩ := DataW.trod_struct ht h
 match xs, hlen with
 | [y0, y1, y2], _ => exact ⟨y0, y1, y2, n, by simp, hl, by simpa using hf 0 f0 rfl, by simpa using hf 1 f1 rfl, by simpa using hf 2 f2 rfl⟩
theorem cellsStr : Tryz.prog.cellsOf 9 = 1 := by kernel_rfl
theorem cellsBool : Tryz.prog.cellsOf 4 = 1 := by kernel_rfl
theorem cellsInt : Tryz.prog.cellsOf 3 = 1 := by kernel_rfl
theorem cellsKind : Tryz.prog.cellsOf 24 = 1 := by kernel_rfl
theorem cellsDec : Tryz.prog.cellsOf 26 = 3 := by kernel_rfl
theorem cellsJ : Tryz.prog.cellsOf 30 = 8 := by kernel_rfl
theorem cellsJs : Tryz.prog.cellsOf 27 = 1 := by kernel_rfl
theorem cellsStrs : Tryz.prog.cellsOf 28 = 1 := by kernel_rfl
theorem int_cell {n : Nat} {cs : List Value} {y : DataW H × List MemPlace} {t : TypeId} (ht : Tryz.prog.underlying t = some (.int .i64)) (h : DataW.trod enc Tryz.prog W base sp held n t cs = some y) : ∃ z : Int, cs = [.int .i64 z] ∧ Rows.uptoBulk y.1 = 1 := by
 obtain ⟨z, rfl, rfl, _⟩ := DataW.trod_int ht h
 exact ⟨z, rfl, by simp [Rows.uptoBulk]⟩
theorem take3 {cs : List Value} {i : Nat} {a b c : Value} (h : (cs.drop i).take 3 = [a, b, c]) : cs[i]? = some a ∧ cs[i + 1]? = some b ∧ cs[i + 2]? = some c := by
 have h0 := congrArg (·[0]?) h
 have h1 := congrArg (·[1]?) h
 have h2 := congrArg (·[2]?) h
 simp at h0 h1 h2
 exact ⟨h0, h1, h2⟩
theorem dec_cells {n : Nat} {cs : List Value} {y : DataW H × List MemPlace} (h : DataW.trod enc Tryz.prog W base sp held n 26 cs = some y) : ∃ d : Dec, cs = [.bool d.neg, .string ⟨d.digits.toArray⟩, .int .i64 d.exp] ∧ d.digits.length + 1 ≤ Rows.uptoBulk y.1 := by
 obtain ⟨y0, y1, y2, m, rfl, hl, h0, h1, h2⟩ := trod_struct3 Tryz.underlying26 h
 rw [cellsDec] at hl
 simp only [cellsStr, cellsBool, cellsInt] at h0 h1 h2
 obtain ⟨b, e0, b0⟩ := DataW.trod_bool Tryz.underlying4 h0
 obtain ⟨l1, e1, b1⟩ := string_cell h1
 obtain ⟨z, e2, b2⟩ := int_cell Tryz.underlying3 h2
 have c0 := take1 e0
 have c1 := take1 e1
 have c2 := take1 e2
 refine ⟨⟨b, l1, z⟩, ?_, ?_⟩
 ·refine List.ext_getElem? (fun i => ?_)
  match i with
  | 0 => exact c0
  | 1 => exact c1
  | 2 => exact c2
  | i + 3 => rw [List.getElem?_eq_none (by omega)]; rfl
 simp only [Rows.uptoBulk, Rows.uptoBulkAll, b1]
 omega
theorem cell_nams {n : Nat} {cs : List Value} {y : DataW H × List MemPlace} (h : DataW.trod enc Tryz.prog W base sp held n 28 cs = some y) : ∃ v ns, cs = [v] ∧ NamS W (fun _ => True) v ns ∧ szN ns + 1 ≤ Rows.uptoBulk y.1 := by
 rcases Deep.open_slice Tryz.underlying28 h with ⟨rfl, rfl⟩ | ⟨a, len, cap, m, k, D, Pl, rfl, _, hl, hm, hmm, rfl, hx⟩
 ·exact ⟨_, [], rfl, NamS.nil _ _, by simp [Rows.uptoBulk, szN]⟩
 have hlm : len ≤ m := by rw [hmm]; split <;> omega
 have key : ∀ i, i < m → ∃ s : List UInt8, W.cell? (a.add i) = some (.string ⟨s.toArray⟩) ∧ s.length + 1 = Rows.uptoBulk (D i) := by
  intro i hi
  obtain ⟨cs', h1, h2⟩ := hx i hi
  rw [cellsStr] at h1
  obtain ⟨_, h3, h4⟩ := World.cells?_some h1
  obtain ⟨s, e0, e1⟩ := string_cell h2
  refine ⟨s, ?_, e1.symm⟩
  have := h4 0 (by omega)
  rw [add_zero, Nat.mul_one] at this
  rw [this, e0]; rfl
 obtain ⟨f, hf⟩ := Deep.choose_lt key
 have hlen : ((List.range len).map f).length = len := by simp
 refine ⟨_, (List.range len).map f, rfl, ⟨some a, cap, by rw [hlen], by omega, by omega, fun h0 => ?_⟩, ?_⟩
 ·rw [hlen] at h0
  have h9 := (hf 0 (by omega)).1
  rw [add_zero] at h9
  obtain ⟨hs, hb⟩ := addr_ok h9
  obtain ⟨b, off, s⟩ := a
  simp only at hs hb
  subst hs
  refine ⟨b, off, rfl, InS.any _ _ _ _, hb, fun i s hi => ?_⟩
  have hj : i < len := by have := (List.getElem?_eq_some_iff.1 hi).1; omega
  rw [List.getElem?_map, List.getElem?_range hj] at hi
  have h1 := (hf i (by omega)).1
  rw [addr_off rfl] at h1
  rw [h1]
  simp only [Option.map_some, Option.some.injEq] at hi
  rw [hi]
 have e : szN ((List.range len).map f) = Rows.uptoBulkAll ((List.range len).map D) := by
  rw [bulk_all]
  unfold szN
  rw [List.map_map, List.map_map]
  refine congrArg List.sum (List.map_congr_left (fun i hi => ?_))
  exact (hf i (by have := List.mem_range.1 hi; omega)).2
 rw [e]
 simp only [Rows.uptoBulk]
 omega
theorem szL_sum (l : List J) : szL l = (l.map szJ).sum := by
 induction l with
 | nil => simp [szL]
 | cons x l ih => simp only [szL, List.map_cons, List.sum_cons, ih]
theorem sum_le (f g : Nat → Nat) : ∀ (l : List Nat), (∀ i ∈ l, f i ≤ g i) → (l.map f).sum ≤ (l.map g).sum
 | [], _ => by simp
 | x :: l, h => by
  simp only [List.map_cons, List.sum_cons]
  have h1 := h x (by simp)
  have h2 := sum_le f g l (fun i hi => h i (by simp [hi]))
  omega
theorem json_cells : ∀ (N n : Nat) (cs : List Value) (y : DataW H × List MemPlace), DataW.trod enc Tryz.prog W base sp held n 30 cs = some y → Rows.uptoBulk y.1 ≤ N → ∃ r : JR, cs = jcells r ∧ JV W (fun _ => True) r ∧ szJ r.1 ≤ Rows.uptoBulk y.1
 | 0, n, cs, y, h, hN => by
  obtain ⟨y0, y1, y2, y3, y4, y5, m, rfl, hl, h0, h1, h2, h3, h4, h5⟩ := trod_struct6 Tryz.underlying30 h
  simp only [Rows.uptoBulk] at hN
  omega
 | N + 1, n, cs, y, h, hN => by
  obtain ⟨y0, y1, y2, y3, y4, y5, m, rfl, hl, h0, h1, h2, h3, h4, h5⟩ := trod_struct6 Tryz.underlying30 h
  rw [cellsJ] at hl
  simp only [cellsStr, cellsKind, cellsBool, cellsDec, cellsJs, cellsStrs] at h0 h1 h2 h3 h4 h5
  obtain ⟨kd, e0, b0⟩ := int_cell Tryz.underlying24 h0
  obtain ⟨bb, e1, b1⟩ := DataW.trod_bool Tryz.underlying4 h1
  obtain ⟨d, e2, b2⟩ := dec_cells h2
  obtain ⟨tx, e3, b3⟩ := string_cell h3
  obtain ⟨nv, ns, e5, H5, b5⟩ := cell_nams h5
  have c0 := take1 e0
  have c1 := take1 e1
  have c2 := take3 e2
  have c3 := take1 e3
  have c5 := take1 e5
  simp only [Rows.uptoBulk, Rows.uptoBulkAll] at hN
  have mk : ∀ (lv : Value) (l : List J), cs[6]? = some lv → cs = jcells (.mk kd bb d tx l ns, lv, nv) := fun lv l c4 => by
   refine List.ext_getElem? (fun i => ?_)
   match i with
   | 0 => exact c0
   | 1 => exact c1
   | 2 => exact c2.1
   | 3 => exact c2.2.1
   | 4 => exact c2.2.2
   | 5 => exact c3
   | 6 => exact c4
   | 7 => exact c5
   | i + 8 => rw [List.getElem?_eq_none (by omega)]; rfl
  rcases Deep.open_slice Tryz.underlying27 h4 with ⟨e4, rfl⟩ | ⟨a, len, cap, m4, k4, D, Pl, e4, _, hlc, hcm, hmm, rfl, hx⟩
  ·have c4 := take1 e4
   refine ⟨(.mk kd bb d tx [] ns, _, nv), mk _ _ c4, .mk _ (fun _ => (.nilIface, .nilIface)) H5 ⟨none, 0, rfl, Nat.le_refl _, Nat.zero_le _, fun h9 => by simp [J.l] at h9⟩ (fun i j hi => by simp [J.l] at hi), ?_⟩
   simp only [szJ, szL, Rows.uptoBulk, Rows.uptoBulkAll, b3]
   omega
  have c4 := take1 e4
  have hlm : len ≤ m4 := by rw [hmm]; split <;> omega
  simp only [Rows.uptoBulk] at hN
  have hDN : ∀ i, i < m4 → Rows.uptoBulk (D i) ≤ N := fun i hi => by
   rcases Nat.lt_or_ge i len with h9 | h9
   ·have := part_le (H := H) (d := D i) (l := (List.range len).map D) (List.mem_map.2 ⟨i, List.mem_range.2 h9, rfl⟩)
    omega
   have := part_le (H := H) (d := D i) (l := (List.range (m4 - len)).map fun j => D (len + j)) (List.mem_map.2 ⟨i - len, List.mem_range.2 (by omega), by rw [show len + (i - len) = i by omega]⟩)
   omega
  have key : ∀ i, i < m4 → ∃ q : JR, (∀ j, j < 8 → W.cell? ((a.add (i * 8)).add j) = (jcells q)[j]?) ∧ JV W (fun _ => True) q ∧ szJ q.1 ≤ Rows.uptoBulk (D i) := by
   intro i hi
   obtain ⟨cs', g1, g2⟩ := hx i hi
   rw [cellsJ] at g1
   obtain ⟨_, g3, g4⟩ := World.cells?_some g1
   obtain ⟨q, q0, q1, q2⟩ := json_cells N _ _ _ g2 (hDN i hi)
   refine ⟨q, fun j hj => ?_, q1, q2⟩
   rw [g4 j hj, ← q0]
  haveI : Inhabited JR := ⟨jzero⟩
  obtain ⟨f, hf⟩ := Deep.choose_lt key
  have hlen : ((List.range len).map (fun i => (f i).1)).length = len := by simp
  have hget : ∀ i j, ((List.range len).map (fun i => (f i).1))[i]? = some j → i < len ∧ j = (f i).1 := fun i j hi => by
   have hj : i < len := by have := (List.getElem?_eq_some_iff.1 hi).1; omega
   rw [List.getElem?_map, List.getElem?_range hj] at hi
   simp only [Option.map_some, Option.some.injEq] at hi
   exact ⟨hj, hi.symm⟩
  refine ⟨(.mk kd bb d tx ((List.range len).map (fun i => (f i).1)) ns, _, nv), mk _ _ c4, .mk _ (fun i => (f i).2) H5 ⟨some a, cap, by simp only [J.l]; rw [hlen], by simp only [J.l]; rw [hlen]; exact hlc, by simp only [J.l]; rw [hlen]; omega, fun h9 => ?_⟩ (fun i j hi => ?_), ?_⟩
  ·simp only [J.l] at h9 ⊢
   rw [hlen] at h9
   have h8 := (hf 0 (by omega)).1 0 (by omega)
   rw [Nat.zero_mul, add_zero, add_zero] at h8
   obtain ⟨hs, hb⟩ := addr_ok (v := .int .i64 (f 0).1.kind) h8
   obtain ⟨b, off, s⟩ := a
   simp only at hs hb
   subst hs
   refine ⟨b, off, rfl, InS.any _ _ _ _, hb, fun i j hi c hc => ?_⟩
   obtain ⟨hil, rfl⟩ := hget i j hi
   have h1 := (hf i (by omega)).1 c hc
   rw [Deep.add_add, addr_off rfl] at h1
   rw [Nat.add_assoc, h1]
  ·simp only [J.l] at hi
   obtain ⟨hil, rfl⟩ := hget i j hi
   exact (hf i (by omega)).2.1
  have e : szL ((List.range len).map (fun i => (f i).1)) ≤ Rows.uptoBulkAll ((List.range len).map D) := by
   rw [bulk_all, szL_sum, List.map_map, List.map_map]
   exact sum_le _ _ _ (fun i hi => (hf i (by have := List.mem_range.1 hi; omega)).2.2)
  simp only [szJ, Rows.uptoBulk, Rows.uptoBulkAll, b3]
  omega
theorem open_json {r : Reach} {b0 : Nat} {v : Value} {x : DataW H} {p : List MemPlace}
  (hv : Value.okWide Tryz.prog W r b0 30 v) (h : DataW.Trod enc Tryz.prog W base sp held 30 v x p) : ∃ q : JR, v = jval q ∧ JV W (fun _ => True) q ∧ szJ q.1 ≤ Rows.uptoBulk x := by
 simp only [Value.okWide, Tryz.underlying30] at hv
 obtain ⟨cs, hcs, _⟩ := hv
 subst hcs
 obtain ⟨fuel, hf⟩ := h
 obtain ⟨q, e0, e1, e2⟩ := json_cells _ _ _ _ hf (Nat.le_refl _)
 refine ⟨q, ?_, e1, e2⟩
 have h2 : cs = (jcells q).toArray := by rw [← e0]; rfl
 rw [h2]; rfl
end
end Go.Proofs.YtfclfaidmipjpaaGreatDoor
