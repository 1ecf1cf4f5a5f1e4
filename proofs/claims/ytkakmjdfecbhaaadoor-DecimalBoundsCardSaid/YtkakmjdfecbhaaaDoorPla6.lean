/- Plain facts of the bounds: what comes of a hundred nines. No program in sight. -/
import Derived.Test.YtkakmjdfecbhaaaDoorPla5
import Derived.ProofKit
namespace Go.Proofs.YtkakmjdfecbhaaaDoor

/-- A hundred nines. -/
def nines : List UInt8 := List.replicate 100 57
/-- A nought, a point, noughts: a thousand bytes. -/
def noughtsP : List UInt8 := (List.replicate 1000 (48 : UInt8)).set 1 46
/-- The greatest. -/
def mostD : Dec := ⟨false, nines, 1000⟩
def oneD : Dec := ⟨false, [49], 0⟩
theorem nines_len : nines.length = 100 := by simp [nines]
theorem noughtsP_len : noughtsP.length = 1000 := by kernel_rfl
theorem bp1 : parseS (nines ++ [101, 49, 48, 48, 48]) = (mostD, 0) := by kernel_rfl
theorem bp2 : parseS (nines ++ [57, 101, 49, 48, 48, 48]) = (Dec.zero, 4) := by kernel_rfl
theorem bp3 : parseS (nines ++ [101, 49, 48, 48, 49]) = (Dec.zero, 4) := by kernel_rfl
theorem bp4 : parseS noughtsP = (Dec.zero, 0) := by kernel_rfl
theorem bp5 : parseS (noughtsP ++ [48]) = (Dec.zero, 3) := by kernel_rfl
theorem most_may : mayB mostD = true := by kernel_rfl
theorem nines_val : dval nines = 10 ^ 100 - 1 := by kernel_rfl
theorem digS_one : digS 1 = [49] := by
  symm; exact digS_eq (by intro c hc; simp at hc; subst hc; decide) rfl 1 rfl
theorem madeS_one (s : Bool) (e : Int) : madeS s (digS 1) e = if mayB ⟨s, [49], e⟩ then (⟨s, [49], e⟩, 0) else (Dec.zero, 4) := by
  rw [digS_one]
  have : decOf s [49] e = ⟨s, [49], e⟩ := by
    have h1 : trimR [49] = [49] := rfl
    unfold decOf; rw [h1]; simp
  unfold madeS
  rw [show trim0 [49] = [49] from rfl, this, if_neg (by simp)]
/-- A number that does not end on a nought and has more than a hundred digits is no decimal's. -/
theorem madeS_great (s : Bool) (n : Nat) (e : Int) (h1 : n % 10 ≠ 0) (h2 : 10 ^ 100 ≤ n) : madeS s (digS n) e = (Dec.zero, 4) := by
  have hn : n ≠ 0 := by intro h; subst h; simp at h1
  rw [madeS_dig, if_neg hn]
  obtain ⟨g1, g2, g3⟩ := digS_dig n
  have hv := dval_trimR (digS n)
  have hl : (trimR (digS n)).length = (digS n).length := by
    have h3 := trimR_len (digS n)
    rcases Nat.lt_or_ge (trimR (digS n)).length (digS n).length with hlt | hge
    · exfalso
      obtain ⟨k, hk⟩ : ∃ k, (digS n).length - (trimR (digS n)).length = k + 1 := ⟨_, (Nat.succ_pred_eq_of_pos (by omega)).symm⟩
      rw [hk, g2, Nat.pow_succ, ← Nat.mul_assoc] at hv
      rw [hv] at h1
      exact h1 (Nat.mul_mod_left _ _)
    · omega
  have hlen : 100 < (digS n).length := by
    apply Nat.lt_of_not_le; intro hle
    have h4 := dval_lt g1
    rw [g2] at h4
    have h5 : 10 ^ (digS n).length ≤ 10 ^ 100 := Nat.pow_le_pow_right (by omega) hle
    omega
  have hm : mayB (decOf s (digS n) e) = false := by
    unfold decOf
    cases hq : trimR (digS n) with
    | nil => rw [hq] at hl; simp at hl; omega
    | cons c t =>
      rw [hq] at hl
      simp only [List.length_cons] at hl
      simp only [mayB]
      rw [decide_eq_false (show ¬ t.length + 1 ≤ 100 by omega), Bool.and_false]
      simp
  rw [hm]; simp
theorem madeZ_nat (n : Nat) (e : Int) : madeZ (n : Int) e = madeS false (digS n) e := by
  unfold madeZ
  rw [decide_eq_false (Int.not_lt.2 (Int.natCast_nonneg _)), Int.natAbs_natCast]
theorem madeZ_pow (k : Nat) (e : Int) : madeZ ((1 * 10 ^ k : Nat) : Int) e = if mayB ⟨false, [49], e + k⟩ then (⟨false, [49], e + k⟩, 0) else (Dec.zero, 4) := by
  rw [madeZ_nat, madeS_scale, madeS_one]
theorem bsum1 : sumS [mostD, ⟨false, [49], 1000⟩] = (Dec.zero, 4) := by
  rw [sum_eq (e := -1000) (by kernel_rfl) (by omega)]
  have h : ∀ k, k = 2100 → isum [mostD, ⟨false, [49], 1000⟩] (-1000) = ((1 * 10 ^ k : Nat) : Int) := by rintro k rfl; kernel_rfl
  obtain ⟨k, hk⟩ : ∃ k, k = 2100 := ⟨_, rfl⟩
  rw [h k hk, madeZ_pow, hk]
  rfl
theorem bsum2 : sumS [mostD, mostD, ⟨true, [49], -1000⟩] = (Dec.zero, 4) := by
  rw [sum_eq (e := -1000) (by kernel_rfl) (by omega)]
  have h : isum [mostD, mostD, ⟨true, [49], -1000⟩] (-1000) = ((2 * (10 ^ 100 - 1) * 10 ^ 2000 - 1 : Nat) : Int) := by kernel_rfl
  rw [h, madeZ_nat]
  exact madeS_great _ _ _ (by decide +kernel) (by decide +kernel)
theorem bsum3 : sumS [mostD, oneD, ⟨true, nines, 1000⟩] = (oneD, 0) := by
  rw [sum_eq (e := -1000) (by kernel_rfl) (by omega)]
  have h : ∀ k, k = 1000 → isum [mostD, oneD, ⟨true, nines, 1000⟩] (-1000) = ((1 * 10 ^ k : Nat) : Int) := by rintro k rfl; kernel_rfl
  obtain ⟨k, hk⟩ : ∃ k, k = 1000 := ⟨_, rfl⟩
  rw [h k hk, madeZ_pow, hk]
  rfl
theorem bmul : mulS mostD ⟨false, [49], 1⟩ = (Dec.zero, 4) := by
  have h1 : mayAll [mostD, ⟨false, [49], 1⟩] = true := by kernel_rfl
  have h2 : digS (dval mostD.digits * dval [49]) = nines := by
    symm; exact digS_eq (by intro c hc; rw [(List.mem_replicate.1 hc).2]; decide) (by kernel_rfl) _ (by kernel_rfl)
  unfold mulS
  rw [if_pos h1, h2]
  exact (show madeS (false != false) nines (1000 + 1) = (Dec.zero, 4) by kernel_rfl)
end Go.Proofs.YtkakmjdfecbhaaaDoor
