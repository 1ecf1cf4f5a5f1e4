/- Plain laws: a decimal's value as a whole number of ten to a power; what made answers is told by that number. No program in sight. -/
import Derived.Test.YtkakmjdfecbhaaaGreatDoorPla1
namespace Go.Proofs.YtkakmjdfecbhaaaGreatDoor

/-- A decimal as a whole number of ten to a power that is not above its own. -/
def ival (d : Dec) (e : Int) : Int := if d.neg then -(mag d e : Int) else (mag d e : Int)
/-- made, at a whole number of ten to a power. -/
def madeZ (z : Int) (e : Int) : Dec × Int := madeS (decide (z < 0)) (digS z.natAbs) e

theorem digS_cons {n : Nat} (h : n ≠ 0) : ∃ c t, digS n = c :: t ∧ c ≠ 48 := by
  obtain ⟨h1, h2, h3⟩ := digS_dig n
  cases hd : digS n with
  | nil => rw [hd] at h2; exact absurd h2.symm h
  | cons c t => rw [hd] at h3; exact ⟨c, t, rfl, trim0_head h3⟩
theorem dval_zeros (l : List UInt8) (k : Nat) : dval (l ++ List.replicate k 48) = dval l * 10 ^ k := by
  induction k with
  | zero => simp
  | succ k ih =>
    rw [List.replicate_succ', ← List.append_assoc, dval_snoc, ih, Nat.pow_succ]
    show 10 * (dval l * 10 ^ k) + (48 - 48) = _
    rw [← Nat.mul_assoc, Nat.mul_comm 10, Nat.mul_right_comm, Nat.mul_assoc]; omega
theorem digS_scale {n : Nat} (h : n ≠ 0) (k : Nat) : digS (n * 10 ^ k) = digS n ++ List.replicate k 48 := by
  obtain ⟨c, t, hd, hc⟩ := digS_cons h
  obtain ⟨h1, h2, h3⟩ := digS_dig n
  symm
  apply digS_eq
  · exact Dig_append.2 ⟨h1, Dig_zeros _⟩
  · rw [hd, List.cons_append, trim0_same _ _ hc]
  · rw [dval_zeros, h2]
theorem madeS_dig (s : Bool) (n : Nat) (e : Int) : madeS s (digS n) e = if n = 0 then (Dec.zero, 0) else if mayB (decOf s (digS n) e) then (decOf s (digS n) e, 0) else (Dec.zero, 4) := by
  obtain ⟨h1, h2, h3⟩ := digS_dig n
  unfold madeS
  rw [h3]
  by_cases h : n = 0
  · subst h; rfl
  · obtain ⟨c, t, hd, hc⟩ := digS_cons h
    rw [if_neg h, if_neg (by rw [hd]; simp)]
theorem decOf_zeros (s : Bool) (l : List UInt8) (k : Nat) (e : Int) : decOf s (l ++ List.replicate k 48) e = decOf s l (e + k) := by
  unfold decOf
  rw [trimR_zeros]
  simp only [Dec.mk.injEq, true_and]
  simp; omega
theorem madeS_scale (s : Bool) (n k : Nat) (e : Int) : madeS s (digS (n * 10 ^ k)) e = madeS s (digS n) (e + k) := by
  rw [madeS_dig, madeS_dig]
  have hp : 0 < 10 ^ k := Nat.pow_pos (by omega)
  by_cases h : n = 0
  · subst h; simp
  · have : ¬ n * 10 ^ k = 0 := fun e => h ((Nat.mul_eq_zero.1 e).resolve_right (by omega))
    rw [if_neg h, if_neg this, digS_scale h, decOf_zeros]
theorem dval_trimR (l : List UInt8) : dval l = dval (trimR l) * 10 ^ (l.length - (trimR l).length) := by
  obtain ⟨n, hn⟩ : ∃ n, l.length = n := ⟨_, rfl⟩
  induction n generalizing l with
  | zero => obtain rfl := List.length_eq_zero_iff.1 hn; rfl
  | succ n ih =>
    rcases nil_or_snoc l with rfl | ⟨zs, y, rfl⟩
    · simp at hn
    · have hz : zs.length = n := by simpa using hn
      by_cases hy : y = 48
      · subst hy
        have h1 : trimR (zs ++ [48]) = trimR zs := trimR_zeros zs 1
        have h2 := trimR_len zs
        rw [h1, dval_snoc, ih zs hz]
        show 10 * (dval (trimR zs) * 10 ^ (zs.length - (trimR zs).length)) + (48 - 48) = _
        have hl : (zs ++ [(48 : UInt8)]).length - (trimR zs).length = (zs.length - (trimR zs).length) + 1 := by
          rw [List.length_append, List.length_singleton]; omega
        rw [hl, Nat.pow_succ, Nat.mul_comm 10, Nat.mul_assoc]
        exact Nat.add_zero _
      · rw [trimR_same _ _ hy]; simp
theorem mag_zero (e : Int) : mag Dec.zero e = 0 := by simp [mag, Dec.zero, dval]
theorem mag_shift (d : Dec) {e e0 : Int} (h : e ≤ e0) (h0 : e0 ≤ d.exp) : mag d e = mag d e0 * 10 ^ (e0 - e).toNat := by
  unfold mag
  rw [Nat.mul_assoc, ← Nat.pow_add]
  congr 2; omega
theorem decOf_mag (s : Bool) (n : Nat) {e e' : Int} (h : e' ≤ e) : mag (decOf s (digS n) e) e' = n * 10 ^ (e - e').toNat := by
  have h1 := (digS_dig n).2.1
  have h2 := dval_trimR (digS n)
  have h3 := trimR_len (digS n)
  rw [h1] at h2
  unfold mag decOf
  simp only
  rw [show (e + ((digS n).length : Int) - ((trimR (digS n)).length : Int) - e').toNat = ((digS n).length - (trimR (digS n)).length) + (e - e').toNat by omega, Nat.pow_add, ← Nat.mul_assoc, ← h2]
theorem decOf_exp (s : Bool) (l : List UInt8) (e : Int) : e ≤ (decOf s l e).exp := by
  have h3 := trimR_len l
  simp only [decOf]; omega
theorem may_neg {d : Dec} (h : mayB d = true) (hn : d.neg = true) : d.digits ≠ [] := by
  intro he
  obtain rfl := may_nil h he
  simp [Dec.zero] at hn
theorem may_val {d : Dec} (h : mayB d = true) (hne : d.digits ≠ []) : 0 < dval d.digits ∧ digS (dval d.digits) = d.digits := by
  obtain ⟨c, t, hd, hdig, hl, hc, hlast, h1, h2⟩ := may_cons h hne
  rw [hd]
  have := dval_low hdig hc
  have h0 : 0 < 10 ^ t.length := Nat.pow_pos (by omega)
  exact ⟨by omega, (digS_eq hdig (trim0_same _ _ hc) _ rfl).symm⟩
theorem may_mag {d : Dec} (h : mayB d = true) (hne : d.digits ≠ []) (e : Int) : 0 < mag d e := Nat.mul_pos (may_val h hne).1 (Nat.pow_pos (by omega))
/-- A decimal that may be is what made answers at its value. -/
theorem made_self {d : Dec} (h : mayB d = true) {e : Int} (he : e ≤ d.exp) : madeZ (ival d e) e = (d, 0) := by
  by_cases hne : d.digits = []
  · obtain rfl := may_nil h hne
    have : ival Dec.zero e = 0 := by simp [ival, mag_zero]
    unfold madeZ; rw [this]; rfl
  · have hm := may_mag h hne e
    have hs : decide (ival d e < 0) = d.neg := by
      unfold ival
      cases d.neg <;> simp <;> omega
    have ha : (ival d e).natAbs = mag d e := by
      unfold ival
      cases d.neg <;> simp
    unfold madeZ
    rw [hs, ha]
    unfold mag
    rw [madeS_scale, (may_val h hne).2]
    have := made_ok h hne 0 0 (e + ((d.exp - e).toNat : Int)) (by omega)
    simpa using this
theorem madeZ_scale (z : Int) (k : Nat) (e : Int) : madeZ (z * 10 ^ k) e = madeZ z (e + k) := by
  have hp : 0 < 10 ^ k := Nat.pow_pos (by omega)
  have hz : ((10 : Int) ^ k) = ((10 ^ k : Nat) : Int) := by simp
  unfold madeZ
  rw [hz, Int.natAbs_mul, Int.natAbs_natCast, madeS_scale]
  congr 1
  have hp' : (0 : Int) < ((10 ^ k : Nat) : Int) := by omega
  by_cases h : z < 0
  · rw [decide_eq_true h, decide_eq_true]; exact Int.mul_neg_of_neg_of_pos h hp'
  · rw [decide_eq_false h, decide_eq_false]
    have := Int.mul_nonneg (show 0 ≤ z by omega) (show 0 ≤ ((10 ^ k : Nat) : Int) by omega)
    omega
theorem madeZ_may (z e : Int) (h : (madeZ z e).2 = 0) : mayB (madeZ z e).1 = true := made_may _ _ _ h
theorem madeZ_zero (e : Int) : madeZ 0 e = (Dec.zero, 0) := rfl
theorem madeZ_exp (z e : Int) (h : (madeZ z e).2 = 0) (hz : z ≠ 0) : e ≤ (madeZ z e).1.exp := by
  unfold madeZ at h ⊢
  rw [madeS_dig, if_neg (by omega)] at h ⊢
  split at h
  · rename_i hm; rw [if_pos hm]; exact decOf_exp _ _ _
  · cases h
/-- What made answers has the value that it was made of. -/
theorem madeZ_val (z e : Int) (h : (madeZ z e).2 = 0) {e' : Int} (he : e' ≤ e) : ival (madeZ z e).1 e' = z * 10 ^ (e - e').toNat := by
  by_cases hz : z = 0
  · subst hz; rw [madeZ_zero]; simp [ival, mag_zero]
  · unfold madeZ at h ⊢
    rw [madeS_dig, if_neg (by omega)] at h ⊢
    split at h
    · rename_i hm
      rw [if_pos hm]
      unfold ival
      rw [decOf_mag _ _ he]
      simp only [decOf]
      by_cases hn : z < 0
      · simp only [hn, decide_true, if_true]
        rw [Int.natCast_mul, show ((z.natAbs : Nat) : Int) = -z by omega]
        simp [Int.neg_mul]
      · simp only [hn, decide_false, Bool.false_eq_true, if_false]
        rw [Int.natCast_mul, show ((z.natAbs : Nat) : Int) = z by omega]
        simp
    · cases h
theorem ival_shift (d : Dec) {e e0 : Int} (h : e ≤ e0) (h0 : e0 ≤ d.exp) : ival d e = ival d e0 * 10 ^ (e0 - e).toNat := by
  unfold ival
  rw [mag_shift d h h0]
  split <;> simp [Int.neg_mul]
/-- Two decimals of one value are one. -/
theorem ival_inj {a b : Dec} (ha : mayB a = true) (hb : mayB b = true) {e : Int} (h1 : e ≤ a.exp) (h2 : e ≤ b.exp) (h : ival a e = ival b e) : a = b := by
  have e1 := made_self ha h1
  have e2 := made_self hb h2
  rw [h] at e1
  exact (Prod.mk.inj (e1.symm.trans e2)).1
end Go.Proofs.YtkakmjdfecbhaaaGreatDoor
