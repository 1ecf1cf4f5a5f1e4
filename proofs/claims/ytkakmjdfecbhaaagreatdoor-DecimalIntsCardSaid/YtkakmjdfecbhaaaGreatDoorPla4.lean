/- Plain laws: sum, order, product and shares of decimals, told by whole numbers of ten to one power. No program in sight. -/
import Derived.Test.YtkakmjdfecbhaaaGreatDoorPla3
import Derived.Test.YtkakmjdfecbhaaaGreatDoorDec9
namespace Go.Proofs.YtkakmjdfecbhaaaGreatDoor

theorem may_low {d : Dec} (h : mayB d = true) {e : Int} (he : e ≤ -1000) : e ≤ d.exp := by
  have := (may_bounds h).2.2.1; omega
theorem mayAll_mem {ds : List Dec} (h : mayAll ds = true) {d : Dec} (hd : d ∈ ds) : mayB d = true := by
  simp only [mayAll, List.all_eq_true] at h; exact h d hd
theorem least_low {ds : List Dec} (h : mayAll ds = true) {e : Int} (he : e ≤ -1000) : e ≤ leastS ds := by
  have := leastS_ge ds (-1000) (by omega) (fun d hd => may_low (mayAll_mem h hd) (Int.le_refl _))
  omega
/-- The sum of values. -/
def isum : List Dec → Int → Int
  | [], _ => 0
  | d :: l, e => ival d e + isum l e
theorem isum_parts (ds : List Dec) (e : Int) : (upS e ds : Int) - (dnS e ds : Int) = isum ds e := by
  induction ds with
  | nil => rfl
  | cons d l ih =>
    simp only [upS, dnS, isum, ival, ← ih]
    cases d.neg <;> simp <;> omega
theorem isum_shift {ds : List Dec} {e e0 : Int} (h : e ≤ e0) (h0 : ∀ d ∈ ds, e0 ≤ d.exp) : isum ds e = isum ds e0 * 10 ^ (e0 - e).toNat := by
  induction ds with
  | nil => simp [isum]
  | cons d l ih =>
    simp only [isum]
    rw [ih (fun x hx => h0 x (by simp [hx])), ival_shift d h (h0 d (by simp)), Int.add_mul]
/-- Sum is made of the sum of values. -/
theorem sum_eq {ds : List Dec} (h : mayAll ds = true) {e : Int} (he : e ≤ -1000) : sumS ds = madeZ (isum ds e) e := by
  have hl := least_low h he
  have e1 : sumS ds = madeZ (isum ds (leastS ds)) (leastS ds) := by
    unfold sumS madeZ
    rw [if_pos h, ← isum_parts]
    by_cases hc : upS (leastS ds) ds < dnS (leastS ds) ds
    · rw [(totN_true hc).1, (totN_true hc).2, decide_eq_true (by omega)]
      congr 2; omega
    · rw [(totN_false hc).1, (totN_false hc).2, decide_eq_false (by omega)]
      congr 2; omega
  rw [e1, isum_shift hl (leastS_le ds).2, madeZ_scale]
  congr 1; omega
/-- The sign of a whole number. -/
def sgn (z : Int) : Int := if z < 0 then -1 else if z = 0 then 0 else 1
theorem sgn_mul (z : Int) {p : Int} (hp : 0 < p) : sgn (z * p) = sgn z := by
  unfold sgn
  by_cases h : z < 0
  · rw [if_pos h, if_pos (Int.mul_neg_of_neg_of_pos h hp)]
  · by_cases h0 : z = 0
    · subst h0; simp
    · have := Int.mul_pos (show 0 < z by omega) hp
      rw [if_neg h, if_neg h0, if_neg (by omega), if_neg (by omega)]
theorem neg_may {b : Dec} (h : mayB b = true) : mayB (negD b) = true := by
  cases hd : b.digits with
  | nil =>
    simp only [mayB, hd] at h
    simp only [mayB, negD, hd]
    simp at h ⊢; exact h.2
  | cons c t =>
    simp only [mayB, hd] at h
    simp only [mayB, negD, hd]
    exact h
theorem ival_neg {b : Dec} (h : mayB b = true) (e : Int) : ival (negD b) e = -ival b e := by
  have hm : mag (negD b) e = mag b e := rfl
  unfold ival
  rw [hm]
  by_cases hd : b.digits = []
  · obtain rfl := may_nil h hd
    simp [mag_zero]
  · have : (negD b).neg = !b.neg := by simp [negD, hd]
    rw [this]
    cases b.neg <;> simp
theorem pow10_pos (k : Nat) : (0 : Int) < 10 ^ k := Int.pow_pos (by omega)
/-- Compare tells the sign of the values' difference. -/
theorem cmp_eq {a b : Dec} (ha : mayB a = true) (hb : mayB b = true) {e : Int} (he : e ≤ -1000) : cmpS a b = (sgn (ival a e - ival b e), 0) := by
  have hm : mayAll [a, b] = true := by simp [mayAll, ha, hb]
  have hn : mayAll [a, negD b] = true := by simp [mayAll, ha, neg_may hb]
  have h1 : isum [a, negD b] e = ival a e - ival b e := by simp only [isum, ival_neg hb]; omega
  have h2 := isum_shift (least_low hn he) (leastS_le [a, negD b]).2
  rw [h1] at h2
  unfold cmpS
  rw [if_pos hm, h2, sgn_mul _ (pow10_pos _), ← isum_parts]
  congr 1
  unfold cmpV sgn
  by_cases hc : upS (leastS [a, negD b]) [a, negD b] < dnS (leastS [a, negD b]) [a, negD b]
  · rw [if_pos (totN_true hc).1, if_pos (by omega)]
  · rw [(totN_false hc).1, (totN_false hc).2, if_neg (by decide), if_neg (show ¬ ((upS (leastS [a, negD b]) [a, negD b] : Int) - (dnS (leastS [a, negD b]) [a, negD b] : Int) < 0) by omega)]
    by_cases h0 : upS (leastS [a, negD b]) [a, negD b] - dnS (leastS [a, negD b]) [a, negD b] = 0
    · rw [if_pos h0, if_pos (by omega)]
    · rw [if_neg h0, if_neg (by omega)]
theorem ival_abs (d : Dec) (e : Int) : (ival d e).natAbs = mag d e := by
  unfold ival; cases d.neg <;> simp
theorem ival_neg_iff {d : Dec} (h : mayB d = true) (e : Int) : ival d e < 0 ↔ d.neg = true := by
  constructor
  · intro hl; unfold ival at hl; cases hd : d.neg
    · simp [hd] at hl; omega
    · rfl
  · intro hn
    have := may_mag h (may_neg h hn) e
    unfold ival; simp [hn]; exact this
/-- Mul is made of the product of values. -/
theorem mul_eq {a b : Dec} (ha : mayB a = true) (hb : mayB b = true) {e : Int} (he : e ≤ -1000) : mulS a b = madeZ (ival a e * ival b e) (e + e) := by
  have hm : mayAll [a, b] = true := by simp [mayAll, ha, hb]
  have h1 := may_low ha he
  have h2 := may_low hb he
  have hab : (ival a e * ival b e).natAbs = dval a.digits * dval b.digits * 10 ^ ((a.exp - e).toNat + (b.exp - e).toNat) := by
    rw [Int.natAbs_mul, ival_abs, ival_abs]
    unfold mag
    rw [Nat.pow_add]
    simp only [Nat.mul_assoc, Nat.mul_left_comm, Nat.mul_comm]
  unfold mulS madeZ
  rw [if_pos hm, hab, madeS_scale]
  rw [show e + e + (((a.exp - e).toNat + (b.exp - e).toNat : Nat) : Int) = a.exp + b.exp by omega]
  by_cases h0 : dval a.digits * dval b.digits = 0
  · rw [madeS_dig, madeS_dig, if_pos h0, if_pos h0]
  · congr 1
    have na := ival_neg_iff ha e
    have nb := ival_neg_iff hb e
    have pa : ival a e ≠ 0 := fun h => by
      have := ival_abs a e; rw [h] at this
      have : mag a e = 0 := this.symm
      unfold mag at this
      rcases Nat.mul_eq_zero.1 this with h | h
      · exact h0 (by rw [h]; simp)
      · have : 0 < 10 ^ (a.exp - e).toNat := Nat.pow_pos (by omega)
        omega
    have pb : ival b e ≠ 0 := fun h => by
      have := ival_abs b e; rw [h] at this
      have : mag b e = 0 := this.symm
      unfold mag at this
      rcases Nat.mul_eq_zero.1 this with h | h
      · exact h0 (by rw [h]; simp)
      · have : 0 < 10 ^ (b.exp - e).toNat := Nat.pow_pos (by omega)
        omega
    generalize ival a e = x at *
    generalize ival b e = y at *
    cases hna : a.neg <;> cases hnb : b.neg <;> rw [hna] at na <;> rw [hnb] at nb <;> simp at na nb ⊢
    · exact Int.mul_nonneg na nb
    · exact Int.mul_neg_of_pos_of_neg (by omega) nb
    · exact Int.mul_neg_of_neg_of_pos na (by omega)
    · exact Int.le_of_lt (Int.mul_pos_of_neg_of_neg na nb)
end Go.Proofs.YtkakmjdfecbhaaaGreatDoor
