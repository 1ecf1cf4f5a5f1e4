/- Plain laws of order, of product and sum, and of shares of decimals. No program in sight. -/
import Derived.Test.YtkakmjdfecbhaaaGreatDoorPla4
namespace Go.Proofs.YtkakmjdfecbhaaaGreatDoor

theorem sgn_neg (z : Int) : sgn (-z) = -sgn z := by unfold sgn; split <;> split <;> (try split) <;> omega
theorem sgn_zero (z : Int) : sgn z = 0 ↔ z = 0 := by unfold sgn; split <;> (try split) <;> omega
theorem sgn_le (z : Int) : sgn z ≤ 0 ↔ z ≤ 0 := by unfold sgn; split <;> (try split) <;> omega
theorem sgn_cases (z : Int) : sgn z = -1 ∨ sgn z = 0 ∨ sgn z = 1 := by unfold sgn; split <;> (try split) <;> simp
theorem low_ok : (-1000 : Int) ≤ -1000 := Int.le_refl _

theorem order_flip {a b : Dec} (ha : mayB a = true) (hb : mayB b = true) : (cmpS a b).1 = -(cmpS b a).1 := by
  rw [cmp_eq ha hb low_ok, cmp_eq hb ha low_ok, ← sgn_neg, Int.neg_sub]
theorem order_same {a b : Dec} (ha : mayB a = true) (hb : mayB b = true) : (cmpS a b).1 = 0 ↔ a = b := by
  rw [cmp_eq ha hb low_ok]
  simp only [sgn_zero]
  constructor
  · intro h
    exact ival_inj ha hb (may_low ha low_ok) (may_low hb low_ok) (by omega)
  · rintro rfl; omega
theorem order_trans {a b c : Dec} (ha : mayB a = true) (hb : mayB b = true) (hc : mayB c = true) (h1 : (cmpS a b).1 ≤ 0) (h2 : (cmpS b c).1 ≤ 0) :
    (cmpS a c).1 ≤ 0 ∧ ((cmpS a c).1 = 0 → (cmpS a b).1 + (cmpS b c).1 = 0) := by
  rw [cmp_eq ha hb low_ok] at h1 ⊢
  rw [cmp_eq hb hc low_ok] at h2 ⊢
  rw [cmp_eq ha hc low_ok]
  simp only [sgn_le] at h1 h2 ⊢
  refine ⟨by omega, fun h => ?_⟩
  rw [sgn_zero] at h
  rw [(sgn_zero (ival a (-1000) - ival b (-1000))).2 (by omega), (sgn_zero (ival b (-1000) - ival c (-1000))).2 (by omega)]
  rfl
theorem order_neg {a b : Dec} (ha : mayB a = true) (hb : mayB b = true) : cmpS (negD a) (negD b) = cmpS b a := by
  rw [cmp_eq (neg_may ha) (neg_may hb) low_ok, cmp_eq hb ha low_ok, ival_neg ha, ival_neg hb]
  congr 2; omega
theorem sum_neg {a : Dec} (ha : mayB a = true) : sumS [a, negD a] = (Dec.zero, 0) := by
  rw [sum_eq (by simp [mayAll, ha, neg_may ha]) low_ok]
  simp only [isum, ival_neg ha]
  rw [show ival a (-1000) + (-ival a (-1000) + 0) = 0 by omega]
  rfl
theorem sum_val {a b : Dec} (ha : mayB a = true) (hb : mayB b = true) {e : Int} (he : e ≤ -1000) (h : (sumS [a, b]).2 = 0) : mayB (sumS [a, b]).1 = true ∧ ival (sumS [a, b]).1 e = ival a e + ival b e := by
  rw [sum_eq (by simp [mayAll, ha, hb]) he] at h ⊢
  refine ⟨madeZ_may _ _ h, ?_⟩
  rw [madeZ_val _ _ h (Int.le_refl _)]
  simp [isum]
theorem sum_order {a b c : Dec} (ha : mayB a = true) (hb : mayB b = true) (hc : mayB c = true) (h1 : (sumS [a, c]).2 = 0) (h2 : (sumS [b, c]).2 = 0) :
    cmpS (sumS [a, c]).1 (sumS [b, c]).1 = cmpS a b := by
  obtain ⟨p1, p2⟩ := sum_val ha hc low_ok h1
  obtain ⟨q1, q2⟩ := sum_val hb hc low_ok h2
  rw [cmp_eq p1 q1 low_ok, cmp_eq ha hb low_ok, p2, q2]
  congr 2; omega
theorem mul_flip (a b : Dec) : mulS a b = mulS b a := by
  unfold mulS
  have h1 : mayAll [a, b] = mayAll [b, a] := by simp [mayAll, Bool.and_comm]
  have h2 : (a.neg != b.neg) = (b.neg != a.neg) := by cases a.neg <;> cases b.neg <;> rfl
  rw [h1, h2, Nat.mul_comm, Int.add_comm]
theorem mul_val {a b : Dec} (ha : mayB a = true) (hb : mayB b = true) {e : Int} (he : e ≤ -1000) (h : (mulS a b).2 = 0) : mayB (mulS a b).1 = true ∧ ival (mulS a b).1 (e + e) = ival a e * ival b e := by
  rw [mul_eq ha hb he] at h ⊢
  refine ⟨madeZ_may _ _ h, ?_⟩
  rw [madeZ_val _ _ h (Int.le_refl _)]
  simp
theorem mul_sum {a b c : Dec} (ha : mayB a = true) (hb : mayB b = true) (hc : mayB c = true) (h1 : (mulS a b).2 = 0) (h2 : (mulS a c).2 = 0) (h3 : (sumS [b, c]).2 = 0) :
    mulS a (sumS [b, c]).1 = sumS [(mulS a b).1, (mulS a c).1] := by
  obtain ⟨p1, p2⟩ := mul_val ha hb low_ok h1
  obtain ⟨q1, q2⟩ := mul_val ha hc low_ok h2
  obtain ⟨s1, s2⟩ := sum_val hb hc low_ok h3
  have hm : mayAll [(mulS a b).1, (mulS a c).1] = true := by simp [mayAll, p1, q1]
  rw [mul_eq ha s1 low_ok, sum_eq hm (show (-1000 : Int) + -1000 ≤ -1000 by omega), s2]
  simp only [isum]
  rw [p2, q2, Int.mul_add]
  simp
/-- The error of a product or a sum of those that may be. -/
theorem mul_not {a b : Dec} (h : (mulS a b).2 = 0) : mayB a = true ∧ mayB b = true := by
  unfold mulS at h
  split at h
  · rename_i hm; exact may2 hm
  · cases h

theorem posB_val {d : Dec} (h : posB d = true) (e : Int) : ival d e = (mag d e : Int) := by
  simp only [posB, Bool.and_eq_true] at h
  have := h.1.2
  unfold ival; simp at this; simp [this]
theorem share_eq {x a : Dec} (hx : mayB x = true) (ha : posB a = true) {e : Int} (he : e ≤ -1000) : multipleS x a = (decide (mag a e ∣ mag x e), 0) := by
  have hb := (pos_val ha).1
  have hm : mayAll [x, a] = true := by simp [mayAll, hx, hb]
  have hl := least_low hm he
  have h1 := (leastS_le [x, a]).2 x (by simp)
  have h2 := (leastS_le [x, a]).2 a (by simp)
  unfold multipleS
  rw [if_pos (by simp [hx, ha]), mag_shift x hl h1, mag_shift a hl h2]
  congr 1
  have hp : 0 < 10 ^ (leastS [x, a] - e).toNat := Nat.pow_pos (by omega)
  generalize 10 ^ (leastS [x, a] - e).toNat = p at *
  have : (mag x (leastS [x, a]) % mag a (leastS [x, a]) = 0) ↔ (mag a (leastS [x, a]) * p ∣ mag x (leastS [x, a]) * p) := by
    rw [Nat.mul_dvd_mul_iff_right hp, Nat.dvd_iff_mod_eq_zero]
  simp only [this]
theorem common_eq {a b : Dec} (ha : posB a = true) (hb : posB b = true) {e : Int} (he : e ≤ -1000) : commonS a b = madeZ (Nat.lcm (mag a e) (mag b e) : Nat) e := by
  have h1 := may_low (pos_val ha).1 he
  have h2 := may_low (pos_val hb).1 he
  have hmin : e ≤ min a.exp b.exp := by omega
  have key : mag a (min a.exp b.exp) / Nat.gcd (mag a (min a.exp b.exp)) (mag b (min a.exp b.exp)) * mag b (min a.exp b.exp) = Nat.lcm (mag a (min a.exp b.exp)) (mag b (min a.exp b.exp)) := by
    unfold Nat.lcm
    rw [Nat.mul_comm, Nat.mul_comm (mag a _) (mag b _), Nat.mul_div_assoc _ (Nat.gcd_dvd_left _ _)]
  unfold commonS
  rw [if_pos (by simp [ha, hb]), key, mag_shift a hmin (by omega), mag_shift b hmin (by omega), Nat.lcm_mul_right, Int.natCast_mul, Int.natCast_pow]
  show _ = madeZ (_ * 10 ^ _) e
  rw [madeZ_scale]
  unfold madeZ
  rw [decide_eq_false (by omega), Int.natAbs_natCast]
  congr 1; omega
theorem common_flip (a b : Dec) : commonS a b = commonS b a := by
  by_cases h : posB a = true ∧ posB b = true
  · rw [common_eq h.1 h.2 low_ok, common_eq h.2 h.1 low_ok, Nat.lcm_comm]
  · unfold commonS
    rw [if_neg (by simpa using h), if_neg (by simpa [and_comm] using h)]
theorem common_not {a b : Dec} (h : (commonS a b).2 = 0) : posB a = true ∧ posB b = true := by
  unfold commonS at h
  split at h
  · rename_i hm; simpa using hm
  · cases h
theorem common_val {a b : Dec} (h : (commonS a b).2 = 0) {e : Int} (he : e ≤ -1000) : posB (commonS a b).1 = true ∧ mag (commonS a b).1 e = Nat.lcm (mag a e) (mag b e) := by
  obtain ⟨ha, hb⟩ := common_not h
  rw [common_eq ha hb he] at h ⊢
  have hv := madeZ_val _ _ h (Int.le_refl e)
  have hm := madeZ_may _ _ h
  have hl := Nat.lcm_pos (mag_pos e ha) (mag_pos e hb)
  generalize (madeZ (Nat.lcm (mag a e) (mag b e) : Nat) e).1 = c at *
  have hv' : ival c e = (Nat.lcm (mag a e) (mag b e) : Nat) := by rw [hv]; simp
  have hn : c.neg = false := by
    cases hcn : c.neg
    · rfl
    · have := (ival_neg_iff hm e).2 hcn; omega
  have hmag : mag c e = Nat.lcm (mag a e) (mag b e) := by rw [← ival_abs, hv']; rfl
  refine ⟨?_, hmag⟩
  have hd : c.digits ≠ [] := fun hd => by
    obtain rfl := may_nil hm hd
    rw [mag_zero] at hmag; omega
  simp [posB, hm, hn, hd]
theorem common_shares {a b : Dec} (h : (commonS a b).2 = 0) : multipleS (commonS a b).1 a = (true, 0) ∧ multipleS (commonS a b).1 b = (true, 0) := by
  obtain ⟨ha, hb⟩ := common_not h
  obtain ⟨hc, hv⟩ := common_val h low_ok
  rw [share_eq (pos_val hc).1 ha low_ok, share_eq (pos_val hc).1 hb low_ok, hv]
  exact ⟨by simp [Nat.dvd_lcm_left], by simp [Nat.dvd_lcm_right]⟩
theorem shares_met {x a b : Dec} (h : (commonS a b).2 = 0) (hx : mayB x = true) : ∃ p q, multipleS x a = (p, 0) ∧ multipleS x b = (q, 0) ∧ multipleS x (commonS a b).1 = (p && q, 0) := by
  obtain ⟨ha, hb⟩ := common_not h
  obtain ⟨hc, hv⟩ := common_val h low_ok
  refine ⟨_, _, share_eq hx ha low_ok, share_eq hx hb low_ok, ?_⟩
  rw [share_eq hx hc low_ok, hv]
  simp only [Nat.lcm_dvd_iff, Bool.decide_and]
theorem whole_val {x : Dec} (h : 0 ≤ x.exp) {e : Int} (he : e ≤ 0) : 10 ^ (-e).toNat ∣ mag x e := by
  rw [mag_shift x he h]
  rw [show (0 - e).toNat = (-e).toNat by omega]
  exact Nat.dvd_mul_left _ _
theorem shares_times {x a b : Dec} (h : (commonS a b).2 = 0) (hx : mayB x = true) (hw : 0 ≤ x.exp) (hz : (mulS x (commonS a b).1).2 = 0) :
    multipleS (mulS x (commonS a b).1).1 a = (true, 0) := by
  obtain ⟨ha, hb⟩ := common_not h
  have key : ∀ e : Int, e ≤ -1000 → multipleS (mulS x (commonS a b).1).1 a = (true, 0) := by
    intro e he
    obtain ⟨hc, hv⟩ := common_val h he
    obtain ⟨z1, z2⟩ := mul_val hx (pos_val hc).1 he hz
    have hmz : mag (mulS x (commonS a b).1).1 (e + e) = mag x e * mag (commonS a b).1 e := by
      rw [← ival_abs, z2, Int.natAbs_mul, ival_abs, ival_abs]
    rw [share_eq z1 ha (show e + e ≤ -1000 by omega), hmz, hv, mag_shift a (show e + e ≤ e by omega) (may_low (pos_val ha).1 he)]
    have h1 := whole_val hw (show e ≤ 0 by omega)
    have h2 := Nat.dvd_lcm_left (mag a e) (mag b e)
    have : mag a e * 10 ^ (e - (e + e)).toNat ∣ mag x e * Nat.lcm (mag a e) (mag b e) := by
      rw [show (e - (e + e)).toNat = (-e).toNat by omega, Nat.mul_comm (mag a e)]
      exact Nat.mul_dvd_mul h1 h2
    rw [decide_eq_true this]
  exact key (-1000) low_ok
end Go.Proofs.YtkakmjdfecbhaaaGreatDoor
