/- Plain law: the reference's comparing of two decimals tells what the program's tells. No program in sight. -/
import Derived.Test.YtkakmjdfecbhaaaGreatDoorPla5
import Derived.Test.YtkakmjdfecbhaaaGreatDoorRef5
namespace Go.Proofs.YtkakmjdfecbhaaaGreatDoor

theorem cmpN_sgn (x y : Nat) : cmpN x y = sgn ((x : Int) - y) := by unfold cmpN sgn; split <;> split <;> (try split) <;> omega
theorem cmpN_scale (x y p : Nat) (hp : 0 < p) : cmpN (x * p) (y * p) = cmpN x y := by
  rw [cmpN_sgn, cmpN_sgn, Int.natCast_mul, Int.natCast_mul, ← Int.sub_mul, sgn_mul _ (by omega)]
theorem cmp_apart {a b : Dec} (ha : mayB a = true) (hb : mayB b = true) (h : a.neg ≠ b.neg) : (cmpS a b).1 = if a.neg then -1 else 1 := by
  rw [cmp_eq ha hb low_ok]
  have h1 := ival_neg_iff ha (-1000)
  have h2 := ival_neg_iff hb (-1000)
  cases hna : a.neg <;> cases hnb : b.neg <;> rw [hna] at h1 h <;> rw [hnb] at h2 h <;> simp at h h1 h2 ⊢
  · unfold sgn; rw [if_neg (by omega), if_neg (by omega)]
  · unfold sgn; rw [if_pos (by omega)]
theorem cmp_alike {a b : Dec} (ha : mayB a = true) (hb : mayB b = true) (h : a.neg = b.neg) : (cmpS a b).1 = if a.neg then -cmpN (mag a (min a.exp b.exp)) (mag b (min a.exp b.exp)) else cmpN (mag a (min a.exp b.exp)) (mag b (min a.exp b.exp)) := by
  have h1 := may_low ha low_ok
  have h2 := may_low hb low_ok
  rw [cmp_eq ha hb low_ok]
  have e1 := mag_shift a (show (-1000 : Int) ≤ min a.exp b.exp by omega) (by omega)
  have e2 := mag_shift b (show (-1000 : Int) ≤ min a.exp b.exp by omega) (by omega)
  have hp : 0 < 10 ^ (min a.exp b.exp - -1000).toNat := Nat.pow_pos (by omega)
  have key := cmpN_scale (mag a (min a.exp b.exp)) (mag b (min a.exp b.exp)) _ hp
  rw [← e1, ← e2] at key
  rw [← key, cmpN_sgn]
  unfold ival
  cases hna : a.neg <;> rw [hna] at h <;> rw [← h]
  · simp
  · simp only [if_true]
    rw [← sgn_neg]
    congr 1; omega
theorem cmp_none {a b : Dec} (h : a.digits = [] ∨ b.digits = []) : cmpN (mag a (min a.exp b.exp)) (mag b (min a.exp b.exp)) = cmpN (dval a.digits) (dval b.digits) := by
  rcases h with h | h
  · have e : mag a (min a.exp b.exp) = 0 := by unfold mag; rw [h, dval_nil, Nat.zero_mul]
    rw [e, h, dval_nil]
    unfold mag cmpN
    have hp : 0 < 10 ^ (b.exp - min a.exp b.exp).toNat := Nat.pow_pos (by omega)
    rcases Nat.eq_zero_or_pos (dval b.digits) with h0 | h0
    · rw [h0, Nat.zero_mul]
    · rw [if_pos (Nat.mul_pos h0 hp), if_pos h0]
  · have e : mag b (min a.exp b.exp) = 0 := by unfold mag; rw [h, dval_nil, Nat.zero_mul]
    rw [e, h, dval_nil]
    unfold mag cmpN
    have hp : 0 < 10 ^ (a.exp - min a.exp b.exp).toNat := Nat.pow_pos (by omega)
    rcases Nat.eq_zero_or_pos (dval a.digits) with h0 | h0
    · rw [h0, Nat.zero_mul]
    · rw [if_neg (by omega), if_pos (Nat.mul_pos h0 hp), if_neg (by omega), if_pos h0]
theorem may_trim {d : Dec} (h : mayB d = true) : trim0 d.digits = d.digits := by
  by_cases hd : d.digits = []
  · rw [hd]; rfl
  · obtain ⟨c, t, h1, _, _, hc, _⟩ := may_cons h hd
    rw [h1]
    unfold trim0
    rw [List.dropWhile_cons, if_neg (by simpa using hc)]
theorem cmpN_cases (x y : Nat) : cmpN x y = -1 ∨ cmpN x y = 0 ∨ cmpN x y = 1 := by unfold cmpN; split <;> (try split) <;> simp
end Go.Proofs.YtkakmjdfecbhaaaGreatDoor
