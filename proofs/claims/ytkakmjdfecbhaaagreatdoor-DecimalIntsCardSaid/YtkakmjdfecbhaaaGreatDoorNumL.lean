/- Plain laws of digit-by-digit arithmetic, as the reference does it; no program in sight. -/
import Derived.Test.YtkakmjdfecbhaaaGreatDoorDecM
namespace Go.Proofs.YtkakmjdfecbhaaaGreatDoor

/-- The k-th digit from behind. -/
def dgt (n k : Nat) : Nat := n / 10 ^ k % 10
theorem dgt_lt (n k : Nat) : dgt n k < 10 := Nat.mod_lt _ (by omega)
theorem dgt_val (l : List UInt8) (hd : Dig l) (k : Nat) : (if k < l.length then (l.getD (l.length - 1 - k) 0).toNat - 48 else 0) = dgt (dval l) k := by
  obtain ⟨n, hn⟩ : ∃ n, l.length = n := ⟨_, rfl⟩
  induction n generalizing l k with
  | zero => obtain rfl := List.length_eq_zero_iff.1 hn; simp [dgt, dval_nil]
  | succ n ih =>
    rcases nil_or_snoc l with rfl | ⟨zs, y, rfl⟩
    · simp at hn
    · have hz : zs.length = n := by simpa using hn
      obtain ⟨h1, h2⟩ := Dig_append.1 hd
      have hy := h2 y (by simp)
      have hy2 : y.toNat - 48 < 10 := by omega
      rw [dval_snoc]
      cases k with
      | zero => simp [dgt]; omega
      | succ k =>
        have := ih zs h1 k hz
        have e : dgt (10 * dval zs + (y.toNat - 48)) (k + 1) = dgt (dval zs) k := by
          unfold dgt
          rw [Nat.pow_succ, Nat.mul_comm (10 ^ k) 10, ← Nat.div_div_eq_div_mul, Nat.mul_add_div (by omega), Nat.div_eq_of_lt hy2, Nat.add_zero]
        rw [e, ← this]
        simp only [List.length_append, List.length_singleton, Nat.add_lt_add_iff_right]
        by_cases hk : k < zs.length
        · rw [if_pos hk, if_pos hk]
          have : zs.length + 1 - 1 - (k + 1) = zs.length - 1 - k := by omega
          rw [this]
          simp only [List.getD_eq_getElem?_getD]
          rw [List.getElem?_append_left (by omega)]
        · rw [if_neg hk, if_neg hk]
theorem mod_succ (n k : Nat) : n % 10 ^ (k + 1) = n % 10 ^ k + 10 ^ k * dgt n k := by
  unfold dgt; exact Nat.mod_pow_succ
theorem dval_head (c : UInt8) (l : List UInt8) (k : Nat) (h : l.length = k) : dval (c :: l) = (c.toNat - 48) * 10 ^ k + dval l := by rw [dval_cons, h]
/-- One digit of a sum. -/
theorem add_dig (A B S c k x : Nat) (a b : Nat) (hA : A = a % 10 ^ k) (hB : B = b % 10 ^ k) (h : S + c * 10 ^ k = A + B) (hx : x = dgt a k + dgt b k + c) :
    (x % 10) * 10 ^ k + S + (x / 10) * 10 ^ (k + 1) = a % 10 ^ (k + 1) + b % 10 ^ (k + 1) := by
  rw [mod_succ, mod_succ, ← hA, ← hB, Nat.pow_succ]
  have h1 : x % 10 * 10 ^ k + x / 10 * (10 ^ k * 10) = x * 10 ^ k := by
    have := Nat.div_add_mod x 10
    rw [Nat.mul_comm (10 ^ k) 10, ← Nat.mul_assoc, ← Nat.add_mul]
    congr 1; omega
  have h2 : x * 10 ^ k = 10 ^ k * dgt a k + 10 ^ k * dgt b k + c * 10 ^ k := by
    rw [hx, Nat.add_mul, Nat.add_mul, Nat.mul_comm (dgt a k), Nat.mul_comm (dgt b k)]
  omega
/-- One digit of a difference. -/
theorem sub_dig (S c k x c' : Nat) (a b : Nat) (h : S + b % 10 ^ k = a % 10 ^ k + c * 10 ^ k) (hc : c ≤ 1)
    (hx : (dgt b k + c ≤ dgt a k ∧ x = dgt a k - dgt b k - c ∧ c' = 0) ∨ (dgt a k < dgt b k + c ∧ x = dgt a k + 10 - dgt b k - c ∧ c' = 1)) :
    x < 10 ∧ x * 10 ^ k + S + b % 10 ^ (k + 1) = a % 10 ^ (k + 1) + c' * 10 ^ (k + 1) := by
  have ha := dgt_lt a k
  have hb := dgt_lt b k
  refine ⟨by omega, ?_⟩
  rw [mod_succ, mod_succ, Nat.pow_succ]
  have key : x * 10 ^ k + 10 ^ k * dgt b k + c * 10 ^ k = 10 ^ k * dgt a k + c' * (10 ^ k * 10) := by
    have e : x + dgt b k + c = dgt a k + c' * 10 := by omega
    have e2 : c' * (10 ^ k * 10) = c' * 10 * 10 ^ k := by rw [Nat.mul_comm (10 ^ k) 10, ← Nat.mul_assoc]
    rw [e2, Nat.mul_comm (10 ^ k) (dgt b k), Nat.mul_comm (10 ^ k) (dgt a k), ← Nat.add_mul, ← Nat.add_mul, ← Nat.add_mul, e]
  omega
theorem mod_all (l : List UInt8) (hd : Dig l) (k : Nat) (h : l.length ≤ k) : dval l % 10 ^ k = dval l :=
  Nat.mod_eq_of_lt (Nat.lt_of_lt_of_le (dval_lt hd) (Nat.pow_le_pow_right (by omega) h))
theorem trim0_digS (os : List UInt8) (hd : Dig os) (n : Nat) (h : dval os = n) : trim0 os = digS n :=
  digS_eq (Dig_trim0 hd) (trim0_trim0 _) n (by rw [dval_trim0]; exact h)
theorem digS_len_le {n k : Nat} (h : n < 10 ^ k) : (digS n).length ≤ k := by
  obtain ⟨h1, h2, h3⟩ := digS_dig n
  cases hd : digS n with
  | nil => simp
  | cons c t =>
    rw [hd] at h1 h2 h3
    have := dval_low h1 (trim0_head h3)
    rw [h2] at this
    have h4 : 10 ^ t.length < 10 ^ k := by omega
    have := (Nat.pow_lt_pow_iff_right (by omega : 1 < 10)).1 h4
    simp; omega
end Go.Proofs.YtkakmjdfecbhaaaGreatDoor
