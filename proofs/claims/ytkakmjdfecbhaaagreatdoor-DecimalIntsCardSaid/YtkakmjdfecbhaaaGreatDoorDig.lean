/- Plain laws of decimal digits as bytes; no program in sight, no conditions. -/
import Derived.Test.YtkakmjdfecbhaaaGreatDoorVal
namespace Go.Proofs.YtkakmjdfecbhaaaGreatDoor

/-- The number that digits tell. -/
def dval (l : List UInt8) : Nat := l.foldl (fun a c => 10 * a + (c.toNat - 48)) 0
/-- Digits alone. -/
def Dig (l : List UInt8) : Prop := ∀ c ∈ l, 48 ≤ c.toNat ∧ c.toNat ≤ 57
/-- Without noughts ahead. -/
def trim0 (l : List UInt8) : List UInt8 := l.dropWhile (· == 48)

theorem foldl_dval (l : List UInt8) : ∀ a, l.foldl (fun a c => 10 * a + (c.toNat - 48)) a = a * 10 ^ l.length + dval l := by
  unfold dval
  induction l with
  | nil => intro a; simp
  | cons c l ih =>
    intro a
    simp only [List.foldl_cons, List.length_cons]
    rw [ih, ih (10 * 0 + (c.toNat - 48)), Nat.pow_succ, Nat.add_mul, Nat.add_mul, Nat.mul_comm (10 ^ l.length) 10, ← Nat.mul_assoc, Nat.mul_comm a 10]
    omega
theorem dval_nil : dval [] = 0 := rfl
theorem dval_append (a b : List UInt8) : dval (a ++ b) = dval a * 10 ^ b.length + dval b := by
  rw [dval, List.foldl_append, foldl_dval]; rfl
theorem dval_snoc (a : List UInt8) (c : UInt8) : dval (a ++ [c]) = 10 * dval a + (c.toNat - 48) := by
  rw [dval, List.foldl_append]; rfl
theorem dval_cons (c : UInt8) (l : List UInt8) : dval (c :: l) = (c.toNat - 48) * 10 ^ l.length + dval l := by
  have := dval_append [c] l
  simpa [dval] using this
theorem Dig_nil : Dig [] := by intro c h; simp at h
theorem Dig_append {a b : List UInt8} : Dig (a ++ b) ↔ Dig a ∧ Dig b := by
  constructor
  · intro h; exact ⟨fun c hc => h c (by simp [hc]), fun c hc => h c (by simp [hc])⟩
  · intro ⟨h1, h2⟩ c hc
    rcases List.mem_append.1 hc with h | h
    · exact h1 c h
    · exact h2 c h
theorem Dig_take {l : List UInt8} (h : Dig l) (k : Nat) : Dig (l.take k) := fun c hc => h c (List.mem_of_mem_take hc)
theorem Dig_drop {l : List UInt8} (h : Dig l) (k : Nat) : Dig (l.drop k) := fun c hc => h c (List.mem_of_mem_drop hc)
theorem dval_lt {l : List UInt8} (h : Dig l) : dval l < 10 ^ l.length := by
  induction l with
  | nil => simp [dval]
  | cons c l ih =>
    rw [dval_cons, List.length_cons, Nat.pow_succ]
    have h1 := h c (by simp)
    have h2 := ih (fun x hx => h x (by simp [hx]))
    have h3 : (c.toNat - 48) * 10 ^ l.length ≤ 9 * 10 ^ l.length := Nat.mul_le_mul_right _ (by omega)
    omega
/-- What stands ahead of the last nine digits, and these. -/
theorem dval_piece (l : List UInt8) (m : Nat) (hm : m ≤ l.length) : dval (l.take m) = dval ((l.take m).drop (m - 9)) + base * dval (l.take (m - 9)) := by
  have e : l.take m = l.take (m - 9) ++ (l.take m).drop (m - 9) := by
    have := (List.take_append_drop (m - 9) (l.take m)).symm
    rwa [List.take_take, Nat.min_eq_left (by omega)] at this
  by_cases h : 9 ≤ m
  · conv => lhs; rw [e]
    rw [dval_append]
    have : ((l.take m).drop (m - 9)).length = 9 := by simp; omega
    rw [this, base_eq, Nat.mul_comm]; omega
  · have h0 : m - 9 = 0 := by omega
    rw [h0]; simp [dval]
theorem dval_piece_lt (l : List UInt8) (m : Nat) (hd : Dig l) : dval ((l.take m).drop (m - 9)) < base := by
  have h1 := dval_lt (Dig_drop (Dig_take hd m) (m - 9))
  have h2 : ((l.take m).drop (m - 9)).length ≤ 9 := by simp; omega
  have h3 : 10 ^ ((l.take m).drop (m - 9)).length ≤ 10 ^ 9 := Nat.pow_le_pow_right (by omega) h2
  rw [base_eq]; omega
theorem take_snoc8 (l : List UInt8) (j : Nat) (h : j < l.length) : l.take (j + 1) = l.take j ++ [l.getD j 0] := by
  rw [List.take_add_one, List.getElem?_eq_getElem h]; simp [List.getElem?_eq_getElem h]
theorem Dig_getD {l : List UInt8} (h : Dig l) (j : Nat) (hj : j < l.length) : 48 ≤ (l.getD j 0).toNat ∧ (l.getD j 0).toNat ≤ 57 := by
  have : l.getD j 0 = l[j] := by simp [hj]
  rw [this]; exact h _ (List.getElem_mem hj)
theorem dval_take_lt {l : List UInt8} (h : Dig l) (hl : l.length ≤ 9) (j : Nat) : dval (l.take j) < 1000000000 := by
  have h1 := dval_lt (Dig_take h j)
  have h3 : 10 ^ (l.take j).length ≤ 10 ^ 9 := Nat.pow_le_pow_right (by omega) (by simp; omega)
  omega
theorem dval_trim0 (l : List UInt8) : dval (trim0 l) = dval l := by
  unfold trim0
  induction l with
  | nil => rfl
  | cons c l ih =>
    rw [List.dropWhile_cons]
    split
    · rename_i h
      have : c = 48 := by simpa using h
      subst this
      rw [ih, dval_cons]; simp
    · rfl
theorem Dig_trim0 {l : List UInt8} (h : Dig l) : Dig (trim0 l) := fun c hc => h c ((List.dropWhile_sublist _).subset hc)
theorem trim0_trim0 (l : List UInt8) : trim0 (trim0 l) = trim0 l := by
  unfold trim0
  induction l with
  | nil => rfl
  | cons c l ih =>
    rw [List.dropWhile_cons]
    split
    · exact ih
    · rename_i h; rw [List.dropWhile_cons, if_neg h]
theorem ofNat_digit (d : Nat) (h : d < 10) : (UInt8.ofNat (48 + d)).toNat = 48 + d := by simp [UInt8.toNat_ofNat']; omega
theorem drop_set8 (os : List UInt8) (j : Nat) (y : UInt8) (h : j < os.length) : (os.set j y).drop j = y :: os.drop (j + 1) := by
  rw [List.drop_eq_getElem_cons (by simpa using h), List.getElem_set_self]
  congr 1
  rw [List.drop_set, if_pos (by omega)]
/-- One digit of a word. -/
theorem dig_word (os : List UInt8) (p q i k x v : Nat) (hp : q + 1 = p) (hq : q < os.length) (hl : (os.drop p).length = 9 * i + k) (hd : Dig (os.drop p)) (hv : dval (os.drop p) = v + base ^ i * (x % 10 ^ k)) :
    Dig ((os.set q (UInt8.ofNat (48 + x / 10 ^ k % 10))).drop q) ∧ dval ((os.set q (UInt8.ofNat (48 + x / 10 ^ k % 10))).drop q) = v + base ^ i * (x % 10 ^ (k + 1)) := by
  have h10 : x / 10 ^ k % 10 < 10 := Nat.mod_lt _ (by omega)
  rw [drop_set8 _ _ _ hq, hp]
  constructor
  · intro c hc
    rcases List.mem_cons.1 hc with h | h
    · subst h; rw [ofNat_digit _ h10]; omega
    · exact hd c h
  · rw [dval_cons, hl, hv, ofNat_digit _ h10]
    have e1 : 10 ^ (9 * i + k) = base ^ i * 10 ^ k := by
      have : base = 10 ^ 9 := by rw [base_eq]
      rw [this, ← Nat.pow_mul, ← Nat.pow_add]
    have e2 : x % 10 ^ (k + 1) = x % 10 ^ k + 10 ^ k * (x / 10 ^ k % 10) := by
      rw [Nat.pow_succ, Nat.mod_mul]
    rw [e1, e2, Nat.mul_add, Nat.add_sub_cancel_left, Nat.mul_comm, Nat.mul_assoc]
    omega
theorem dig_word_end (x : Nat) (h : x < base) : x % 10 ^ 9 = x := Nat.mod_eq_of_lt (by rw [base_eq] at h; exact h)
end Go.Proofs.YtkakmjdfecbhaaaGreatDoor
