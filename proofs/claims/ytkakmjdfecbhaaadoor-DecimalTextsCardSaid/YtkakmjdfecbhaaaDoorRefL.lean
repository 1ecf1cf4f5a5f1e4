/- Plain words of the reference's reading of a number; no program in sight. -/
import Derived.Test.YtkakmjdfecbhaaaDoorParL
import Derived.Test.YtkakmjdfecbhaaaDoorDecM
import Derived.Lib.Hide
namespace Go.Proofs.YtkakmjdfecbhaaaDoor

theorem drop_cons {l : List UInt8} {n : Nat} {c : UInt8} {t : List UInt8} (h : l.drop n = c :: t) : n < l.length ∧ l.getD n 0 = c ∧ l.drop (n + 1) = t := by
  have hn : n < l.length := by
    apply Nat.lt_of_not_le; intro h1
    rw [List.drop_of_length_le h1] at h; cases h
  rw [List.drop_eq_getElem_cons hn] at h
  injection h with h1 h2
  refine ⟨hn, ?_, h2⟩
  have e : l.getD n 0 = l[n] := by simp [hn]
  rw [e, h1]
theorem drop_none {l : List UInt8} {n : Nat} (h : l.drop n = []) (hn : n ≤ l.length) : n = l.length := by
  have := congrArg List.length h
  simp at this; omega
theorem drop_digs (l : List UInt8) (n : Nat) (hn : n ≤ l.length) : l.drop (n + (digsS (l.drop n)).length) = restS (l.drop n) ∧ n + (digsS (l.drop n)).length ≤ l.length ∧ (l.drop n).take (digsS (l.drop n)).length = digsS (l.drop n) := by
  have h := digs_rest (l.drop n)
  have hl := digs_len (l.drop n)
  refine ⟨?_, by simp at hl; omega, ?_⟩
  · rw [← List.drop_drop]
    conv => lhs; arg 2; rw [← h]
    rw [List.drop_left]
  · conv => lhs; arg 2; rw [← h]
    rw [List.take_left]
/-- The reference's power: saturated. -/
def powR (s : List UInt8) : Int := ((min 1000000 (dval s) : Nat) : Int)
theorem powR_snoc (s : List UInt8) (c : UInt8) (h : 48 ≤ c.toNat) : (min 1000000 (10 * powR s + ((c.toNat : Int) - 48)) : Int) = powR (s ++ [c]) := by
  unfold powR
  rw [dval_snoc]
  omega
theorem powR_bd (s : List UInt8) : 0 ≤ powR s ∧ powR s ≤ 1000000 := by unfold powR; omega
theorem mayB_far (neg : Bool) (l : List UInt8) (e : Int) (hl : l ≠ []) (h : 1000 < e ∨ e < -1000) : mayB ⟨neg, l, e⟩ = false := by
  cases l with
  | nil => exact absurd rfl hl
  | cons c t =>
    simp only [mayB]
    rcases h with h | h
    · rw [decide_eq_false (show ¬ e ≤ 1000 by omega), Bool.and_false]
    · rw [decide_eq_false (show ¬ -1000 ≤ e by omega), Bool.and_false, Bool.false_and]
theorem trimR_ne {c : UInt8} {t : List UInt8} (h : trim0 (c :: t) = c :: t) : trimR (c :: t) ≠ [] := by
  have hc := trim0_head h
  intro h1
  have key : ∀ l : List UInt8, l.dropWhile (· == 48) = [] → ∀ y ∈ l, y = 48 := by
    intro l
    induction l with
    | nil => simp
    | cons a l ih =>
      intro h2 y hy
      rw [List.dropWhile_cons] at h2
      by_cases ha : (a == 48) = true
      · rw [if_pos ha] at h2
        rcases List.mem_cons.1 hy with rfl | hy
        · simpa using ha
        · exact ih h2 y hy
      · rw [if_neg ha] at h2; cases h2
  simp only [trimR, List.reverse_eq_nil_iff] at h1
  exact hc (key _ h1 c (by simp))
/-- Far powers are all one. -/
theorem madeS_far (neg : Bool) (a : List UInt8) (e e' : Int) (ha : a.length ≤ 2000) (h : (100000 < e ∧ 100000 < e') ∨ (e < -100000 ∧ e' < -100000)) : madeS neg a e = madeS neg a e' := by
  have hl := trim0_len a
  cases ht : trim0 a with
  | nil => simp only [madeS, ht, if_true]
  | cons c t =>
    have htt : trim0 (c :: t) = c :: t := by rw [← ht]; exact trim0_trim0 a
    have hne := trimR_ne htt
    have hlr := trimR_len (c :: t)
    rw [ht] at hl
    simp only [List.length_cons] at hl hlr
    have h1 : ∀ x : Int, (100000 < x ∨ x < -100000) → mayB (decOf neg (c :: t) x) = false := fun x hx => by
      unfold decOf
      apply mayB_far _ _ _ hne
      simp only [List.length_cons]
      omega
    unfold madeS
    rw [ht, h1 e (by omega), h1 e' (by omega), if_neg Bool.false_ne_true, if_neg Bool.false_ne_true]
/-- The power that the program reads, and the reference's, make the same. -/
theorem pow_same (neg : Bool) (a : List UInt8) (x : Int) (s : List UInt8) (hs : Dig s) (ha : a.length ≤ 2000) (h1 : -1000 ≤ x) (h2 : x ≤ 0) :
    madeS neg a (x + powerS s) = madeS neg a (x + powR s) ∧ madeS neg a (x + -powerS s) = madeS neg a (x + -powR s) := by
  have hv := dval_trim0 s
  by_cases h7 : 7 < (trim0 s).length
  · have hp : powerS s = 10000000 := by simp [powerS, h7]
    have hr : powR s = 1000000 := by
      unfold powR
      cases ht : trim0 s with
      | nil => rw [ht] at h7; simp at h7
      | cons c t =>
        have hd := Dig_trim0 hs
        have htt := trim0_trim0 s
        rw [ht] at hd htt h7 hv
        have h3 := dval_low hd (trim0_head htt)
        have h4 : 10 ^ 7 ≤ 10 ^ t.length := Nat.pow_le_pow_right (by omega) (by simp at h7; omega)
        omega
    rw [hp, hr]
    exact ⟨madeS_far _ _ _ _ ha (.inl ⟨by omega, by omega⟩), madeS_far _ _ _ _ ha (.inr ⟨by omega, by omega⟩)⟩
  · have hp : powerS s = dval s := by simp [powerS, h7, hv]
    by_cases hd : dval s ≤ 1000000
    · have hr : powR s = dval s := by unfold powR; omega
      rw [hp, hr]; exact ⟨rfl, rfl⟩
    · have hr : powR s = 1000000 := by unfold powR; omega
      rw [hp, hr]
      exact ⟨madeS_far _ _ _ _ ha (.inl ⟨by omega, by omega⟩), madeS_far _ _ _ _ ha (.inr ⟨by omega, by omega⟩)⟩
end Go.Proofs.YtkakmjdfecbhaaaDoor
