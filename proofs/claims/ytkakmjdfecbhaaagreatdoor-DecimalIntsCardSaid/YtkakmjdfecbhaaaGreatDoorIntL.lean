/- Whole numbers of 64 bits out of decimals: plain. -/
import Derived.Test.YtkakmjdfecbhaaaGreatDoorPla3
import Derived.Test.YtkakmjdfecbhaaaGreatDoorNumL
import Derived.Lib.ParseIntBTie
namespace Go.Proofs.YtkakmjdfecbhaaaGreatDoor

/-- The whole number of 64 bits that a decimal is, if it is one. -/
def intR (d : Dec) : Int × Bool :=
  if mayB d = true ∧ 0 ≤ d.exp ∧ -9223372036854775808 ≤ ival d 0 ∧ ival d 0 ≤ 9223372036854775807 then (ival d 0, true) else (0, false)

theorem intR_no {d : Dec} (h : mayB d = false) : intR d = (0, false) := by unfold intR; rw [if_neg]; simp [h]
theorem intR_below {d : Dec} (h : d.exp < 0) : intR d = (0, false) := by unfold intR; rw [if_neg]; omega
theorem may_dval {d : Dec} (h : mayB d = true) (hne : d.digits ≠ []) : 10 ^ (d.digits.length - 1) ≤ dval d.digits := by
  obtain ⟨c, t, hd, hda, _, hc, _⟩ := may_cons h hne
  rw [hd]
  have h0 := hda c (by simp)
  have hc2 : c.toNat ≠ 48 := fun e => hc (UInt8.toNat_inj.1 e)
  rw [dval_cons]
  have h1 : 1 * 10 ^ t.length ≤ (c.toNat - 48) * 10 ^ t.length := Nat.mul_le_mul_right _ (by omega)
  simp
  omega
theorem pow19_le (a : Nat) (h : 19 ≤ a) : 10000000000000000000 ≤ 10 ^ a := by
  have : (10000000000000000000 : Nat) = 10 ^ 19 := by decide
  rw [this]
  exact Nat.pow_le_pow_right (by omega) h
theorem intR_big {d : Dec} (h : mayB d = true) (h0 : 0 ≤ d.exp) (h1 : 19 < d.digits.length + d.exp) : intR d = (0, false) := by
  have hne : d.digits ≠ [] := by
    intro e
    have := may_nil h e
    rw [this] at h1
    simp [Dec.zero] at h1
  have hv := may_dval h hne
  have hl : 0 < d.digits.length := List.length_pos_iff.2 hne
  have hm : 10 ^ (d.digits.length - 1 + d.exp.toNat) ≤ mag d 0 := by
    unfold mag
    rw [Nat.pow_add, Int.sub_zero]
    exact Nat.mul_le_mul_right _ hv
  have h2 := Nat.le_trans (pow19_le (d.digits.length - 1 + d.exp.toNat) (by omega)) hm
  unfold intR
  rw [if_neg]
  unfold ival
  split <;> omega
theorem intR_nil {d : Dec} (h : mayB d = true) (he : d.digits = []) : intR d = (0, true) ∧ d.exp = 0 := by
  rw [may_nil h he]
  exact ⟨rfl, rfl⟩
/-- The digits of a whole number. -/
def tenS (d : Dec) : List UInt8 := d.digits ++ List.replicate d.exp.toNat 48
theorem tenS_dig {d : Dec} (h : mayB d = true) : Dig (tenS d) ∧ dval (tenS d) = mag d 0 ∧ trim0 (tenS d) = tenS d := by
  unfold tenS
  refine ⟨?_, ?_, ?_⟩
  · rw [Dig_append]
    refine ⟨?_, Dig_zeros _⟩
    by_cases he : d.digits = []
    · rw [he]; exact Dig_nil
    · obtain ⟨c, t, hd, hda, _⟩ := may_cons h he
      rw [hd]; exact hda
  · rw [dval_zeros]
    unfold mag
    rw [Int.sub_zero]
  · by_cases he : d.digits = []
    · rw [may_nil h he]; rfl
    · obtain ⟨c, t, hd, _, _, hc, _⟩ := may_cons h he
      rw [hd]; exact trim0_same c _ hc
theorem parse_few : ∀ (l : List UInt8) (acc : Nat), Dig l → (acc + 1) * 10 ^ l.length ≤ 10000000000000000000 → Lib.parseUintM 18446744073709551615 acc l = .ok (acc * 10 ^ l.length + dval l) := by
  intro l
  induction l with
  | nil => intro acc _ _; simp [Lib.parseUintM, dval]
  | cons c t ih =>
    intro acc hd hb
    have hc := hd c (by simp)
    have hp : 0 < 10 ^ t.length := Nat.pow_pos (by omega)
    rw [List.length_cons, Nat.pow_succ] at hb
    have hb2 : (acc * 10 + 10) * 10 ^ t.length ≤ 10000000000000000000 := by
      rw [show (acc * 10 + 10) * 10 ^ t.length = (acc + 1) * (10 ^ t.length * 10) by rw [Nat.mul_comm (10 ^ t.length) 10, ← Nat.mul_assoc]; congr 1; omega]
      exact hb
    have hb3 : acc * 10 + 10 ≤ (acc * 10 + 10) * 10 ^ t.length := Nat.le_mul_of_pos_right _ (by omega)
    unfold Lib.parseUintM
    rw [if_pos hc, if_neg (by omega), if_neg (by omega), ih _ (fun x hx => hd x (by simp [hx]))]
    · rw [dval_cons, List.length_cons, Nat.pow_succ]
      congr 1
      rw [Nat.add_mul, Nat.mul_assoc, Nat.mul_comm 10, Nat.add_assoc]
    · refine Nat.le_trans (Nat.mul_le_mul_right _ ?_) hb2
      omega
theorem parse_fits {d : Dec} (h : mayB d = true) (h0 : 0 ≤ d.exp) (h1 : d.digits.length + d.exp ≤ 19) (hne : d.digits ≠ []) :
    Lib.parseIntB 64 ((if d.neg then [45] else []) ++ tenS d) = if (intR d).2 = true then .ok (intR d).1 else .range := by
  obtain ⟨t1, t2, t3⟩ := tenS_dig h
  have hl : (tenS d).length ≤ 19 := by unfold tenS; simp; omega
  have hp : Lib.parseUintB 64 (tenS d) = .ok (mag d 0) := by
    unfold Lib.parseUintB
    rw [if_neg (by unfold tenS; simp [hne])]
    rw [show (2 : Nat) ^ 64 - 1 = 18446744073709551615 from by decide, parse_few _ 0 t1 (by
      have : (10000000000000000000 : Nat) = 10 ^ 19 := by decide
      rw [this, Nat.zero_add, Nat.one_mul]
      exact Nat.pow_le_pow_right (by omega) hl), t2]
    simp
  have e63 : (2 : Nat) ^ (64 - 1) = 9223372036854775808 := by decide
  cases hn : d.neg with
  | true =>
    show Lib.parseIntB 64 (45 :: tenS d) = _
    rw [Lib.parseIntB_minus, hp, e63]
    unfold Lib.signedC intR
    have hi : ival d 0 = -(mag d 0 : Int) := by unfold ival; rw [hn]; rfl
    rw [hi]
    by_cases hb : 9223372036854775808 < mag d 0
    · rw [if_neg (show ¬ (mayB d = true ∧ _) from by omega)]
      simp [hb]
    · have hc : mayB d = true ∧ 0 ≤ d.exp ∧ -9223372036854775808 ≤ -(mag d 0 : Int) ∧ -(mag d 0 : Int) ≤ 9223372036854775807 := ⟨h, h0, by omega, by omega⟩
      rw [if_pos hc]
      simp [hb]
  | false =>
    cases ht : tenS d with
    | nil => exact absurd ht (by unfold tenS; simp [hne])
    | cons c t =>
      have hc := t1 c (by rw [ht]; simp)
      show Lib.parseIntB 64 (c :: t) = _
      rw [Lib.parseIntB_plain _ _ _ (by omega) (by omega), ← ht, hp, e63]
      unfold Lib.signlessC intR
      have hi : ival d 0 = (mag d 0 : Int) := by unfold ival; rw [hn]; rfl
      rw [hi]
      by_cases hb : 9223372036854775808 ≤ mag d 0
      · rw [if_neg (show ¬ (mayB d = true ∧ _) from by omega)]
        simp [hb]
      · have hc : mayB d = true ∧ 0 ≤ d.exp ∧ -9223372036854775808 ≤ (mag d 0 : Int) ∧ (mag d 0 : Int) ≤ 9223372036854775807 := ⟨h, h0, by omega, by omega⟩
        rw [if_pos hc]
        simp [hb]
theorem trimR_pre (l : List UInt8) : ∃ k, l = trimR l ++ List.replicate k 48 := by
  have key : ∀ m : List UInt8, ∃ k, m = List.replicate k 48 ++ m.dropWhile (· == 48) := by
    intro m
    induction m with
    | nil => exact ⟨0, rfl⟩
    | cons c t ih =>
      rw [List.dropWhile_cons]
      by_cases hc : (c == 48) = true
      · rw [if_pos hc]
        obtain ⟨k, hk⟩ := ih
        refine ⟨k + 1, ?_⟩
        rw [List.replicate_succ, List.cons_append, ← hk, eq_of_beq hc]
      · rw [if_neg hc]
        exact ⟨0, rfl⟩
  obtain ⟨k, hk⟩ := key l.reverse
  refine ⟨k, ?_⟩
  have := congrArg List.reverse hk
  simpa [trimR] using this
theorem trimR_last (l : List UInt8) : trimR l = [] ∨ (trimR l).getD ((trimR l).length - 1) 0 ≠ 48 := by
  unfold trimR
  have key : ∀ m : List UInt8, m.dropWhile (· == 48) = [] ∨ (m.dropWhile (· == 48)).getD 0 0 ≠ 48 := by
    intro m
    induction m with
    | nil => exact .inl rfl
    | cons c t ih =>
      rw [List.dropWhile_cons]
      by_cases hc : (c == 48) = true
      · rw [if_pos hc]; exact ih
      · rw [if_neg hc]
        right
        intro e
        exact hc (beq_iff_eq.2 e)
  rcases key l.reverse with h | h
  · left; rw [h]; rfl
  · cases hm : l.reverse.dropWhile (· == 48) with
    | nil => left; rfl
    | cons c t =>
      right
      rw [hm] at h
      simpa using h
theorem may_decOf (s : Bool) {n : Nat} (hn : n ≠ 0) (hl : (digS n).length ≤ 100) : mayB (decOf s (digS n) 0) = true := by
  obtain ⟨c, t, hc, hc8⟩ := digS_cons hn
  obtain ⟨hd, _, _⟩ := digS_dig n
  obtain ⟨k, hk⟩ := trimR_pre (digS n)
  have hlk : (digS n).length = (trimR (digS n)).length + k := by
    have := congrArg List.length hk
    simpa using this
  have hne : trimR (digS n) ≠ [] := by
    intro e
    rw [e, hc] at hk
    cases k with
    | zero => simp at hk
    | succ k =>
      simp [List.replicate_succ] at hk
      exact hc8 hk.1
  have hda : Dig (trimR (digS n)) := fun x hx => hd x (by rw [hk]; simp [hx])
  have hlast := (trimR_last (digS n)).resolve_left hne
  unfold mayB decOf
  cases ht : trimR (digS n) with
  | nil => exact absurd ht hne
  | cons x y =>
    rw [ht] at hk hda hlast hlk
    have hx : x = c := by rw [hc] at hk; simp at hk; exact hk.1.symm
    simp only [Bool.and_eq_true, Bool.not_eq_true', beq_eq_false_iff_ne, decide_eq_true_eq]
    simp only [List.length_cons] at hlk hlast ⊢
    refine ⟨⟨⟨⟨⟨(digAll_iff _).2 hda, by omega⟩, by rw [hx]; exact hc8⟩, by simpa using hlast⟩, by omega⟩, by omega⟩
theorem madeZ_ok {z : Int} (h : z.natAbs < 10 ^ 19) : (madeZ z 0).2 = 0 := by
  unfold madeZ
  rw [madeS_dig]
  by_cases hz : z.natAbs = 0
  · rw [if_pos hz]
  · rw [if_neg hz, if_pos (may_decOf _ hz (Nat.le_trans (digS_len_le h) (by omega)))]
theorem madeS_dec (s : Bool) (n : Nat) (e : Int) : madeS s (Lib.decDigits n) e = madeS s (digS n) e := by
  obtain ⟨h1, h2, _⟩ := dec_dig n
  have h3 := trim0_digS _ h1 n h2
  have h4 := (digS_dig n).2.2
  unfold madeS
  rw [h3, h4]
/-- A whole number of 64 bits, there and back. -/
theorem int_back {n : Int} (h0 : -9223372036854775808 ≤ n) (h1 : n ≤ 9223372036854775807) :
    madeS (decide (n < 0)) (Lib.decDigits n.natAbs) 0 = (madeZ n 0) ∧ mayB (madeZ n 0).1 = true ∧ 0 ≤ (madeZ n 0).1.exp ∧ intR (madeZ n 0).1 = (n, true) := by
  have hlt : n.natAbs < 10 ^ 19 := by
    have : (10000000000000000000 : Nat) = 10 ^ 19 := by decide
    omega
  have hok := madeZ_ok hlt
  have hm := madeZ_may n 0 hok
  have hv := madeZ_val n 0 hok (e' := 0) (by omega)
  have he : 0 ≤ (madeZ n 0).1.exp := by
    by_cases hz : n = 0
    · subst hz; rw [madeZ_zero]; exact Int.le_refl 0
    · exact madeZ_exp n 0 hok hz
  refine ⟨madeS_dec _ _ _, hm, he, ?_⟩
  have hv2 : ival (madeZ n 0).1 0 = n := by rw [hv]; simp
  unfold intR
  rw [hv2, if_pos ⟨hm, he, h0, h1⟩]
end Go.Proofs.YtkakmjdfecbhaaaGreatDoor
