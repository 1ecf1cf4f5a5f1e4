/- Plain law: a decimal's text is read as that decimal; what is read may be. No program in sight. -/
import Derived.Test.YtkakmjdfecbhaaaGreatDoorTxtL
import Derived.Test.YtkakmjdfecbhaaaGreatDoorParL
namespace Go.Proofs.YtkakmjdfecbhaaaGreatDoor

theorem may_cons {d : Dec} (h : mayB d = true) (hne : d.digits ≠ []) :
    ∃ c t, d.digits = c :: t ∧ Dig (c :: t) ∧ t.length + 1 ≤ 100 ∧ c ≠ 48 ∧ (c :: t).getD t.length 0 ≠ 48 ∧ -1000 ≤ d.exp ∧ d.exp ≤ 1000 := by
  cases hd : d.digits with
  | nil => exact absurd hd hne
  | cons c t =>
    simp only [mayB, hd, Bool.and_eq_true, decide_eq_true_eq] at h
    obtain ⟨⟨⟨⟨⟨h1, h2⟩, h3⟩, h4⟩, h5⟩, h6⟩ := h
    exact ⟨c, t, rfl, (digAll_iff _).1 h1, h2, by simpa using h3, by simpa using h4, h5, h6⟩
theorem may_nil {d : Dec} (h : mayB d = true) (he : d.digits = []) : d = Dec.zero := by
  obtain ⟨n, g, e⟩ := d
  simp only at he
  subst he
  simp only [mayB, Bool.and_eq_true, decide_eq_true_eq] at h
  obtain ⟨h1, h2⟩ := h
  simp at h1
  subst h1; subst h2; rfl
theorem made_may (neg : Bool) (l : List UInt8) (e : Int) (h : (madeS neg l e).2 = 0) : mayB (madeS neg l e).1 = true := by
  unfold madeS at h ⊢
  split
  · rfl
  · rename_i h1
    rw [if_neg h1] at h
    split
    · rename_i h2; exact h2
    · rename_i h2; rw [if_neg h2] at h; simp at h
/-- What is read may be. -/
theorem parse_may (l : List UInt8) (h : (parseS l).2 = 0) : mayB (parseS l).1 = true := by
  have zz : mayB Dec.zero = true := rfl
  have e1 : ∀ neg all exp r, (parseEnd neg all exp r).2 = 0 → mayB (parseEnd neg all exp r).1 = true := by
    intro neg all exp r h
    unfold parseEnd at h ⊢
    split
    · rename_i h1; rw [if_pos h1] at h; exact made_may _ _ _ h
    · exact zz
  have e2 : ∀ neg all exp r, (parseE neg all exp r).2 = 0 → mayB (parseE neg all exp r).1 = true := by
    intro neg all exp r h
    unfold parseE at h ⊢
    split
    · rename_i h1; rw [if_pos h1] at h; exact e1 _ _ _ _ h
    · rename_i h1; rw [if_neg h1] at h
      split
      · exact zz
      · rename_i h2; rw [if_neg h2] at h; exact e1 _ _ _ _ h
  have e3 : ∀ neg all r, (parseP neg all r).2 = 0 → mayB (parseP neg all r).1 = true := by
    intro neg all r h
    unfold parseP at h ⊢
    split
    · rename_i h1; rw [if_pos h1] at h
      split
      · exact zz
      · rename_i h2; rw [if_neg h2] at h; exact e2 _ _ _ _ h
    · rename_i h1; rw [if_neg h1] at h; exact e2 _ _ _ _ h
  have e4 : ∀ neg r, (parseA neg r).2 = 0 → mayB (parseA neg r).1 = true := by
    intro neg r h
    unfold parseA at h ⊢
    split
    · exact zz
    · rename_i h1; rw [if_neg h1] at h; exact e3 _ _ _ h
  unfold parseS at h ⊢
  split
  · exact zz
  · rename_i h1; rw [if_neg h1] at h; exact e4 _ _ h

theorem trim0_zeros (k : Nat) (l : List UInt8) : trim0 (List.replicate k 48 ++ l) = trim0 l := by
  induction k with
  | zero => rfl
  | succ k ih => rw [List.replicate_succ, List.cons_append, trim0, List.dropWhile_cons, if_pos (by rfl)]; exact ih
theorem trimR_zeros (l : List UInt8) (e : Nat) : trimR (l ++ List.replicate e 48) = trimR l := by
  unfold trimR
  rw [List.reverse_append, List.reverse_replicate]
  have := trim0_zeros e l.reverse
  unfold trim0 at this
  rw [this]
theorem trimR_same (l : List UInt8) (c : UInt8) (h : c ≠ 48) : trimR (l ++ [c]) = l ++ [c] := by
  unfold trimR
  rw [List.reverse_append]
  have : ¬ (c == 48) = true := by simpa using h
  simp [h]
theorem trim0_same (c : UInt8) (t : List UInt8) (h : c ≠ 48) : trim0 (c :: t) = c :: t := by
  unfold trim0; rw [List.dropWhile_cons, if_neg (by simpa using h)]
theorem last_form (c : UInt8) (t : List UInt8) (h : (c :: t).getD t.length 0 ≠ 48) : ∃ l x, c :: t = l ++ [x] ∧ x ≠ 48 := by
  rcases nil_or_snoc (c :: t) with h1 | ⟨l, x, h1⟩
  · cases h1
  · refine ⟨l, x, h1, ?_⟩
    have hl : t.length = l.length := by have := congrArg List.length h1; simp at this; exact this
    rw [h1, hl] at h
    simpa using h
/-- Noughts ahead and behind turn nothing. -/
theorem made_ok {d : Dec} (h : mayB d = true) (hne : d.digits ≠ []) (k e : Nat) (n : Int) (hn : n = d.exp - e) :
    madeS d.neg (List.replicate k 48 ++ (d.digits ++ List.replicate e 48)) n = (d, 0) := by
  obtain ⟨c, t, hd, hdig, hl, hc, hlast, h1, h2⟩ := may_cons h hne
  obtain ⟨l, x, hx, hx2⟩ := last_form c t hlast
  have e1 : trim0 (List.replicate k 48 ++ (d.digits ++ List.replicate e 48)) = d.digits ++ List.replicate e 48 := by
    rw [trim0_zeros, hd, List.cons_append, trim0_same _ _ hc]
  have e2 : trimR (d.digits ++ List.replicate e 48) = d.digits := by
    rw [trimR_zeros, hd, hx, trimR_same _ _ hx2]
  have e3 : decOf d.neg (d.digits ++ List.replicate e 48) n = d := by
    unfold decOf
    rw [e2]
    obtain ⟨a, b, f⟩ := d
    simp only [Dec.mk.injEq, true_and]
    simp only at hn
    simp; omega
  unfold madeS
  rw [e1, if_neg (by rw [hd]; simp), e3, if_pos h]

theorem digs_app (I rest : List UInt8) (hd : Dig I) (hr : rest = [] ∨ ∃ c t, rest = c :: t ∧ digB c = false) : digsS (I ++ rest) = I ∧ restS (I ++ rest) = rest := by
  induction I with
  | nil =>
    rcases hr with rfl | ⟨c, t, rfl, hc⟩
    · exact ⟨rfl, rfl⟩
    · simp [digsS, restS, hc]
  | cons a I ih =>
    have ha : digB a = true := (digB_iff a).2 (hd a (by simp))
    obtain ⟨h1, h2⟩ := ih (fun x hx => hd x (by simp [hx]))
    simp only [digsS, restS] at h1 h2 ⊢
    rw [List.cons_append, List.takeWhile_cons, List.dropWhile_cons, if_pos ha, if_pos ha, h1, h2]
    exact ⟨rfl, rfl⟩
theorem Dig_zeros (k : Nat) : Dig (List.replicate k 48) := by
  intro c hc; rw [List.mem_replicate] at hc; rw [hc.2]; decide
theorem parseE_none (neg : Bool) (all : List UInt8) (exp : Int) : parseE neg all exp [] = madeS neg all exp := rfl
/-- The exponent behind an e is read as it was told. -/
theorem parseE_itoa (neg : Bool) (all : List UInt8) (exp P : Int) (h1 : -2000 ≤ P) (h2 : P ≤ 2000) : parseE neg all exp (101 :: Lib.itoa P) = madeS neg all (exp + P) := by
  obtain ⟨hg, hv, ht⟩ := dec_dig P.natAbs
  have hne : Lib.decDigits P.natAbs ≠ [] := by
    unfold Lib.decDigits
    split
    · simp
    · simp
  have hd := digs_app _ [] hg (.inl rfl)
  rw [List.append_nil] at hd
  have hpow : powerS (Lib.decDigits P.natAbs) = P.natAbs := by
    unfold powerS
    rw [if_neg, dval_trim0, hv]
    intro hlen
    have h3 : trim0 (Lib.decDigits P.natAbs) ≠ [] := by intro e; rw [e] at hlen; simp at hlen
    cases hq : trim0 (Lib.decDigits P.natAbs) with
    | nil => exact h3 hq
    | cons c t =>
      rw [hq] at hlen
      have h4 : trim0 (c :: t) = c :: t := by rw [← hq]; exact trim0_trim0 _
      have h5 := dval_low (by rw [← hq]; exact Dig_trim0 hg) (trim0_head h4)
      rw [← hq, dval_trim0, hv] at h5
      have h6 : 10 ^ 7 ≤ 10 ^ t.length := Nat.pow_le_pow_right (by omega) (by simp at hlen; omega)
      omega
  have ho : oneS [101, 69] (101 :: Lib.itoa P) = (101, Lib.itoa P) := rfl
  by_cases hP : P < 0
  · have hi : Lib.itoa P = 45 :: Lib.decDigits P.natAbs := by unfold Lib.itoa; rw [if_pos hP]
    have ho2 : oneS [43, 45] (45 :: Lib.decDigits P.natAbs) = (45, Lib.decDigits P.natAbs) := rfl
    unfold parseE
    rw [ho]
    simp only
    rw [hi, ho2]
    simp only
    rw [if_neg (by decide), hd.1, if_neg hne, hd.2, if_pos trivial, hpow]
    unfold parseEnd
    rw [if_pos rfl]
    congr 1; omega
  · have hi : Lib.itoa P = Lib.decDigits P.natAbs := by unfold Lib.itoa; rw [if_neg hP]; congr 1; omega
    have ho2 : oneS [43, 45] (Lib.decDigits P.natAbs) = (0, Lib.decDigits P.natAbs) := by
      cases hq : Lib.decDigits P.natAbs with
      | nil => exact absurd hq hne
      | cons c t =>
        rw [hq] at hg
        have h7 := hg c (by simp)
        unfold oneS
        simp only
        rw [if_neg]
        intro hc
        have : c = 43 ∨ c = 45 := by simpa using hc
        rcases this with rfl | rfl
        · simp at h7
        · simp at h7
    unfold parseE
    rw [ho]
    simp only
    rw [hi, ho2]
    simp only
    rw [if_neg (by decide), hd.1, if_neg hne, hd.2, if_neg (by decide), hpow]
    unfold parseEnd
    rw [if_pos rfl]
    congr 1; omega
end Go.Proofs.YtkakmjdfecbhaaaGreatDoor
