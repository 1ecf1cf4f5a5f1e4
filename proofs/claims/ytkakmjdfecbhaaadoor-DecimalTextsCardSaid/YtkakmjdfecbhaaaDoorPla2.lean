/- Plain law: the text of each decimal that may be is read as that decimal. No program in sight. -/
import Derived.Test.YtkakmjdfecbhaaaDoorPla1
import Derived.Lib.ItoaLen
namespace Go.Proofs.YtkakmjdfecbhaaaDoor

theorem digB46 : digB 46 = false := by decide
theorem digB101 : digB 101 = false := by decide
/-- A text without its sign: digits, and the first of them alone a nought. -/
theorem parseA_of (neg : Bool) (I rest : List UInt8) (hd : Dig I) (hne : I ≠ []) (h0 : I.getD 0 0 ≠ 48 ∨ I.length ≤ 1) (hr : rest = [] ∨ ∃ c t, rest = c :: t ∧ digB c = false) :
    parseA neg (I ++ rest) = parseP neg I rest := by
  obtain ⟨h1, h2⟩ := digs_app I rest hd hr
  unfold parseA
  rw [h1, h2, if_neg]
  rintro (h | ⟨h3, h4⟩)
  · exact hne h
  · rcases h0 with h | h
    · exact h h3
    · omega
theorem parseP_none (neg : Bool) (I : List UInt8) : parseP neg I [] = madeS neg I 0 := rfl
theorem parseP_e (neg : Bool) (I : List UInt8) (P : Int) (h1 : -2000 ≤ P) (h2 : P ≤ 2000) : parseP neg I (101 :: Lib.itoa P) = madeS neg I P := by
  have ho : oneS [46] (101 :: Lib.itoa P) = (0, 101 :: Lib.itoa P) := rfl
  unfold parseP
  rw [ho, if_neg (show ¬ ((0 : UInt8) = 46) from by decide), parseE_itoa _ _ _ _ h1 h2, Int.zero_add]
theorem parseP_point (neg : Bool) (I D rest : List UInt8) (hd : Dig D) (hne : D ≠ []) (hr : rest = [] ∨ ∃ c t, rest = c :: t ∧ digB c = false) :
    parseP neg I (46 :: (D ++ rest)) = parseE neg (I ++ D) (-(D.length : Int)) rest := by
  have ho : oneS [46] (46 :: (D ++ rest)) = (46, D ++ rest) := rfl
  obtain ⟨h1, h2⟩ := digs_app D rest hd hr
  unfold parseP
  rw [ho, if_pos rfl]
  simp only
  rw [h1, h2, if_neg hne]

theorem nat_body {d : Dec} (h : mayB d = true) : parseA d.neg (textA d) = (d, 0) ∧ (textA d).length ≤ 200 ∧ ∃ c t, textA d = c :: t ∧ c ≠ 45 := by
  by_cases hne : d.digits = []
  · obtain rfl := may_nil h hne
    exact ⟨rfl, by decide, 48, [], rfl, by decide⟩
  · obtain ⟨c, t, hd, hdig, hl, hc, hlast, h1, h2⟩ := may_cons h hne
    have hn : d.digits.length = t.length + 1 := by rw [hd]; rfl
    have hdg : Dig d.digits := by rw [hd]; exact hdig
    have hc45 : c ≠ 45 := by
      intro e; subst e
      have := hdig 45 (by simp); simp at this
    have hg0 : d.digits.getD 0 0 ≠ 48 := by rw [hd]; simpa using hc
    by_cases hw : 0 ≤ d.exp ∧ d.digits.length + d.exp ≤ 21
    · have hA : textA d = d.digits ++ List.replicate d.exp.toNat 48 := by simp only [textA]; rw [if_neg (by omega), if_pos hw]
      refine ⟨?_, by rw [hA]; simp; omega, c, _, by rw [hA, hd, List.cons_append], hc45⟩
      have hp := parseA_of d.neg (d.digits ++ List.replicate d.exp.toNat 48) [] (Dig_append.2 ⟨hdg, Dig_zeros _⟩) (by rw [hd]; simp) (.inl (by rw [hd]; simpa using hc)) (.inl rfl)
      rw [List.append_nil] at hp
      rw [hA, hp, parseP_none]
      exact made_ok h hne 0 d.exp.toNat 0 (by omega)
    · by_cases hp : 0 < d.digits.length + d.exp ∧ d.digits.length + d.exp ≤ 21
      · obtain ⟨p, hpp⟩ : ∃ p : Nat, (d.digits.length : Int) + d.exp = p := ⟨((d.digits.length : Int) + d.exp).toNat, by omega⟩
        have hA : textA d = d.digits.take p ++ 46 :: d.digits.drop p := by
          simp only [textA]; rw [if_neg (by omega), if_neg hw, if_pos hp, hpp, Int.toNat_natCast]
        obtain ⟨q, rfl⟩ : ∃ q, p = q + 1 := ⟨p - 1, by omega⟩
        refine ⟨?_, by rw [hA]; simp; omega, c, _, by rw [hA, hd, List.take_succ_cons, List.cons_append], hc45⟩
        have hI : d.digits.take (q + 1) ≠ [] := by rw [hd]; simp
        have hD : d.digits.drop (q + 1) ≠ [] := by
          intro e; have := congrArg List.length e; simp at this; omega
        rw [hA, parseA_of d.neg _ _ (Dig_take hdg _) hI (.inl (by rw [hd]; simpa using hc)) (.inr ⟨46, _, rfl, digB46⟩)]
        have hpt := parseP_point d.neg (d.digits.take (q + 1)) (d.digits.drop (q + 1)) [] (Dig_drop hdg _) hD (.inl rfl)
        rw [List.append_nil] at hpt
        rw [hpt, parseE_none, List.take_append_drop]
        have := made_ok h hne 0 0 (-((d.digits.drop (q + 1)).length : Int)) (by simp; omega)
        simpa using this
      · by_cases hs : d.digits.length + d.exp ≤ 0 ∧ -5 ≤ d.digits.length + d.exp
        · obtain ⟨p, hpp⟩ : ∃ p : Nat, -((d.digits.length : Int) + d.exp) = p := ⟨(-((d.digits.length : Int) + d.exp)).toNat, by omega⟩
          have hA : textA d = 48 :: 46 :: (List.replicate p 48 ++ d.digits) := by
            simp only [textA]; rw [if_neg (by omega), if_neg hw, if_neg hp, if_pos hs, hpp, Int.toNat_natCast]
          refine ⟨?_, by rw [hA]; simp; omega, 48, _, hA, by decide⟩
          have ha := parseA_of d.neg [48] (46 :: (List.replicate p 48 ++ d.digits)) (by intro x hx; simp at hx; subst hx; decide) (by simp) (.inr (by simp)) (.inr ⟨46, _, rfl, digB46⟩)
          have hpt := parseP_point d.neg [48] (List.replicate p 48 ++ d.digits) [] (Dig_append.2 ⟨Dig_zeros _, hdg⟩) (by rw [hd]; simp) (.inl rfl)
          rw [List.append_nil] at hpt
          rw [hA]
          rw [show 48 :: 46 :: (List.replicate p 48 ++ d.digits) = [48] ++ 46 :: (List.replicate p 48 ++ d.digits) from rfl, ha, hpt, parseE_none]
          have := made_ok h hne (p + 1) 0 (-((List.replicate p 48 ++ d.digits).length : Int)) (by simp; omega)
          simpa [List.replicate_succ] using this
        · have hP : -2000 ≤ (d.digits.length : Int) + d.exp - 1 ∧ (d.digits.length : Int) + d.exp - 1 ≤ 2000 := by omega
          have hil := Lib.itoa_length_le ((d.digits.length : Int) + d.exp - 1) (by omega) (by omega)
          cases t with
          | nil =>
            have hA : textA d = [c] ++ 101 :: Lib.itoa (d.digits.length + d.exp - 1) := by
              simp only [textA]; rw [if_neg (by omega), if_neg hw, if_neg hp, if_neg hs, if_neg (by simp at hn; omega), hd]
            refine ⟨?_, by rw [hA]; simp; omega, c, _, hA, hc45⟩
            rw [hA, parseA_of d.neg [c] _ hdig (by simp) (.inr (by simp)) (.inr ⟨101, _, rfl, digB101⟩), parseP_e _ _ _ hP.1 hP.2]
            have := made_ok h hne 0 0 ((d.digits.length : Int) + d.exp - 1) (by simp at hn; omega)
            rw [hd] at this ⊢
            simpa using this
          | cons c2 t2 =>
            have hA : textA d = [c] ++ 46 :: ((c2 :: t2) ++ 101 :: Lib.itoa (d.digits.length + d.exp - 1)) := by
              simp only [textA]; rw [if_neg (by omega), if_neg hw, if_neg hp, if_neg hs, if_pos (by simp at hn; omega)]
              rw [hd]; simp
            refine ⟨?_, by rw [hA]; simp at hl ⊢; omega, c, _, hA, hc45⟩
            have hd2 : Dig (c2 :: t2) := fun x hx => hdig x (by simp at hx ⊢; exact .inr hx)
            rw [hA, parseA_of d.neg [c] _ (fun x hx => hdig x (by simp at hx; simp [hx])) (by simp) (.inr (by simp)) (.inr ⟨46, _, rfl, digB46⟩),
              parseP_point d.neg [c] (c2 :: t2) _ hd2 (by simp) (.inr ⟨101, _, rfl, digB101⟩), parseE_itoa _ _ _ _ hP.1 hP.2]
            have := made_ok h hne 0 0 (-(((c2 :: t2).length : Nat) : Int) + ((d.digits.length : Int) + d.exp - 1)) (by simp at hn ⊢; omega)
            rw [hd] at this ⊢
            simpa using this

/-- The text of each decimal that may be is read as that decimal. -/
theorem text_back {d : Dec} (h : mayB d = true) : parseS (textT d) = (d, 0) ∧ (textT d).length ≤ 300 := by
  obtain ⟨h1, h2, c, t, h3, h4⟩ := nat_body h
  unfold textT
  cases hn : d.neg with
  | true =>
    rw [hn] at h1
    refine ⟨?_, by simp; omega⟩
    have ho : oneS [45] (45 :: textA d) = (45, textA d) := rfl
    rw [if_pos rfl]
    unfold parseS
    rw [if_neg (by simp; omega), ho]
    exact h1
  | false =>
    rw [hn] at h1
    refine ⟨?_, by simp; omega⟩
    have ho : oneS [45] (textA d) = (0, textA d) := by
      rw [h3]; unfold oneS; simp only
      rw [if_neg]; intro hc; have : c = 45 := by simpa using hc
      exact h4 this
    rw [if_neg (by decide)]
    unfold parseS
    rw [if_neg (by omega), ho]
    exact h1
end Go.Proofs.YtkakmjdfecbhaaaDoor
