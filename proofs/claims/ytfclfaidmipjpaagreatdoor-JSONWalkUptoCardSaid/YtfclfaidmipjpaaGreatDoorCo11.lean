/- Texts of this claim, joined: Jtb, Pbk, Pso, Peq, Pcp, Cnt, Vst, Jk1. -/
import Derived.Shelf.Unicode.ValidAny
import Derived.Test.YtfclfaidmipjpaaGreatDoorCo10
namespace Go.Proofs.YtfclfaidmipjpaaGreatDoor
set_option maxRecDepth 100000
set_option maxHeartbeats 20000000
open Go.Lib (hid)
/-! ### DecM -/
theorem dec_dig (n : Nat) : Dig (Lib.decDigits n) ∧ dval (Lib.decDigits n) = n ∧ (0 < n → trim0 (Lib.decDigits n) = Lib.decDigits n) := by
 induction n using Nat.strongRecOn with
 | _ n ih =>
  unfold Lib.decDigits
  split
  ·rename_i h
   refine ⟨fun c hc => ?_, ?_, fun hp => ?_⟩
   ·simp only [List.mem_singleton] at hc; subst hc; rw [ofNat_digit n h]; omega
   ·show 10 * 0 + ((UInt8.ofNat (48 + n)).toNat - 48) = n
    rw [ofNat_digit n h]; omega
   have : ¬ (UInt8.ofNat (48 + n) == 48) = true := by
    rw [beq_iff_eq, ← UInt8.toNat_inj, ofNat_digit n h]
    show ¬ 48 + n = 48
    omega
   unfold trim0; rw [List.dropWhile_cons, if_neg this]
  rename_i h
  obtain ⟨h1, h2, h3⟩ := ih (n / 10) (by omega)
  have hm : n % 10 < 10 := Nat.mod_lt _ (by omega)
  refine ⟨Dig_append.2 ⟨h1, fun c hc => ?_⟩, ?_, fun hp => ?_⟩
  ·simp only [List.mem_singleton] at hc; subst hc; rw [ofNat_digit _ hm]; omega
  ·rw [dval_snoc, h2, ofNat_digit _ hm]; omega
  have h4 := h3 (by omega)
  have hne : Lib.decDigits (n / 10) ≠ [] := by
   intro e; rw [e] at h2; simp [dval] at h2; omega
  cases hq : Lib.decDigits (n / 10) with
  | nil => exact absurd hq hne
  | cons c t =>
   rw [hq] at h4
   have hc : ¬ (c == 48) = true := by
    intro hc
    simp only [trim0, List.dropWhile_cons, hc, if_true] at h4
    have := congrArg List.length h4
    have := (List.dropWhile_sublist (p := (· == (48 : UInt8))) (l := t)).length_le
    simp at *; omega
   simp [trim0, hc]
/-! ### Pla1 -/
theorem may_cons {d : Dec} (h : mayB d = true) (hne : d.digits ≠ []) :
  ∃ c t, d.digits = c :: t ∧ Dig (c :: t) ∧ t.length + 1 ≤ 100 ∧ c ≠ 48 ∧ (c :: t).getD t.length 0 ≠ 48 ∧ -1000 ≤ d.exp ∧ d.exp ≤ 1000 := by
 cases hd : d.digits with
 | nil => exact absurd hd hne
 | cons c t =>
  simp only [mayB, hd, Bool.and_eq_true, decide_eq_true_eq] at h
  obtain ⟨⟨⟨⟨⟨h1, h2⟩, h3⟩, h4⟩, h5⟩, h6⟩ := h
  exact ⟨c, t, rfl, (digAll_iff _).1 h1, h2, by simpa using h3, by simpa using h4, h5, h6⟩
theorem may_nil {d : Dec} (h : mayB d = true) (he : d.digits = []) : d = Dec.zero := by
 obtain ⟨n, g, e⟩ := d
 simp only at he
 subst he
 simp only [mayB, Bool.and_eq_true, decide_eq_true_eq] at h
 obtain ⟨h1, h2⟩ := h
 simp at h1
 subst h1; subst h2; rfl
theorem trim0_zeros (k : Nat) (l : List UInt8) : trim0 (List.replicate k 48 ++ l) = trim0 l := by
 induction k with
 | zero => rfl
 | succ k ih => rw [List.replicate_succ, List.cons_append, trim0, List.dropWhile_cons, if_pos (by rfl)]; exact ih
theorem trimR_zeros (l : List UInt8) (e : Nat) : trimR (l ++ List.replicate e 48) = trimR l := by
 unfold trimR
 rw [List.reverse_append, List.reverse_replicate]
 have := trim0_zeros e l.reverse
 unfold trim0 at this
 rw [this]
theorem trimR_same (l : List UInt8) (c : UInt8) (h : c ≠ 48) : trimR (l ++ [c]) = l ++ [c] := by
 unfold trimR
 rw [List.reverse_append]
 have : ¬ (c == 48) = true := by simpa using h
 simp [h]
theorem trim0_same (c : UInt8) (t : List UInt8) (h : c ≠ 48) : trim0 (c :: t) = c :: t := by
 unfold trim0; rw [List.dropWhile_cons, if_neg (by simpa using h)]
theorem last_form (c : UInt8) (t : List UInt8) (h : (c :: t).getD t.length 0 ≠ 48) : ∃ l x, c :: t = l ++ [x] ∧ x ≠ 48 := by
 rcases nil_or_snoc (c :: t) with h1 | ⟨l, x, h1⟩
 ·cases h1
 refine ⟨l, x, h1, ?_⟩
 have hl : t.length = l.length := by have := congrArg List.length h1; simp at this; exact this
 rw [h1, hl] at h
 simpa using h
theorem made_ok {d : Dec} (h : mayB d = true) (hne : d.digits ≠ []) (k e : Nat) (n : Int) (hn : n = d.exp - e) :
  madeS d.neg (List.replicate k 48 ++ (d.digits ++ List.replicate e 48)) n = (d, 0) := by
 obtain ⟨c, t, hd, hdig, hl, hc, hlast, h1, h2⟩ := may_cons h hne
 obtain ⟨l, x, hx, hx2⟩ := last_form c t hlast
 have e1 : trim0 (List.replicate k 48 ++ (d.digits ++ List.replicate e 48)) = d.digits ++ List.replicate e 48 := by
  rw [trim0_zeros, hd, List.cons_append, trim0_same _ _ hc]
 have e2 : trimR (d.digits ++ List.replicate e 48) = d.digits := by
  rw [trimR_zeros, hd, hx, trimR_same _ _ hx2]
 have e3 : decOf d.neg (d.digits ++ List.replicate e 48) n = d := by
  unfold decOf
  rw [e2]
  obtain ⟨a, b, f⟩ := d
  simp only [Dec.mk.injEq, true_and]
  simp only at hn
  simp; omega
 unfold madeS
 rw [e1, if_neg (by rw [hd]; simp), e3, if_pos h]
theorem digs_app (I rest : List UInt8) (hd : Dig I) (hr : rest = [] ∨ ∃ c t, rest = c :: t ∧ digB c = false) : digsS (I ++ rest) = I ∧ restS (I ++ rest) = rest := by
 induction I with
 | nil =>
  rcases hr with rfl | ⟨c, t, rfl, hc⟩
  ·exact ⟨rfl, rfl⟩
  simp [digsS, restS, hc]
 | cons a I ih =>
  have ha : digB a = true := (digB_iff a).2 (hd a (by simp))
  obtain ⟨h1, h2⟩ := ih (fun x hx => hd x (by simp [hx]))
  simp only [digsS, restS] at h1 h2 ⊢
  rw [List.cons_append, List.takeWhile_cons, List.dropWhile_cons, if_pos ha, if_pos ha, h1, h2]
  exact ⟨rfl, rfl⟩
theorem Dig_zeros (k : Nat) : Dig (List.replicate k 48) := by
 intro c hc; rw [List.mem_replicate] at hc; rw [hc.2]; decide
theorem parseE_none (neg : Bool) (all : List UInt8) (exp : Int) : parseE neg all exp [] = madeS neg all exp := rfl
theorem parseE_itoa (neg : Bool) (all : List UInt8) (exp P : Int) (h1 : -2000 ≤ P) (h2 : P ≤ 2000) : parseE neg all exp (101 :: Lib.itoa P) = madeS neg all (exp + P) := by
 obtain ⟨hg, hv, ht⟩ := dec_dig P.natAbs
 have hne : Lib.decDigits P.natAbs ≠ [] := by
  unfold Lib.decDigits
  split
  ·simp
  simp
 have hd := digs_app _ [] hg (.inl rfl)
 rw [List.append_nil] at hd
 have hpow : powerS (Lib.decDigits P.natAbs) = P.natAbs := by
  unfold powerS
  rw [if_neg, dval_trim0, hv]
  intro hlen
  have h3 : trim0 (Lib.decDigits P.natAbs) ≠ [] := by intro e; rw [e] at hlen; simp at hlen
  cases hq : trim0 (Lib.decDigits P.natAbs) with
  | nil => exact h3 hq
  | cons c t =>
   rw [hq] at hlen
   have h4 : trim0 (c :: t) = c :: t := by rw [← hq]; exact trim0_trim0 _
   have h5 := dval_low (by rw [← hq]; exact Dig_trim0 hg) (trim0_head h4)
   rw [← hq, dval_trim0, hv] at h5
   have h6 : 10 ^ 7 ≤ 10 ^ t.length := Nat.pow_le_pow_right (by omega) (by simp at hlen; omega)
   omega
 have ho : oneS [101, 69] (101 :: Lib.itoa P) = (101, Lib.itoa P) := rfl
 by_cases hP : P < 0
 ·have hi : Lib.itoa P = 45 :: Lib.decDigits P.natAbs := by unfold Lib.itoa; rw [if_pos hP]
  have ho2 : oneS [43, 45] (45 :: Lib.decDigits P.natAbs) = (45, Lib.decDigits P.natAbs) := rfl
  unfold parseE
  rw [ho]
  simp only
  rw [hi, ho2]
  simp only
  rw [if_neg (by decide), hd.1, if_neg hne, hd.2, if_pos trivial, hpow]
  unfold parseEnd
  rw [if_pos rfl]
  congr 1; omega
 have hi : Lib.itoa P = Lib.decDigits P.natAbs := by unfold Lib.itoa; rw [if_neg hP]; congr 1; omega
 have ho2 : oneS [43, 45] (Lib.decDigits P.natAbs) = (0, Lib.decDigits P.natAbs) := by
  cases hq : Lib.decDigits P.natAbs with
  | nil => exact absurd hq hne
  | cons c t =>
   rw [hq] at hg
   have h7 := hg c (by simp)
   unfold oneS
   simp only
   rw [if_neg]
   intro hc
   have : c = 43 ∨ c = 45 := by simpa using hc
   rcases this with rfl | rfl
   ·simp at h7
   simp at h7
 unfold parseE
 rw [ho]
 simp only
 rw [hi, ho2]
 simp only
 rw [if_neg (by decide), hd.1, if_neg hne, hd.2, if_neg (by decide), hpow]
 unfold parseEnd
 rw [if_pos rfl]
 congr 1; omega
/-! ### Pla2 -/
theorem digB46 : digB 46 = false := by decide
theorem digB101 : digB 101 = false := by decide
theorem parseA_of (neg : Bool) (I rest : List UInt8) (hd : Dig I) (hne : I ≠ []) (h0 : I.getD 0 0 ≠ 48 ∨ I.length ≤ 1) (hr : rest = [] ∨ ∃ c t, rest = c :: t ∧ digB c = false) :
  parseA neg (I ++ rest) = parseP neg I rest := by
 obtain ⟨h1, h2⟩ := digs_app I rest hd hr
 unfold parseA
 rw [h1, h2, if_neg]
 rintro (h | ⟨h3, h4⟩)
 ·exact hne h
 ·rcases h0 with h | h
  ·exact h h3
  omega
theorem parseP_none (neg : Bool) (I : List UInt8) : parseP neg I [] = madeS neg I 0 := rfl
theorem parseP_e (neg : Bool) (I : List UInt8) (P : Int) (h1 : -2000 ≤ P) (h2 : P ≤ 2000) : parseP neg I (101 :: Lib.itoa P) = madeS neg I P := by
 have ho : oneS [46] (101 :: Lib.itoa P) = (0, 101 :: Lib.itoa P) := rfl
 unfold parseP
 rw [ho, if_neg (show ¬ ((0 : UInt8) = 46) from by decide), parseE_itoa _ _ _ _ h1 h2, Int.zero_add]
theorem parseP_point (neg : Bool) (I D rest : List UInt8) (hd : Dig D) (hne : D ≠ []) (hr : rest = [] ∨ ∃ c t, rest = c :: t ∧ digB c = false) :
  parseP neg I (46 :: (D ++ rest)) = parseE neg (I ++ D) (-(D.length : Int)) rest := by
 have ho : oneS [46] (46 :: (D ++ rest)) = (46, D ++ rest) := rfl
 obtain ⟨h1, h2⟩ := digs_app D rest hd hr
 unfold parseP
 rw [ho, if_pos rfl]
 simp only
 rw [h1, h2, if_neg hne]
theorem nat_body {d : Dec} (h : mayB d = true) : parseA d.neg (textA d) = (d, 0) ∧ (textA d).length ≤ 200 ∧ ∃ c t, textA d = c :: t ∧ c ≠ 45 := by
 by_cases hne : d.digits = []
 ·obtain rfl := may_nil h hne
  exact ⟨rfl, by decide, 48, [], rfl, by decide⟩
 obtain ⟨c, t, hd, hdig, hl, hc, hlast, h1, h2⟩ := may_cons h hne
 have hn : d.digits.length = t.length + 1 := by rw [hd]; rfl
 have hdg : Dig d.digits := by rw [hd]; exact hdig
 have hc45 : c ≠ 45 := by
  intro e; subst e
  have := hdig 45 (by simp); simp at this
 have hg0 : d.digits.getD 0 0 ≠ 48 := by rw [hd]; simpa using hc
 by_cases hw : 0 ≤ d.exp ∧ d.digits.length + d.exp ≤ 21
 ·have hA : textA d = d.digits ++ List.replicate d.exp.toNat 48 := by simp only [textA]; rw [if_neg (by omega), if_pos hw]
  refine ⟨?_, by rw [hA]; simp; omega, c, _, by rw [hA, hd, List.cons_append], hc45⟩
  have hp := parseA_of d.neg (d.digits ++ List.replicate d.exp.toNat 48) [] (Dig_append.2 ⟨hdg, Dig_zeros _⟩) (by rw [hd]; simp) (.inl (by rw [hd]; simpa using hc)) (.inl rfl)
  rw [List.append_nil] at hp
  rw [hA, hp, parseP_none]
  exact made_ok h hne 0 d.exp.toNat 0 (by omega)
 by_cases hp : 0 < d.digits.length + d.exp ∧ d.digits.length + d.exp ≤ 21
 ·obtain ⟨p, hpp⟩ : ∃ p : Nat, (d.digits.length : Int) + d.exp = p := ⟨((d.digits.length : Int) + d.exp).toNat, by omega⟩
  have hA : textA d = d.digits.take p ++ 46 :: d.digits.drop p := by
   simp only [textA]; rw [if_neg (by omega), if_neg hw, if_pos hp, hpp, Int.toNat_natCast]
  obtain ⟨q, rfl⟩ : ∃ q, p = q + 1 := ⟨p - 1, by omega⟩
  refine ⟨?_, by rw [hA]; simp; omega, c, _, by rw [hA, hd, List.take_succ_cons, List.cons_append], hc45⟩
  have hI : d.digits.take (q + 1) ≠ [] := by rw [hd]; simp
  have hD : d.digits.drop (q + 1) ≠ [] := by
   intro e; have := congrArg List.length e; simp at this; omega
  rw [hA, parseA_of d.neg _ _ (Dig_take hdg _) hI (.inl (by rw [hd]; simpa using hc)) (.inr ⟨46, _, rfl, digB46⟩)]
  have hpt := parseP_point d.neg (d.digits.take (q + 1)) (d.digits.drop (q + 1)) [] (Dig_drop hdg _) hD (.inl rfl)
  rw [List.append_nil] at hpt
  rw [hpt, parseE_none, List.take_append_drop]
  have := made_ok h hne 0 0 (-((d.digits.drop (q + 1)).length : Int)) (by simp; omega)
  simpa using this
 by_cases hs : d.digits.length + d.exp ≤ 0 ∧ -5 ≤ d.digits.length + d.exp
 ·obtain ⟨p, hpp⟩ : ∃ p : Nat, -((d.digits.length : Int) + d.exp) = p := ⟨(-((d.digits.length : Int) + d.exp)).toNat, by omega⟩
  have hA : textA d = 48 :: 46 :: (List.replicate p 48 ++ d.digits) := by
   simp only [textA]; rw [if_neg (by omega), if_neg hw, if_neg hp, if_pos hs, hpp, Int.toNat_natCast]
  refine ⟨?_, by rw [hA]; simp; omega, 48, _, hA, by decide⟩
  have ha := parseA_of d.neg [48] (46 :: (List.replicate p 48 ++ d.digits)) (by intro x hx; simp at hx; subst hx; decide) (by simp) (.inr (by simp)) (.inr ⟨46, _, rfl, digB46⟩)
  have hpt := parseP_point d.neg [48] (List.replicate p 48 ++ d.digits) [] (Dig_append.2 ⟨Dig_zeros _, hdg⟩) (by rw [hd]; simp) (.inl rfl)
  rw [List.append_nil] at hpt
  rw [hA]
  rw [show 48 :: 46 :: (List.replicate p 48 ++ d.digits) = [48] ++ 46 :: (List.replicate p 48 ++ d.digits) from rfl, ha, hpt, parseE_none]
  have := made_ok h hne (p + 1) 0 (-((List.replicate p 48 ++ d.digits).length : Int)) (by simp; omega)
  simpa [List.replicate_succ] using this
 have hP : -2000 ≤ (d.digits.length : Int) + d.exp - 1 ∧ (d.digits.length : Int) + d.exp - 1 ≤ 2000 := by omega
 have hil := Lib.itoa_length_le ((d.digits.length : Int) + d.exp - 1) (by omega) (by omega)
 cases t with
 | nil =>
  have hA : textA d = [c] ++ 101 :: Lib.itoa (d.digits.length + d.exp - 1) := by
   simp only [textA]; rw [if_neg (by omega), if_neg hw, if_neg hp, if_neg hs, if_neg (by simp at hn; omega), hd]
  refine ⟨?_, by rw [hA]; simp; omega, c, _, hA, hc45⟩
  rw [hA, parseA_of d.neg [c] _ hdig (by simp) (.inr (by simp)) (.inr ⟨101, _, rfl, digB101⟩), parseP_e _ _ _ hP.1 hP.2]
  have := made_ok h hne 0 0 ((d.digits.length : Int) + d.exp - 1) (by simp at hn; omega)
  rw [hd] at this ⊢
  simpa using this
 | cons c2 t2 =>
  have hA : textA d = [c] ++ 46 :: ((c2 :: t2) ++ 101 :: Lib.itoa (d.digits.length + d.exp - 1)) := by
   simp only [textA]; rw [if_neg (by omega), if_neg hw, if_neg hp, if_neg hs, if_pos (by simp at hn; omega)]
   rw [hd]; simp
  refine ⟨?_, by rw [hA]; simp at hl ⊢; omega, c, _, hA, hc45⟩
  have hd2 : Dig (c2 :: t2) := fun x hx => hdig x (by simp at hx ⊢; exact .inr hx)
  rw [hA, parseA_of d.neg [c] _ (fun x hx => hdig x (by simp at hx; simp [hx])) (by simp) (.inr (by simp)) (.inr ⟨46, _, rfl, digB46⟩),
   parseP_point d.neg [c] (c2 :: t2) _ hd2 (by simp) (.inr ⟨101, _, rfl, digB101⟩), parseE_itoa _ _ _ _ hP.1 hP.2]
  have := made_ok h hne 0 0 (-(((c2 :: t2).length : Nat) : Int) + ((d.digits.length : Int) + d.exp - 1)) (by simp at hn ⊢; omega)
  rw [hd] at this ⊢
  simpa using this
theorem text_back {d : Dec} (h : mayB d = true) : parseS (textT d) = (d, 0) ∧ (textT d).length ≤ 300 := by
 obtain ⟨h1, h2, c, t, h3, h4⟩ := nat_body h
 unfold textT
 cases hn : d.neg with
 | true =>
  rw [hn] at h1
  refine ⟨?_, by simp; omega⟩
  have ho : oneS [45] (45 :: textA d) = (45, textA d) := rfl
  rw [if_pos rfl]
  unfold parseS
  rw [if_neg (by simp; omega), ho]
  exact h1
 | false =>
  rw [hn] at h1
  refine ⟨?_, by simp; omega⟩
  have ho : oneS [45] (textA d) = (0, textA d) := by
   rw [h3]; unfold oneS; simp only
   rw [if_neg]; intro hc; have : c = 45 := by simpa using hc
   exact h4 this
  rw [if_neg (by decide)]
  unfold parseS
  rw [if_neg (by omega), ho]
  exact h1
theorem good_head {k : Int} {b : Bool} {n : Dec} {t : List UInt8} {l : List J} {ns : List (List UInt8)} (h : goodJ (.mk k b n t l ns) = true) :
  (k = 1 ∨ b = false) ∧ (k = 2 ∨ n = Dec.zero) ∧ (k = 3 ∨ t = []) ∧ (k = 4 ∨ k = 5 ∨ l = []) ∧ (k = 5 ∨ ns = []) ∧ Lib.validD t = true ∧ mayB n = true ∧ goodL l = true ∧ (k = 0 ∨ k = 1 ∨ k = 2 ∨ k = 3 ∨ k = 4 ∨ (k = 5 ∧ ns.length = l.length ∧ unlikeB ns = true)) := by
 simp only [goodJ, headB, badK, Bool.and_eq_true, Bool.not_eq_true', Bool.or_eq_false_iff] at h
 obtain ⟨⟨⟨⟨⟨⟨h1, h2⟩, h3⟩, h4⟩, h5⟩, h6⟩, h7⟩ := h
 have a1 : k = 1 ∨ b = false := by
  by_cases e : k = 1
  ·exact .inl e
  right; rw [bareB, if_neg e] at h1; cases b <;> simp_all
 have a2 : k = 2 ∨ n = Dec.zero := by
  by_cases e : k = 2
  ·exact .inl e
  right; rw [bareN, if_neg e] at h2
  simp only [Bool.not_eq_false'] at h2
  exact (sameB_iff _ _).1 h2
 have a3 : k = 3 ∨ t = [] := by
  by_cases e : k = 3
  ·exact .inl e
  right; rw [bareT, if_neg e] at h3
  simpa using h3
 have a4 : k = 4 ∨ k = 5 ∨ l = [] := by
  by_cases e : k = 4
  ·exact .inl e
  by_cases e5 : k = 5
  ·exact .inr (.inl e5)
  right; right
  have hd : deepK k = 0 := by unfold deepK; rw [if_neg (by omega)]
  rw [hd] at h4
  simp at h4
  exact h4
 have a5 : k = 5 ∨ ns = [] := by
  by_cases e : k = 5
  ·exact .inl e
  right
  have : (k != 5) = true := by rw [bne_iff_ne]; exact e
  rw [this] at h5
  simp at h5
  exact h5
 refine ⟨a1, a2, a3, a4, a5, ?_, ?_, h7, ?_⟩
 ·unfold okK at h6; split at h6
  ·simp only [Bool.and_eq_true] at h6; exact h6.1.1
  split at h6
  ·simp only [Bool.and_eq_true] at h6; exact h6.1
  cases h6
 ·unfold okK at h6; split at h6
  ·simp only [Bool.and_eq_true] at h6; exact h6.1.2
  split at h6
  ·simp only [Bool.and_eq_true] at h6; exact h6.2
  cases h6
 ·unfold okK at h6; split at h6
  ·rename_i e
   simp only [Bool.and_eq_true, beq_iff_eq] at h6
   exact .inr (.inr (.inr (.inr (.inr ⟨e, h6.2.1, h6.2.2⟩))))
  split at h6
  ·rename_i e; omega
  cases h6
theorem unlR_nodup : ∀ (ns seen : List (List UInt8)), unlR seen ns = true → ns.Nodup ∧ ∀ s ∈ ns, s ∉ seen
 | [], _, _ => ⟨List.nodup_nil, fun _ h => by cases h⟩
 | n :: ns, seen, h => by
  rw [unlR] at h
  split at h
  ·cases h
  rename_i hc
  simp at hc
  obtain ⟨h1, h2⟩ := unlR_nodup ns _ h
  refine ⟨List.nodup_cons.2 ⟨fun hm => h2 n hm (by simp), h1⟩, fun s hs => ?_⟩
  rcases List.mem_cons.1 hs with rfl | hs
  ·exact hc.1
  exact fun hm => h2 s hs (by simp [hm])
theorem unlike_nodup {ns : List (List UInt8)} (h : unlikeB ns = true) : ns.Nodup := (unlR_nodup ns [] h).1
def srtN (ns : List (List UInt8)) : List (List UInt8) := ns.mergeSort (fun x y => decide (x ≤ y))
theorem srtN_perm (ns : List (List UInt8)) : (srtN ns).Perm ns := List.mergeSort_perm _ _
theorem srtN_len (ns : List (List UInt8)) : (srtN ns).length = ns.length := (srtN_perm ns).length_eq
variable {α : Type}
def ordL (d : α) (l : List α) (ns : List (List UInt8)) : List α := (srtN ns).map (fun s => l.getD (ns.idxOf s) d)
theorem ordL_len (d : α) (l : List α) (ns : List (List UInt8)) : (ordL d l ns).length = ns.length := by unfold ordL; rw [List.length_map, srtN_len]
theorem idx_at {ns : List (List UInt8)} (hn : ns.Nodup) (i : Nat) (hi : i < ns.length) : ns.idxOf ns[i] = i := by
 have h1 : ns.idxOf ns[i] < ns.length := List.idxOf_lt_length_iff.2 (List.getElem_mem _)
 exact (List.getElem_inj hn).1 (List.getElem_idxOf h1)
mutual
def sortJ : J → J
 | .mk k b n t l ns => .mk k b n t (if k = 5 then ordL J.zero (sortL l) ns else sortL l) (srtN ns)
def sortL : List J → List J
 | [] => []
 | x :: r => sortJ x :: sortL r
end
theorem sortL_map (l : List J) : sortL l = l.map sortJ := by
 induction l with
 | nil => rfl
 | cons x l ih => rw [sortL, List.map_cons, ih]
theorem sortL_len (l : List J) : (sortL l).length = l.length := by rw [sortL_map, List.length_map]
theorem srtN_nil : srtN [] = [] := by unfold srtN; simp
theorem sort_zero : sortJ J.zero = J.zero := by simp [J.zero, sortJ, sortL, srtN_nil]
theorem getD_sort (l : List J) (i : Nat) : (sortL l).getD i J.zero = sortJ (l.getD i J.zero) := by
 rw [sortL_map]
 simp only [List.getD_eq_getElem?_getD, List.getElem?_map]
 cases l[i]? with
 | none => simp [sort_zero]
 | some x => simp
theorem getD_mem {ns : List (List UInt8)} {i : Nat} (h : i < ns.length) : ns.getD i [] ∈ ns := by simp [h]
theorem idx_getD {ns : List (List UInt8)} (hn : ns.Nodup) {i : Nat} (h : i < ns.length) : ns.idxOf (ns.getD i []) = i := by
 have : ns.getD i [] = ns[i] := by simp [h]
 rw [this]; exact idx_at hn i h
def cpN (so : Bool) (ns : List (List UInt8)) : List (List UInt8) := if so then srtN ns else ns
def cpL (so : Bool) (k : Int) (l : List J) (ns : List (List UInt8)) : List J := if so then (if k = 5 then ordL J.zero (sortL l) ns else sortL l) else l
def cpJ (so : Bool) (v : J) : J := if so then sortJ v else v
def cpX (so : Bool) (k : Int) (ns : List (List UInt8)) (i : Nat) : Nat := if k = 5 then ns.idxOf ((cpN so ns).getD i []) else i
theorem cpJ_mk (so : Bool) (k : Int) (b : Bool) (n : Dec) (t : List UInt8) (l : List J) (ns : List (List UInt8)) : cpJ so (.mk k b n t l ns) = .mk k b n t (cpL so k l ns) (cpN so ns) := by
 cases so
 ·rfl
 simp [cpJ, cpL, cpN, sortJ]
theorem cpN_len (so : Bool) (ns : List (List UInt8)) : (cpN so ns).length = ns.length := by
 unfold cpN; split
 ·exact srtN_len ns
 rfl
theorem cpN_perm (so : Bool) (ns : List (List UInt8)) : (cpN so ns).Perm ns := by
 unfold cpN; split
 ·exact srtN_perm ns
 exact List.Perm.refl _
theorem cp_len {so : Bool} {k : Int} {b : Bool} {n : Dec} {t : List UInt8} {l : List J} {ns : List (List UInt8)} (h : goodJ (.mk k b n t l ns) = true) : (cpL so k l ns).length = l.length ∧ (k = 5 → ns.length = l.length ∧ ns.Nodup) := by
 obtain ⟨_, _, _, _, _, _, _, _, h9⟩ := good_head h
 have h5 : k = 5 → ns.length = l.length ∧ ns.Nodup := by
  intro e
  rcases h9 with g | g | g | g | g | ⟨_, a, b⟩
  iterate 5 omega
  exact ⟨a, unlike_nodup b⟩
 refine ⟨?_, h5⟩
 unfold cpL
 split
 ·split
  ·rename_i e; rw [ordL_len, (h5 e).1]
  exact sortL_len l
 rfl
theorem cp_at {so : Bool} {k : Int} {b : Bool} {n : Dec} {t : List UInt8} {l : List J} {ns : List (List UInt8)} (h : goodJ (.mk k b n t l ns) = true) {i : Nat} (hi : i < l.length) :
  cpX so k ns i < l.length ∧ (cpL so k l ns)[i]? = some (cpJ so (l.getD (cpX so k ns i) J.zero)) ∧ (k = 5 → (cpN so ns).getD i [] ∈ ns) := by
 obtain ⟨hlen, h5⟩ := cp_len (so := so) h
 by_cases e : k = 5
 ·obtain ⟨hl, hn⟩ := h5 e
  have hm : (cpN so ns).getD i [] ∈ ns := (cpN_perm so ns).mem_iff.1 (getD_mem (by rw [cpN_len]; omega))
  have hx : cpX so k ns i < l.length := by
   unfold cpX; rw [if_pos e]
   have := List.idxOf_lt_length_iff.2 hm
   omega
  refine ⟨hx, ?_, fun _ => hm⟩
  unfold cpX cpL cpJ
  unfold cpX at hx
  rw [if_pos e] at hx ⊢
  cases so with
  | false =>
   simp only [Bool.false_eq_true, if_false]
   have e2 : ns.idxOf ((cpN false ns).getD i []) = i := by
    show ns.idxOf (ns.getD i []) = i
    exact idx_getD hn (by omega)
   rw [e2]
   simp [hi]
  | true =>
   simp only [if_true, if_pos e]
   unfold ordL
   rw [List.getElem?_map]
   have hsi : i < (srtN ns).length := by rw [srtN_len]; omega
   rw [List.getElem?_eq_getElem hsi, Option.map_some, getD_sort]
   have e3 : (cpN true ns).getD i [] = (srtN ns)[i] := by
    show (srtN ns).getD i [] = _
    simp [hsi]
   rw [e3]
 ·refine ⟨by unfold cpX; rw [if_neg e]; exact hi, ?_, fun e2 => absurd e2 e⟩
  have ex : cpX so k ns i = i := by unfold cpX; rw [if_neg e]
  rw [ex]
  unfold cpL cpJ
  cases so with
  | false => simp [hi]
  | true =>
   simp only [if_true]
   rw [if_neg e, ← getD_sort]
   have : i < (sortL l).length := by rw [sortL_len]; exact hi
   simp [this]
open Go.RowKit Go.Maps
theorem Tryz.strKey : Keyed Tryz.prog 9 := string_keyed Tryz.underlying9
theorem Tryz.zeroInt (w : World) : (zeroValue 3).run Tryz.prog w = .ok (.int .i64 0) w := by kernel_rfl
def keyL (u : List UInt8) : Lit := .string u
theorem keyL_of (u : List UInt8) (h : u.length ≤ maxLen) : keyOf Tryz.prog 9 (.string ⟨u.toArray⟩) = some (keyL u) := by
 rw [WideMaps.keyOf_string_mk Tryz.underlying9 (by simpa [ByteArray.size] using h)]
 simp [keyL]
def CntV (w : World) (g : Nat) (ns : List (List UInt8)) : Prop :=
 ∃ D : DataW Unit, w.ownsMap Tryz.prog 9 (plainElem Tryz.prog 3) g ns.length D ∧ IsMap D ∧ ∀ u, D.atKey (keyL u) (.lit (.int .i64 0)) = .lit (.int .i64 (ns.count u : Int))
theorem CntV.made (w : World) : CntV (w.alloc (.map #[] 0)) w.heap.size [] := ⟨.map [], World.ownsMap_made _ _ _ _, ⟨_, rfl⟩, fun _ => rfl⟩
theorem CntV.lt {w : World} {g : Nat} {ns : List (List UInt8)} (h : CntV w g ns) : g < w.heap.size := by
 obtain ⟨D, h, _⟩ := h
 exact h.lt
theorem CntV.apart {S : Nat → Prop} {w w' : World} {g : Nat} {ns : List (List UInt8)} (h : CntV w g ns) (ha : Apart S w w') (hS : ¬ S g) : CntV w' g ns := by
 have hl := h.lt
 obtain ⟨D, ⟨es, clock, h1, h2⟩, h3⟩ := h
 exact ⟨D, ⟨es, clock, (ha.block g hl hS).trans h1, h2⟩, h3⟩
theorem CntV.below {w w' : World} {g : Nat} {ns : List (List UInt8)} (h : CntV w g ns) (hb : Below w.heap.size w w') : CntV w' g ns := h.apart (S := fun _ => False) (.ofBelow hb) (fun h => h)
theorem CntV.look {w : World} {g : Nat} {ns : List (List UInt8)} (h : CntV w g ns) (u : List UInt8) (hu : u.length ≤ maxLen) : (Instr.lookup 156 (.map (some g)) (.string ⟨u.toArray⟩) false).run Tryz.prog w = .ok (.int .i64 (ns.count u : Int)) w := by
 obtain ⟨D, h1, _, h2⟩ := h
 obtain ⟨c, hrun, hat, _⟩ := World.ownsMap.lookup_int h1 Tryz.strKey Tryz.underlying156 Tryz.underlying3 (Tryz.zeroInt w) (keyL_of u hu)
 have h3 := (h2 u).symm.trans hat
 have : (ns.count u : Int) = c := by simp only [DataW.lit.injEq, Lit.int.injEq, true_and] at h3; exact h3
 rw [this]
 exact hrun
theorem keyL_ne {u v : List UInt8} (h : u ≠ v) : keyL u ≠ keyL v := fun e => h (by unfold keyL at e; injection e)
theorem CntV.put {w : World} {g : Nat} {ns : List (List UInt8)} (hown : CntV w g ns) (u : List UInt8) (hu : u.length ≤ maxLen) (hn : ns.length < 1000000000000) :
  ∃ w', (Instr.mapUpdate 156 (.map (some g)) (.string ⟨u.toArray⟩) (.int .i64 ((ns.count u : Int) + 1))).run Tryz.prog w = .ok () w' ∧ CntV w' g (ns ++ [u]) ∧ w.grownBy w' (some g) := by
 obtain ⟨D, h1, hD, h2⟩ := hown
 have hc : ns.count u ≤ ns.length := List.count_le_length
 obtain ⟨w', hrun, h3, h4⟩ := World.ownsMap.update (val := .int .i64 ((ns.count u : Int) + 1)) h1 Tryz.strKey Tryz.underlying156 (by unfold maxLen; omega) (keyL_of u hu) (plainElem_int Tryz.underlying3 (WalkArith.wf_i64 ⟨by omega, by omega⟩))
 refine ⟨w', hrun, ⟨_, by rw [List.length_append]; exact h3, ?_, fun v => ?_⟩, h4⟩
 ·obtain ⟨es, rfl⟩ := hD
  exact ⟨_, rfl⟩
 ·by_cases e : v = u
  ·subst e
   rw [atKey_put_same hD (by unfold keyL; exact ⟨⟩)]
   simp
  rw [atKey_put_other (keyL_ne e), h2 v, List.count_append]
  rw [show List.count v [u] = 0 from by rw [List.count_eq_zero]; simpa using e]
  rfl
open Go.RowKit
def laysV_ren : Go.Shelf.Ren := ⟨fun | 196 => 69 | 259 => 104 | n => n, fun | 0 => 0 | 3 => 3 | 4 => 4 | 5 => 5 | 9 => 9 | 12 => 12 | 46 => 104 | 53 => 151 | 119 => 100 | 138 => 102 | 139 => 103 | n => n, fun | 3 => 0 | 4 => 1 | n => n⟩
theorem laysV : Go.Proofs.Lays.n196 Tryz.prog laysV_ren := {
 mixed := by kernel_rfl
 f196 := Tryz.func69.trans (congrArg some (by kernel_rfl))
 f259 := Tryz.func104.trans (congrArg some (by kernel_rfl))
 t0 := Tryz.underlying0
 a0 := Tryz.isAgg0
 z0 := Tryz.sizeOf0
 v0 := Tryz.zeroValue0
 t3 := Tryz.underlying3
 a3 := Tryz.isAgg3
 z3 := Tryz.sizeOf3
 v3 := Tryz.zeroValue3
 t4 := Tryz.underlying4
 a4 := Tryz.isAgg4
 z4 := Tryz.sizeOf4
 v4 := Tryz.zeroValue4
 t5 := Tryz.underlying5
 a5 := Tryz.isAgg5
 z5 := Tryz.sizeOf5
 v5 := Tryz.zeroValue5
 t9 := Tryz.underlying9
 a9 := Tryz.isAgg9
 z9 := Tryz.sizeOf9
 v9 := Tryz.zeroValue9
 t12 := Tryz.underlying12
 a12 := Tryz.isAgg12
 z12 := Tryz.sizeOf12
 v12 := Tryz.zeroValue12
 t46 := Tryz.underlying104
 a46 := Tryz.isAgg104
 z46 := Tryz.sizeOf104
 v46 := Tryz.zeroValue104
 t53 := Tryz.underlying151
 a53 := Tryz.isAgg151
 z53 := Tryz.sizeOf151
 v53 := Tryz.zeroValue151
 t119 := Tryz.underlying100
 a119 := Tryz.isAgg100
 z119 := Tryz.sizeOf100
 t138 := Tryz.underlying102
 a138 := Tryz.isAgg102
 z138 := Tryz.sizeOf102
 v138 := Tryz.zeroValue102
 t139 := Tryz.underlying103
 a139 := Tryz.isAgg103
 z139 := Tryz.sizeOf103
 v139 := Tryz.zeroValue103
 g3 := by kernel_rfl
 g4 := by kernel_rfl }
theorem validS_calls (l : List UInt8) (w : World) (hl : l.length ≤ 9223372036854775807) (hT : Lib.Utf8Tabs 0 1 w) :
  Calls Tryz.prog 69 #[.string ⟨l.toArray⟩] w fun e w' => e = .returned (.bool (Lib.validD l)) ∧ Below w.heap.size w w' :=
 Any.utf8_ValidString laysV ⟨l.toArray⟩ w (by simpa [ByteArray.size] using hl) hT
open Go.RowKit
theorem tabsB {w w' : World} (h : Lib.Utf8Tabs 0 1 w) {B : Nat} (hb : Below B w w') (h1 : 0 < B) (h2 : 1 < B) : Lib.Utf8Tabs 0 1 w' :=
 ⟨fun k hk => (hb.cell (p := ⟨0, k, none⟩) h1).trans (h.1 k hk), fun k hk => ⟨(hb.cell (p := ⟨1, 2 * k, none⟩) h2).trans (h.2 k hk).1, (hb.cell (p := ⟨1, 2 * k + 1, none⟩) h2).trans (h.2 k hk).2⟩⟩
theorem tabsLt {w : World} (h : Lib.Utf8Tabs 0 1 w) : 0 < w.heap.size ∧ 1 < w.heap.size :=
 ⟨World.block_lt_of_cell? w ⟨0, 0, none⟩ (h.1 0 (by decide)), World.block_lt_of_cell? w ⟨1, 2 * 0, none⟩ (h.2 0 (by decide)).1⟩
theorem unl_drop {ns : List (List UInt8)} {i : Nat} {s : List UInt8} (h : ns[i]? = some s) : unlR (ns.take i) (ns.drop i) = if (ns.take i).contains s || !Lib.validD s then false else unlR (ns.take (i + 1)) (ns.drop (i + 1)) := by
 have hi := (List.getElem?_eq_some_iff.1 h).1
 have hs := (List.getElem?_eq_some_iff.1 h).2
 rw [List.drop_eq_getElem_cons hi, unlR, hs, List.take_add_one, h]
 rfl
theorem unlike_calls (w : World) {S : Nat → Prop} {v : Value} {ns : List (List UInt8)} (h : NamS w S v ns) (hn : ns.length ≤ 100000000) (hl : ∀ s ∈ ns, s.length ≤ 100000000) (hT : Lib.Utf8Tabs 0 1 w) :
  Calls Tryz.prog 101 #[v] w fun e w' => e = .returned (.bool (unlikeB ns)) ∧ Below w.heap.size w w' := by
 obtain ⟨ANS, hANS⟩ : ∃ A, unlikeB ns = A := ⟨_, rfl⟩
 rw [hANS]
 have HANS := hid hANS
 obtain ⟨p, cap, rfl, hcap, _, hcell⟩ := h
 have HC := hid hcell
 have HL := hid hl
 have HTL := hid (tabsLt hT)
 have HT := hid hT
 have hcm := CntV.made w
 have hb0 : Below w.heap.size w (w.alloc (.map #[] 0)) := (Below.refl _ _).alloc (Nat.le_refl _) _
 have HCM := hid hcm
 have HB0 := hid hb0
 clear hANS hcell hl hT hcm hb0 hcap
 have hmm := @run_makeMap Tryz.prog
 go_enter Tryz.func101, Tryz.ntmps101
 go_wp2_with fail
 have HG2 : Hid (∃ g, w.heap.size = g) := hid ⟨_, rfl⟩
 obtain ⟨g, hg⟩ := HG2.out
 rw [hg] at HCM ⊢
 have HW := hid hg
 generalize w.alloc (.map #[] 0) = w1 at *
 clear HG2 hg hmm
 go_loopg [9] ns.length (fun k i wr => ∃ j : Nat, k = ns.length - j ∧ j ≤ ns.length ∧ i = .int .i64 j ∧ Below w.heap.size w wr ∧ CntV wr g (ns.take j) ∧ unlR (ns.take j) (ns.drop j) = ANS)
 case atStart => exact ⟨0, rfl, Nat.zero_le _, rfl, HB0.out, HCM.out, HANS.out⟩
 case round =>
  obtain ⟨j, hk, hj, rfl, hb, hcn, hu⟩ := hrel
  have Hk := hid hk
  have HB := hid hb
  have HCN := hid hcn
  have HU := hid hu
  clear hk hb hcn hu HB0 HCM HANS
  by_cases hlt : j < ns.length
  ·obtain ⟨s, hs⟩ : ∃ s, ns[j]? = some s := ⟨_, List.getElem?_eq_getElem hlt⟩
   have hlti : (j : Int) < (ns.length : Int) := by omega
   obtain ⟨gn, off, rfl, _, hgn, hcs⟩ := HC.out (by omega)
   have k0 := (HB.out.cell (p := ⟨gn, off + j, none⟩) hgn).trans (hcs j s hs)
   have hsl : s.length ≤ 100000000 := HL.out s (List.mem_of_getElem? hs)
   have hsm : s.length ≤ maxLen := by unfold maxLen; omega
   have htl : (ns.take j).length < 1000000000000 := by rw [List.length_take]; omega
   obtain ⟨w2, hput, hcn2, hg2⟩ := HCN.out.put s hsm htl
   have hlk := HCN.out.look s hsm
   have hlk2 := hcn2.look s hsm
   have hcl : (ns.take j).count s ≤ ns.length := by have h1 : (ns.take j).count s ≤ (ns.take j).length := List.count_le_length; rw [List.length_take] at h1; omega
   have hc2 : (ns.take j ++ [s]).count s = (ns.take j).count s + 1 := by simp
   rw [hc2] at hlk2
   have HUD := hid (unl_drop hs)
   have htk : ns.take j ++ [s] = ns.take (j + 1) := by rw [List.take_add_one, hs]; rfl
   rw [htk] at hcn2
   have HCN2 := hid hcn2
   have HB2 : Hid (Below w.heap.size w w2) := hid (HB.out.grown hg2 HB.out.size (fun k hk => by cases hk; rw [HW.out]; exact Nat.le_refl _))
   have HCC : Hid ((ns.take j).contains s = decide (0 < (ns.take j).count s)) := hid (by rw [Bool.eq_iff_iff, decide_eq_true_iff, List.count_pos_iff, List.contains_iff_mem])
   obtain ⟨c, hc⟩ : ∃ c, (ns.take j).count s = c := ⟨_, rfl⟩
   rw [hc] at hput hlk hlk2 hcl HCC
   rw [show ((c + 1 : Nat) : Int) = (c : Int) + 1 from by omega] at hlk2
   have hci : (c : Int) ≤ 100000000 := by omega
   clear hs hcs hgn hc hc2 htk hcn2 hg2 htl hsm
   by_cases hc0 : 0 < c
   ·have hd : (1 : Int) < (c : Int) + 1 := by omega
    have HA : Hid (ANS = false) := hid (by rw [← HU.out, HUD.out, HCC.out, decide_eq_true hc0]; rfl)
    clear hc0 HUD HU HCC
    go_wp2_with fail
    go_ret
    exact ⟨by rw [HA.out]; try rfl, HB2.out⟩
   have hd : ¬ (1 : Int) < (c : Int) + 1 := by omega
   have hd2 : decide ((1 : Int) < (c : Int) + 1) = false := decide_eq_false hd
   have HC0 : Hid ((ns.take j).contains s = false) := hid (by rw [HCC.out, decide_eq_false hc0])
   clear hc0 HCC
   go_wp2_with fail
   refine (validS_calls s w2 (by omega) (tabsB HT.out HB2.out HTL.out.1 HTL.out.2)).mono ?_
   rintro e w3 ⟨rfl, hb3⟩
   have HB3 : Hid (Below w.heap.size w w3) := hid (HB2.out.trans (hb3.mono HB2.out.size))
   have HCN3 := hid (HCN2.out.below hb3)
   clear hb3
   cases hv : Lib.validD s with
   | true =>
    have HN : Hid (unlR (ns.take (j + 1)) (ns.drop (j + 1)) = ANS) := hid (by have h9 := HU.out; rw [HUD.out, HC0.out, hv] at h9; exact h9)
    clear hv
    go_wp2_with fail
    go_roundg (ns.length - (j + 1))
    case measure => have := Hk.out; omega
    exact ⟨j + 1, rfl, by omega, by go_num, HB3.out, HCN3.out, HN.out⟩
   | false =>
    have HA : Hid (ANS = false) := hid (by rw [← HU.out, HUD.out, HC0.out, hv]; rfl)
    clear hv
    go_wp2_with fail
    go_ret
    exact ⟨by rw [HA.out]; try rfl, HB3.out⟩
  have hlti : ¬ (j : Int) < (ns.length : Int) := by omega
  have HA : Hid (ANS = true) := hid (by rw [← HU.out, List.drop_of_length_le (by omega)]; rfl)
  go_wp2_with fail
  go_ret
  exact ⟨by rw [HA.out]; try rfl, HB.out⟩
end Go.Proofs.YtfclfaidmipjpaaGreatDoor
