/- Texts of this claim, joined: JsN, JsQ. -/
import Derived.Test.YtfclfaidmipjpaaGreatDoorCo03
namespace Go.Proofs.YtfclfaidmipjpaaGreatDoor
set_option maxRecDepth 100000
set_option maxHeartbeats 20000000
def fracR (r : List UInt8) : Option (List UInt8) :=
 if (oneS [46] r).1 = 46 then (if digsS (oneS [46] r).2 = [] then none else some (restS (oneS [46] r).2)) else some r
def powR2 (r : List UInt8) : Option (List UInt8) :=
 if (oneS [101, 69] r).1 = 0 then some r else if digsS (oneS [43, 45] (oneS [101, 69] r).2).2 = [] then none else some (restS (oneS [43, 45] (oneS [101, 69] r).2).2)
def numR (s : List UInt8) : Option (List UInt8) :=
 if digsS (oneS [45] s).2 = [] ∨ ((digsS (oneS [45] s).2).getD 0 0 = 48 ∧ 1 < (digsS (oneS [45] s).2).length) then none else (fracR (restS (oneS [45] s).2)).bind powR2
theorem made_code (neg : Bool) (l : List UInt8) (e : Int) : (madeS neg l e).2 = 0 ∨ (madeS neg l e).2 = 4 := by
 unfold madeS
 split
 ·exact .inl rfl
 split
 ·exact .inl rfl
 exact .inr rfl
theorem end_code (neg : Bool) (a : List UInt8) (e : Int) (r : List UInt8) : (r = [] ∧ ((parseEnd neg a e r).2 = 0 ∨ (parseEnd neg a e r).2 = 4)) ∨ (r ≠ [] ∧ (parseEnd neg a e r).2 = 170) := by
 unfold parseEnd
 by_cases h : r = []
 ·rw [if_pos h]; exact .inl ⟨h, made_code _ _ _⟩
 rw [if_neg h]; exact .inr ⟨h, rfl⟩
theorem one_none {of r : List UInt8} (h : (oneS of r).1 = 0) (h0 : of.contains 0 = false) : (oneS of r).2 = r := by
 unfold oneS at h ⊢
 cases r with
 | nil => rfl
 | cons c t =>
  simp only at h ⊢
  split
  ·rename_i hc
   rw [if_pos hc] at h
   simp only at h
   rw [h] at hc; rw [hc] at h0; cases h0
  rfl
theorem e_code (neg : Bool) (a : List UInt8) (e : Int) (r : List UInt8) : (powR2 r = some [] ∧ ((parseE neg a e r).2 = 0 ∨ (parseE neg a e r).2 = 4)) ∨ (powR2 r ≠ some [] ∧ (parseE neg a e r).2 = 170) := by
 unfold parseE powR2
 by_cases h1 : (oneS [101, 69] r).1 = 0
 ·rw [if_pos h1, if_pos h1, one_none h1 (by decide)]
  rcases end_code neg a e r with ⟨h, h2⟩ | ⟨h, h2⟩
  ·exact .inl ⟨by rw [h], h2⟩
  exact .inr ⟨fun e => h (by simpa using e), h2⟩
 rw [if_neg h1, if_neg h1]
 by_cases h2 : digsS (oneS [43, 45] (oneS [101, 69] r).2).2 = []
 ·rw [if_pos h2, if_pos h2]; exact .inr ⟨by simp, rfl⟩
 rw [if_neg h2, if_neg h2]
 rcases end_code neg a (e + (if (oneS [43, 45] (oneS [101, 69] r).2).1 = 45 then -powerS (digsS (oneS [43, 45] (oneS [101, 69] r).2).2) else powerS (digsS (oneS [43, 45] (oneS [101, 69] r).2).2))) (restS (oneS [43, 45] (oneS [101, 69] r).2).2) with ⟨h, h3⟩ | ⟨h, h3⟩
 ·exact .inl ⟨by rw [h], h3⟩
 exact .inr ⟨fun e => h (by simpa using e), h3⟩
theorem p_code (neg : Bool) (a r : List UInt8) : ((fracR r).bind powR2 = some [] ∧ ((parseP neg a r).2 = 0 ∨ (parseP neg a r).2 = 4)) ∨ ((fracR r).bind powR2 ≠ some [] ∧ (parseP neg a r).2 = 170) := by
 unfold parseP fracR
 by_cases h1 : (oneS [46] r).1 = 46
 ·rw [if_pos h1, if_pos h1]
  by_cases h2 : digsS (oneS [46] r).2 = []
  ·rw [if_pos h2, if_pos h2]; exact .inr ⟨by simp, rfl⟩
  rw [if_neg h2, if_neg h2]
  exact e_code _ _ _ _
 rw [if_neg h1, if_neg h1]
 have h3 : (oneS [46] r).2 = r := by
  unfold oneS at h1 ⊢
  cases r with
  | nil => rfl
  | cons c t =>
   simp only at h1 ⊢
   split
   ·rename_i hc
    rw [if_pos hc] at h1
    simp at hc
    exact absurd hc h1
   rfl
 rw [h3]
 exact e_code _ _ _ _
theorem parse_code (l : List UInt8) (h : l.length ≤ 1000) : (numR l = some [] ∧ ((parseS l).2 = 0 ∨ (parseS l).2 = 4)) ∨ (numR l ≠ some [] ∧ (parseS l).2 = 170) := by
 unfold parseS numR
 rw [if_neg (show ¬ 1000 < l.length by omega)]
 unfold parseA
 by_cases h1 : digsS (oneS [45] l).2 = [] ∨ ((digsS (oneS [45] l).2).getD 0 0 = 48 ∧ 1 < (digsS (oneS [45] l).2).length)
 ·rw [if_pos h1, if_pos h1]; exact .inr ⟨by simp, rfl⟩
 rw [if_neg h1, if_neg h1]; exact p_code _ _ _
/-! ### two digits of a row -/
theorem few_digs : ∀ (r : List UInt8) (k : Nat), digsS (fewS k r) = (digsS r).take (2 - k) ∧ restS (fewS k r) = fewS 0 (restS r)
 | [], k => by simp [fewS, digsS, restS]
 | c :: t, k => by
  by_cases hc : digB c = true
  ·simp only [fewS, hc, if_true]
   obtain ⟨h1, h2⟩ := few_digs t (k + 1)
   by_cases hk : k < 2
   ·rw [if_pos hk]
    simp only [digsS, restS] at h1 h2 ⊢
    rw [List.takeWhile_cons, if_pos hc, List.dropWhile_cons, if_pos hc, List.takeWhile_cons, if_pos hc, List.dropWhile_cons, if_pos hc, h1, h2]
    rw [show 2 - k = (2 - (k + 1)) + 1 by omega, List.take_succ_cons]
    exact ⟨rfl, rfl⟩
   rw [if_neg hk]
   simp only [digsS, restS] at h1 h2 ⊢
   rw [List.takeWhile_cons, if_pos hc, List.dropWhile_cons, if_pos hc, h1, h2]
   rw [show 2 - k = 0 by omega, show 2 - (k + 1) = 0 by omega]
   simp
  have hc2 : digB c = false := by simpa using hc
  simp only [fewS, hc2, Bool.false_eq_true, if_false, digsS, restS, List.takeWhile_cons, List.dropWhile_cons]
  simp
theorem few_one (of r : List UInt8) (hof : ∀ c ∈ of, digB c = false) : (oneS of (fewS 0 r)).2 = fewS 0 (oneS of r).2 ∧ (oneS of (fewS 0 r)).1 = (oneS of r).1 := by
 cases r with
 | nil => exact ⟨rfl, rfl⟩
 | cons c t =>
  by_cases hc : digB c = true
  ·have hno : of.contains c = false := by
    cases h : of.contains c with
    | false => rfl
    | true => have := hof c (by simpa using h); rw [this] at hc; cases hc
   have hno2 : c ∉ of := by simpa using hno
   simp [oneS, fewS, hc, hno2]
  have hc2 : digB c = false := by simpa using hc
  simp only [fewS, hc2, Bool.false_eq_true, if_false, oneS]
  split
  ·exact ⟨rfl, rfl⟩
  simp [fewS, hc2]
theorem few_nil (r : List UInt8) : fewS 0 r = [] ↔ r = [] := by
 cases r with
 | nil => simp [fewS]
 | cons c t => simp only [fewS]; split <;> simp
theorem take2_nil (l : List UInt8) : l.take 2 = [] ↔ l = [] := by cases l <;> simp
theorem few_frac (r : List UInt8) : fracR (fewS 0 r) = (fracR r).map (fewS 0) := by
 obtain ⟨h1, h2⟩ := few_one [46] r (by decide)
 obtain ⟨h3, h4⟩ := few_digs (oneS [46] r).2 0
 unfold fracR
 rw [h1, h2]
 by_cases h : (oneS [46] r).1 = 46
 ·rw [if_pos h, if_pos h, h3, h4]
  by_cases h5 : digsS (oneS [46] r).2 = []
  ·rw [if_pos (by rw [h5]; rfl), if_pos h5]; rfl
  rw [if_neg (fun e => h5 ((take2_nil _).1 e)), if_neg h5]; rfl
 rw [if_neg h, if_neg h]; rfl
theorem few_pow (r : List UInt8) : powR2 (fewS 0 r) = (powR2 r).map (fewS 0) := by
 obtain ⟨h1, h2⟩ := few_one [101, 69] r (by decide)
 obtain ⟨h3, h4⟩ := few_one [43, 45] (oneS [101, 69] r).2 (by decide)
 obtain ⟨h5, h6⟩ := few_digs (oneS [43, 45] (oneS [101, 69] r).2).2 0
 unfold powR2
 rw [h1, h2, h3]
 by_cases h : (oneS [101, 69] r).1 = 0
 ·rw [if_pos h, if_pos h]; rfl
 rw [if_neg h, if_neg h, h5, h6]
 by_cases h7 : digsS (oneS [43, 45] (oneS [101, 69] r).2).2 = []
 ·rw [if_pos (by rw [h7]; rfl), if_pos h7]; rfl
 rw [if_neg (fun e => h7 ((take2_nil _).1 e)), if_neg h7]; rfl
theorem few_num (s : List UInt8) : numR (fewS 0 s) = (numR s).map (fewS 0) := by
 obtain ⟨h1, _⟩ := few_one [45] s (by decide)
 obtain ⟨h3, h4⟩ := few_digs (oneS [45] s).2 0
 unfold numR
 rw [h1, h3, h4]
 have e : (List.take 2 (digsS (oneS [45] s).2) = [] ∨ (List.take 2 (digsS (oneS [45] s).2)).getD 0 0 = 48 ∧ 1 < (List.take 2 (digsS (oneS [45] s).2)).length) ↔ (digsS (oneS [45] s).2 = [] ∨ (digsS (oneS [45] s).2).getD 0 0 = 48 ∧ 1 < (digsS (oneS [45] s).2).length) := by
  rw [take2_nil]
  cases digsS (oneS [45] s).2 with
  | nil => simp
  | cons a l => cases l <;> simp
 by_cases h : digsS (oneS [45] s).2 = [] ∨ (digsS (oneS [45] s).2).getD 0 0 = 48 ∧ 1 < (digsS (oneS [45] s).2).length
 ·rw [if_pos (e.2 h), if_pos h]; rfl
 rw [if_neg (fun x => h (e.1 x)), if_neg h, few_frac]
 cases fracR (restS (oneS [45] s).2) with
 | none => rfl
 | some r => exact few_pow r
theorem one_le (of r : List UInt8) : r.length ≤ (oneS of r).2.length + 1 := by
 unfold oneS
 cases r with
 | nil => simp
 | cons c t => simp only; split <;> simp
theorem few_short (s : List UInt8) (h : numR s = some []) : (fewS 0 s).length ≤ 1000 := by
 have a1 := one_le [45] (fewS 0 s)
 rw [(few_one [45] s (by decide)).1] at a1
 unfold numR at h
 split at h
 ·cases h
 generalize (oneS [45] s).2 = x at *
 obtain ⟨b1, b2⟩ := few_digs x 0
 have a2 := digs_len (fewS 0 x)
 rw [b1, b2] at a2
 have a3 : (List.take 2 (digsS x)).length ≤ 2 := by simp; omega
 cases hf : fracR (restS x) with
 | none => rw [hf] at h; cases h
 | some r =>
  rw [hf] at h
  have c1 : (fewS 0 (restS x)).length ≤ (fewS 0 r).length + 3 := by
   unfold fracR at hf
   split at hf
   ·split at hf
    ·cases hf
    simp only [Option.some.injEq] at hf
    subst hf
    have d1 := one_le [46] (fewS 0 (restS x))
    rw [(few_one [46] (restS x) (by decide)).1] at d1
    obtain ⟨e1, e2⟩ := few_digs (oneS [46] (restS x)).2 0
    have d2 := digs_len (fewS 0 (oneS [46] (restS x)).2)
    rw [e1, e2] at d2
    have d3 : (List.take 2 (digsS (oneS [46] (restS x)).2)).length ≤ 2 := by simp; omega
    simp only [Nat.sub_zero] at d2
    omega
   simp only [Option.some.injEq] at hf
   rw [hf]; omega
  have c2 : (fewS 0 r).length ≤ 4 := by
   change powR2 r = some [] at h
   unfold powR2 at h
   split at h
   ·simp only [Option.some.injEq] at h
    rw [h]; simp [fewS]
   split at h
   ·cases h
   simp only [Option.some.injEq] at h
   have d1 := one_le [101, 69] (fewS 0 r)
   rw [(few_one [101, 69] r (by decide)).1] at d1
   have d2 := one_le [43, 45] (fewS 0 (oneS [101, 69] r).2)
   rw [(few_one [43, 45] (oneS [101, 69] r).2 (by decide)).1] at d2
   obtain ⟨e1, e2⟩ := few_digs (oneS [43, 45] (oneS [101, 69] r).2).2 0
   have d3 := digs_len (fewS 0 (oneS [43, 45] (oneS [101, 69] r).2).2)
   rw [e1, e2, h] at d3
   have d4 : (List.take 2 (digsS (oneS [43, 45] (oneS [101, 69] r).2).2)).length ≤ 2 := by simp; omega
   simp only [Nat.sub_zero, fewS, List.length_nil] at d3
   omega
  simp only [Nat.sub_zero] at a2
  omega
theorem gramB_eq (s : List UInt8) : gramB s = decide (numR s = some []) := by
 unfold gramB
 by_cases h : numR s = some []
 ·rw [decide_eq_true h]
  rcases parse_code (fewS 0 s) (few_short s h) with ⟨_, h2⟩ | ⟨h1, _⟩
  ·rcases h2 with h2 | h2 <;> rw [h2] <;> decide
  rw [few_num, h] at h1; exact absurd rfl h1
 rw [decide_eq_false h]
 by_cases hl : (fewS 0 s).length ≤ 1000
 ·rcases parse_code (fewS 0 s) hl with ⟨h1, _⟩ | ⟨_, h2⟩
  ·rw [few_num] at h1
   cases hn : numR s with
   | none => rw [hn] at h1; cases h1
   | some r =>
    rw [hn] at h1
    simp only [Option.map_some, Option.some.injEq] at h1
    rw [hn, (few_nil r).1 h1] at h; exact absurd rfl h
  rw [h2]; decide
 have : (parseS (fewS 0 s)).2 = 3 := by unfold parseS; rw [if_pos (by omega)]
 rw [this]; decide
theorem num_bad (l : List UInt8) : ((parseS l).2 = 170 ∨ ((parseS l).2 = 3 ∧ gramB l = false)) ↔ numR l ≠ some [] := by
 rw [gramB_eq]
 by_cases hl : l.length ≤ 1000
 ·rcases parse_code l hl with ⟨h1, h2⟩ | ⟨h1, h2⟩
  ·constructor
   ·intro h; rcases h2 with h2 | h2 <;> rw [h2] at h <;> omega
   intro h; exact absurd h1 h
  exact ⟨fun _ => h1, fun _ => .inl h2⟩
 have : (parseS l).2 = 3 := by unfold parseS; rw [if_pos (by omega)]
 rw [this]
 simp
/-! ### what stands behind a number -/
def Off (r : List UInt8) : Prop := ∀ c t, r = c :: t → numB c = false
theorem digB_numB {c : UInt8} (h : digB c = true) : numB c = true := by simp [numB, h]
theorem off_digs (x r : List UInt8) (h : Off r) : digsS (x ++ r) = digsS x ∧ restS (x ++ r) = restS x ++ r := by
 induction x with
 | nil =>
  cases r with
  | nil => exact ⟨rfl, rfl⟩
  | cons c t =>
   have h1 := h c t rfl
   have h2 : digB c = false := by cases hd : digB c with | false => rfl | true => rw [digB_numB hd] at h1; cases h1
   simp [digsS, restS, h2]
 | cons a x ih =>
  unfold digsS restS at ih ⊢
  rw [List.cons_append, List.takeWhile_cons, List.takeWhile_cons, List.dropWhile_cons, List.dropWhile_cons, ih.1, ih.2]
  split
  ·exact ⟨rfl, rfl⟩
  exact ⟨rfl, rfl⟩
theorem off_one (of x r : List UInt8) (h : Off r) (hof : ∀ c ∈ of, numB c = true) : (oneS of (x ++ r)).2 = (oneS of x).2 ++ r ∧ (oneS of (x ++ r)).1 = (oneS of x).1 := by
 cases x with
 | nil =>
  cases r with
  | nil => exact ⟨rfl, rfl⟩
  | cons c t =>
   have hno : of.contains c = false := by
    cases hh : of.contains c with
    | false => rfl
    | true => have := hof c (by simpa using hh); rw [h c t rfl] at this; cases this
   have hno2 : c ∉ of := by simpa using hno
   simp [oneS, hno2]
 | cons a x =>
  simp only [List.cons_append, oneS]
  split
  ·exact ⟨rfl, rfl⟩
  exact ⟨rfl, rfl⟩
theorem off_frac (x r : List UInt8) (h : Off r) : fracR (x ++ r) = (fracR x).map (· ++ r) := by
 obtain ⟨h1, h2⟩ := off_one [46] x r h (by decide)
 obtain ⟨h3, h4⟩ := off_digs (oneS [46] x).2 r h
 unfold fracR
 rw [h1, h2, h3, h4]
 split
 ·split
  ·rfl
  rfl
 rfl
theorem off_pow (x r : List UInt8) (h : Off r) : powR2 (x ++ r) = (powR2 x).map (· ++ r) := by
 obtain ⟨h1, h2⟩ := off_one [101, 69] x r h (by decide)
 obtain ⟨h3, h4⟩ := off_one [43, 45] (oneS [101, 69] x).2 r h (by decide)
 obtain ⟨h5, h6⟩ := off_digs (oneS [43, 45] (oneS [101, 69] x).2).2 r h
 unfold powR2
 rw [h1, h2, h3, h5, h6]
 split
 ·rfl
 split
 ·rfl
 rfl
theorem off_num (x r : List UInt8) (h : Off r) : numR (x ++ r) = (numR x).map (· ++ r) := by
 obtain ⟨h1, _⟩ := off_one [45] x r h (by decide)
 obtain ⟨h3, h4⟩ := off_digs (oneS [45] x).2 r h
 unfold numR
 rw [h1, h3, h4]
 split
 ·rfl
 rw [off_frac _ _ h]
 cases fracR (restS (oneS [45] x).2) with
 | none => rfl
 | some y => exact off_pow y r h
theorem off_drop (s : List UInt8) : Off (s.dropWhile numB) := by
 induction s with
 | nil => intro c t h; cases h
 | cons a s ih =>
  rw [List.dropWhile_cons]
  split
  ·exact ih
  rename_i h
  intro c t e
  cases e
  simpa using h
theorem num_none (s : List UInt8) (f : Fl) : numS s f = none ↔ ¬ ∃ r, numR s = some r ∧ Off r := by
 have e := List.takeWhile_append_dropWhile (p := numB) (l := s)
 have ho := off_drop s
 have h1 := off_num (s.takeWhile numB) (s.dropWhile numB) ho
 rw [e] at h1
 have h2 := num_bad (s.takeWhile numB)
 unfold numS
 by_cases hb : (parseS (s.takeWhile numB)).2 = 170 ∨ ((parseS (s.takeWhile numB)).2 = 3 ∧ gramB (s.takeWhile numB) = false)
 ·rw [if_pos hb]
  refine ⟨fun _ => ?_, fun _ => rfl⟩
  rintro ⟨r, hr, hoff⟩
  have h3 := h2.1 hb
  cases hn : numR (s.takeWhile numB) with
  | none => rw [h1, hn] at hr; cases hr
  | some y =>
   rw [h1, hn] at hr
   simp only [Option.map_some, Option.some.injEq] at hr
   cases y with
   | nil => exact h3 hn
   | cons c t =>
    have hc := hoff c (t ++ s.dropWhile numB) (by rw [← hr]; rfl)
    have hmem : c ∈ s.takeWhile numB := by
     have suf : ∀ (x y : List UInt8), numR x = some y → ∀ c ∈ y, c ∈ x := by
      have s1 : ∀ (of x : List UInt8), ∀ c ∈ (oneS of x).2, c ∈ x := by
       intro of x c hc
       unfold oneS at hc
       cases x with
       | nil => exact hc
       | cons a l => simp only at hc; split at hc <;> simp_all
      have s2 : ∀ (x : List UInt8), ∀ c ∈ restS x, c ∈ x := fun x c hc => (List.dropWhile_sublist _).subset hc
      intro x y hx c hc
      unfold numR at hx
      split at hx
      ·cases hx
      cases hf : fracR (restS (oneS [45] x).2) with
      | none => rw [hf] at hx; cases hx
      | some z =>
       rw [hf] at hx
       change powR2 z = some y at hx
       have t1 : c ∈ z := by
        unfold powR2 at hx
        split at hx
        ·simp only [Option.some.injEq] at hx; rw [hx]; exact hc
        split at hx
        ·cases hx
        simp only [Option.some.injEq] at hx
        rw [← hx] at hc
        exact s1 _ _ _ (s1 _ _ _ (s2 _ _ hc))
       have t2 : c ∈ restS (oneS [45] x).2 := by
        unfold fracR at hf
        split at hf
        ·split at hf
         ·cases hf
         simp only [Option.some.injEq] at hf
         rw [← hf] at t1
         exact s1 _ _ _ (s2 _ _ t1)
        simp only [Option.some.injEq] at hf
        rw [hf]; exact t1
       exact s1 _ _ _ (s2 _ _ t2)
     exact suf _ _ hn c (by simp)
    have hall : ∀ (l : List UInt8), ∀ c ∈ l.takeWhile numB, numB c = true := by
     intro l
     induction l with
     | nil => simp
     | cons a l ih =>
      rw [List.takeWhile_cons]
      split
      ·rename_i ha
       intro c hc
       rcases List.mem_cons.1 hc with rfl | hc
       ·exact ha
       exact ih c hc
      simp
    rw [hall s c hmem] at hc
    cases hc
 rw [if_neg hb]
 refine ⟨fun h => (by cases h), fun h => ?_⟩
 have h3 : numR (s.takeWhile numB) = some [] := by
  by_cases hh : numR (s.takeWhile numB) = some []
  ·exact hh
  exact absurd (h2.2 hh) hb
 exact absurd ⟨s.dropWhile numB, by rw [h1, h3]; rfl, ho⟩ h
theorem num_some {s : List UInt8} {f f2 : Fl} {v : J} {r : List UInt8} (h : numS s f = some (v, r, f2)) : numR s = some r ∧ Off r ∧ s = s.takeWhile numB ++ r ∧ v = .mk 2 false (parseS (s.takeWhile numB)).1 [] [] [] ∧ f2 = { f with great := f.great || (parseS (s.takeWhile numB)).2 != 0 } := by
 have e := List.takeWhile_append_dropWhile (p := numB) (l := s)
 have ho := off_drop s
 have h1 := off_num (s.takeWhile numB) (s.dropWhile numB) ho
 rw [e] at h1
 have h2 := num_bad (s.takeWhile numB)
 unfold numS at h
 split at h
 ·cases h
 rename_i hb
 simp only [Option.some.injEq, Prod.mk.injEq] at h
 obtain ⟨rfl, rfl, rfl⟩ := h
 have h3 : numR (s.takeWhile numB) = some [] := by
  by_cases hh : numR (s.takeWhile numB) = some []
  ·exact hh
  exact absurd (h2.2 hh) hb
 exact ⟨by rw [h1, h3]; rfl, ho, e.symm, rfl, rfl⟩
variable {z : List UInt8}
def qlN : Nat → List UInt8 → Option (List UInt8)
 | 0, _ => none
 | _ + 1, [] => none
 | n + 1, c :: t => if c.toNat < 32 then none else if c = 34 then some t
  else if c = 92 then match t with
   | [] => none
   | e :: t2 => if (plainS e).isSome then qlN n t2 else if e = 117 then match hexN 4 0 t2 with
     | none => none
     | some (_, t3) => qlN n t3
    else none
  else qlN n t
def qlS (s : List UInt8) : Option (List UInt8) := qlN (s.length + 1) s
theorem ql_fuel : ∀ (n m : Nat) (s : List UInt8), s.length < n → s.length < m → qlN n s = qlN m s
 | 0, _, s, h, _ => by omega
 | _ + 1, 0, s, _, h => by omega
 | n + 1, m + 1, [], _, _ => rfl
 | n + 1, m + 1, c :: t, h1, h2 => by
  simp only [List.length_cons] at h1 h2
  simp only [qlN]
  rw [ql_fuel n m t (by omega) (by omega)]
  cases t with
  | nil => rfl
  | cons e t2 =>
   simp only [List.length_cons] at h1 h2
   simp only
   rw [ql_fuel n m t2 (by omega) (by omega)]
   cases hh : hexN 4 0 t2 with
   | none => rfl
   | some x =>
    obtain ⟨x, t3⟩ := x
    have := hexN_len _ _ _ _ _ hh
    simp only
    rw [ql_fuel n m t3 (by omega) (by omega)]
theorem pair_some {x : Nat} {t bs r : List UInt8} (h : pairS x t = some (bs, r)) : ∃ t3 y, t = 92 :: 117 :: t3 ∧ hexN 4 0 t3 = some (y, r) := by
 unfold pairS at h
 split at h
 ·split at h
  ·split at h
   ·split at h
    ·rename_i y t4 hh _
     simp only [Option.some.injEq, Prod.mk.injEq] at h
     exact ⟨_, y, rfl, by rw [hh, h.2]⟩
    cases h
   cases h
  cases h
 cases h
theorem plain_117 : plainS 117 = none := by decide
theorem ql_qt : ∀ (n : Nat) (s : List UInt8), s.length < n → qlN n s = (qtN z n s).map (·.2.1)
 | 0, s, h => by omega
 | n + 1, [], _ => rfl
 | n + 1, c :: t, h => by
  simp only [List.length_cons] at h
  simp only [qlN, qtN]
  by_cases h1 : c.toNat < 32
  ·rw [if_pos h1, if_pos h1]; rfl
  rw [if_neg h1, if_neg h1]
  by_cases h2 : c = 34
  ·rw [if_pos h2, if_pos h2]; rfl
  rw [if_neg h2, if_neg h2]
  by_cases h3 : c = 92
  ·rw [if_pos h3, if_pos h3]
   cases t with
   | nil => rfl
   | cons e t2 =>
    simp only [List.length_cons] at h
    simp only [escS]
    cases hp : plainS e with
    | some m =>
     simp only [Option.isSome_some, if_true]
     rw [ql_qt n t2 (by omega)]
     cases qtN z n t2 with
     | none => rfl
     | some y => obtain ⟨u, r, a⟩ := y; rfl
    | none =>
     simp only [Option.isSome_none, Bool.false_eq_true, if_false]
     by_cases he : e = 117
     ·rw [if_pos he, if_pos he]
      cases hh : hexN 4 0 t2 with
      | none => rfl
      | some x =>
       obtain ⟨x, t3⟩ := x
       have hl := hexN_len _ _ _ _ _ hh
       simp only
       by_cases hx : 55296 ≤ x ∧ x < 57344
       ·rw [if_pos hx]
        cases hq : pairS x t3 with
        | none =>
         simp only
         rw [ql_qt n t3 (by omega)]
         cases qtN z n t3 with
         | none => rfl
         | some y => obtain ⟨u, r, a⟩ := y; rfl
        | some y =>
         obtain ⟨bs, t4⟩ := y
         obtain ⟨t5, y, e1, e2⟩ := pair_some hq
         have hl2 := hexN_len _ _ _ _ _ e2
         subst e1
         simp only [List.length_cons] at hl
         obtain ⟨k, rfl⟩ : ∃ k, n = k + 1 := ⟨n - 1, by omega⟩
         have e3 : qlN (k + 1) (92 :: 117 :: t5) = qlN k t4 := by
          simp only [qlN]
          rw [if_neg (by decide), if_neg (by decide), if_pos trivial, plain_117, e2]
          rfl
         simp only
         rw [e3, ql_fuel k (k + 1) t4 (by omega) (by omega), ql_qt (k + 1) t4 (by omega)]
         cases qtN z (k + 1) t4 with
         | none => rfl
         | some y => obtain ⟨u, r, a⟩ := y; rfl
       rw [if_neg hx]
       simp only
       rw [ql_qt n t3 (by omega)]
       cases qtN z n t3 with
       | none => rfl
       | some y => obtain ⟨u, r, a⟩ := y; rfl
     rw [if_neg he, if_neg he]; rfl
  rw [if_neg h3, if_neg h3, ql_qt n t (by omega)]
  cases qtN z n t with
  | none => rfl
  | some y => obtain ⟨u, r, a⟩ := y; rfl
theorem qlS_qt (z s : List UInt8) : qlS s = (qtS z s).map (·.2.1) := ql_qt _ s (Nat.lt_succ_self _)
/-! ### between the quotes -/
def unN (z : List UInt8) : Nat → List UInt8 → Option (List UInt8 × Bool)
 | 0, _ => none
 | _ + 1, [] => some ([], false)
 | n + 1, c :: t => if c = 92 then match escS z t with
   | none => none
   | some (b, t2, a) => match unN z n t2 with
    | none => none
    | some (u, a2) => some (b ++ u, a || a2)
  else match unN z n t with
   | none => none
   | some (u, a2) => some (c :: u, a2)
def unS (z s : List UInt8) : Option (List UInt8 × Bool) := unN z (s.length + 1) s
theorem un_fuel : ∀ (n m : Nat) (s : List UInt8), s.length < n → s.length < m → unN z n s = unN z m s
 | 0, _, s, h, _ => by omega
 | _ + 1, 0, s, _, h => by omega
 | n + 1, m + 1, [], _, _ => rfl
 | n + 1, m + 1, c :: t, h1, h2 => by
  simp only [List.length_cons] at h1 h2
  simp only [unN]
  rw [un_fuel n m t (by omega) (by omega)]
  cases he : escS z t with
  | none => rfl
  | some x =>
   obtain ⟨b, t2, a⟩ := x
   have := esc_len he
   simp only
   rw [un_fuel n m t2 (by omega) (by omega)]
theorem hexN_app : ∀ (n x : Nat) (s r : List UInt8), hexN n x (s ++ 34 :: r) = (hexN n x s).map (fun y => (y.1, y.2 ++ 34 :: r))
 | 0, x, s, r => rfl
 | n + 1, x, [], r => by
  have : hexV 34 = none := by decide
  simp [hexN, this]
 | n + 1, x, c :: t, r => by
  simp only [List.cons_append, hexN]
  cases hexV c with
  | none => rfl
  | some d => exact hexN_app n _ t r
theorem hexN_suf : ∀ (n x : Nat) (s : List UInt8) (y : Nat) (r : List UInt8), hexN n x s = some (y, r) → ∃ p, s = p ++ r
 | 0, x, s, y, r, h => by simp only [hexN, Option.some.injEq, Prod.mk.injEq] at h; exact ⟨[], by rw [h.2]; rfl⟩
 | n + 1, x, [], y, r, h => by simp [hexN] at h
 | n + 1, x, c :: t, y, r, h => by
  simp only [hexN] at h
  split at h
  ·cases h
  obtain ⟨p, rfl⟩ := hexN_suf n _ t y r h
  exact ⟨c :: p, rfl⟩
theorem pair_app (x : Nat) (t r : List UInt8) : pairS x (t ++ 34 :: r) = (pairS x t).map (fun y => (y.1, y.2 ++ 34 :: r)) := by
 unfold pairS
 by_cases hx : x < 56320
 ·rw [if_pos hx, if_pos hx]
  match t with
  | [] => rfl
  | [c] =>
   by_cases hc : c = 92
   ·subst hc
    simp only [List.cons_append, List.nil_append]
    split
    ·rename_i h; simp only [List.cons.injEq] at h; exact absurd h.2.1 (by decide)
    rfl
   simp only [List.cons_append, List.nil_append]
   split
   ·rename_i h; simp only [List.cons.injEq] at h; exact absurd h.2.1 (by decide)
   rfl
  | c :: d :: t3 =>
   simp only [List.cons_append]
   by_cases hc : c = 92 ∧ d = 117
   ·obtain ⟨rfl, rfl⟩ := hc
    simp only
    rw [hexN_app]
    cases hexN 4 0 t3 with
    | none => rfl
    | some y =>
     obtain ⟨y, t4⟩ := y
     simp only [Option.map_some]
     split
     ·simp only [Option.map_some]
     rfl
   split
   ·rename_i h; simp only [List.cons.injEq] at h; exact absurd ⟨h.1, h.2.1⟩ hc
   split
   ·rename_i h; simp only [List.cons.injEq] at h; exact absurd ⟨h.1, h.2.1⟩ hc
   rfl
 rw [if_neg hx, if_neg hx]; rfl
theorem esc_app (t r : List UInt8) (ht : t ≠ []) : escS z (t ++ 34 :: r) = (escS z t).map (fun y => (y.1, y.2.1 ++ 34 :: r, y.2.2)) := by
 cases t with
 | nil => exact absurd rfl ht
 | cons c t =>
  simp only [List.cons_append, escS]
  cases plainS c with
  | some m => rfl
  | none =>
   simp only
   split
   ·rw [hexN_app]
    cases hexN 4 0 t with
    | none => rfl
    | some y =>
     obtain ⟨x, t2⟩ := y
     simp only [Option.map_some]
     split
     ·rw [pair_app]
      cases pairS x t2 with
      | none => rfl
      | some y => rfl
     rfl
   rfl
theorem esc_suf {s b r : List UInt8} {a : Bool} (h : escS z s = some (b, r, a)) : ∃ p, p ≠ [] ∧ s = p ++ r := by
 cases s with
 | nil => simp [escS] at h
 | cons c t =>
  simp only [escS] at h
  split at h
  ·simp only [Option.some.injEq, Prod.mk.injEq] at h
   exact ⟨[c], by simp, by rw [h.2.1]; rfl⟩
  split at h
  ·split at h
   ·cases h
   rename_i x t2 hh
   obtain ⟨p, rfl⟩ := hexN_suf _ _ _ _ _ hh
   split at h
   ·split at h
    ·rename_i bs t4 hp
     obtain ⟨t3, y, rfl, e2⟩ := pair_some hp
     obtain ⟨q, rfl⟩ := hexN_suf _ _ _ _ _ e2
     simp only [Option.some.injEq, Prod.mk.injEq] at h
     exact ⟨c :: (p ++ 92 :: 117 :: q), by simp, by rw [← h.2.1]; simp⟩
    simp only [Option.some.injEq, Prod.mk.injEq] at h
    exact ⟨c :: p, by simp, by rw [← h.2.1]; rfl⟩
   simp only [Option.some.injEq, Prod.mk.injEq] at h
   exact ⟨c :: p, by simp, by rw [← h.2.1]; rfl⟩
  cases h
theorem qt_un : ∀ (n : Nat) (s u r : List UInt8) (a : Bool), qtN z n s = some (u, r, a) → ∃ body, s = body ++ 34 :: r ∧ unN z n body = some (u, a)
 | 0, s, u, r, a, h => by simp [qtN] at h
 | n + 1, [], u, r, a, h => by simp [qtN] at h
 | n + 1, c :: t, u, r, a, h => by
  simp only [qtN] at h
  split at h
  ·cases h
  split at h
  ·rename_i hc
   simp only [Option.some.injEq, Prod.mk.injEq] at h
   exact ⟨[], by rw [hc, h.2.1]; rfl, by rw [← h.1, ← h.2.2]; rfl⟩
  split at h
  ·rename_i hc
   split at h
   ·cases h
   rename_i b t2 a1 he
   split at h
   ·cases h
   rename_i u2 r2 a2 hq
   obtain ⟨body, e1, e2⟩ := qt_un n _ _ _ _ hq
   simp only [Option.some.injEq, Prod.mk.injEq] at h
   obtain ⟨rfl, rfl, rfl⟩ := h
   obtain ⟨p, hp, e3⟩ := esc_suf he
   subst e1
   have e4 : t = (p ++ body) ++ 34 :: r2 := by rw [e3, List.append_assoc]
   have e5 := he
   rw [e4, esc_app (p ++ body) r2 (by simp [hp])] at e5
   cases hx : escS z (p ++ body) with
   | none => rw [hx] at e5; cases e5
   | some y =>
    obtain ⟨y1, y2, y3⟩ := y
    rw [hx] at e5
    simp only [Option.map_some, Option.some.injEq, Prod.mk.injEq, List.append_left_inj] at e5
    obtain ⟨rfl, h7, rfl⟩ := e5
    refine ⟨c :: (p ++ body), by rw [e4]; rfl, ?_⟩
    simp only [unN]
    rw [if_pos hc, hx]
    simp only
    rw [h7, e2]
  rename_i hc
  split at h
  ·cases h
  rename_i u2 r2 a2 hq
  obtain ⟨body, e1, e2⟩ := qt_un n _ _ _ _ hq
  simp only [Option.some.injEq, Prod.mk.injEq] at h
  obtain ⟨rfl, rfl, rfl⟩ := h
  refine ⟨c :: body, by rw [e1]; rfl, ?_⟩
  simp only [unN]
  rw [if_neg hc, e2]
theorem qtS_un {s u r : List UInt8} {a : Bool} (h : qtS z s = some (u, r, a)) : ∃ body, s = body ++ 34 :: r ∧ unS z body = some (u, a) := by
 obtain ⟨body, e1, e2⟩ := qt_un _ _ _ _ _ h
 refine ⟨body, e1, ?_⟩
 rw [← e2]
 exact un_fuel _ _ _ (Nat.lt_succ_self _) (by rw [e1]; simp; omega)
theorem unS_nil : unS z [] = some ([], false) := rfl
theorem unS_plain {c : UInt8} (t : List UInt8) (hc : c ≠ 92) : unS z (c :: t) = (unS z t).map (fun x => (c :: x.1, x.2)) := by
 unfold unS
 simp only [List.length_cons]
 rw [unN, if_neg hc]
 cases unN z (t.length + 1) t with
 | none => rfl
 | some y => rfl
theorem unS_chunk : ∀ (x y : List UInt8), (∀ c ∈ x, c ≠ 92) → unS z (x ++ y) = (unS z y).map (fun u => (x ++ u.1, u.2))
 | [], y, _ => by cases h : unS z y <;> simp [h]
 | c :: x, y, h => by
  rw [List.cons_append, unS_plain _ (h c (by simp)), unS_chunk x y (fun d hd => h d (by simp [hd]))]
  cases unS z y with
  | none => rfl
  | some u => rfl
theorem unS_esc (t : List UInt8) : unS z (92 :: t) = match escS z t with
  | none => none
  | some (b, t2, a) => (unS z t2).map (fun u => (b ++ u.1, a || u.2)) := by
 unfold unS
 simp only [List.length_cons]
 rw [unN, if_pos rfl]
 cases he : escS z t with
 | none => rfl
 | some y =>
  obtain ⟨b, t2, a⟩ := y
  have := esc_len he
  simp only
  rw [un_fuel (t.length + 1) (t2.length + 1) t2 (by omega) (by omega)]
  cases unN z (t2.length + 1) t2 with
  | none => rfl
  | some y => rfl
end Go.Proofs.YtfclfaidmipjpaaGreatDoor
