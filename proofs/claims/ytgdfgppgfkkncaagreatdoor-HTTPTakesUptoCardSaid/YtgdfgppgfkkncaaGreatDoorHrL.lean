/- Plain laws of the reference's head: its lines, its request line, its header lines. -/
import Derived.Test.YtgdfgppgfkkncaaGreatDoorHtP
namespace Go.Proofs.YtgdfgppgfkkncaaGreatDoor

/-- Behind the first head's end; -1: there is none. -/
def endS (s : List UInt8) : Int := if Lib.index s ends = -1 then -1 else Lib.index s ends + 4
theorem endS_hit {s : List UInt8} {i : Nat} (hn : Lib.NoOcc s ends i) (h : i + 4 ≤ s.length) (ho : (s.drop i).take 4 = ends) : endS s = i + 4 := by
  have h1 : Lib.index s ends = i := Lib.index_hit hn (by omega) (by rw [Lib.occAt_iff_take _ _ _ (by rw [ends_len]; exact h), ends_len, ho]; rfl)
  unfold endS
  rw [h1, if_neg (by omega)]
theorem endS_next {s : List UInt8} {i : Nat} (hn : Lib.NoOcc s ends i) (h : i + 4 ≤ s.length) (ho : (s.drop i).take 4 ≠ ends) : Lib.NoOcc s ends (i + 1) := by
  intro j hj
  rcases Nat.lt_or_ge j i with h1 | h1
  · exact hn j h1
  · obtain rfl : j = i := by omega
    rw [Lib.occAt_iff_take _ _ _ (by rw [ends_len]; exact h), ends_len]
    exact beq_eq_false_iff_ne.2 ho
theorem endS_miss {s : List UInt8} {i : Nat} (hn : Lib.NoOcc s ends i) (h : s.length < i + 4) : endS s = -1 := by
  have h1 : Lib.index s ends = -1 := by
    rcases Lib.index_spec s ends with ⟨h1, _⟩ | ⟨k, h1, h2, h3, h4⟩
    · exact h1
    · have := occ_room h3
      rw [hn k (by omega)] at h3; cases h3
  unfold endS
  rw [h1]; rfl
/-- A whole head: its end is its bytes'. -/
theorem endS_whole {s : List UInt8} : endS s = s.length ↔ (Lib.index s ends = (s.length : Int) - 4 ∧ 4 ≤ s.length) := by
  unfold endS
  have hg := Lib.index_ge s ends
  constructor
  · intro h
    split at h
    · omega
    · obtain ⟨i, hi⟩ : ∃ i : Nat, Lib.index s ends = i := ⟨(Lib.index s ends).toNat, by omega⟩
      have := index_low hi
      omega
  · rintro ⟨h1, h2⟩
    rw [if_neg (by omega), h1]; omega
theorem endS_split {s : List UInt8} (h : endS s = s.length) : ∃ t, s = t ++ ends ∧ t = s.take (s.length - 4) := by
  obtain ⟨h1, h2⟩ := endS_whole.1 h
  rcases Lib.index_spec s ends with ⟨h3, _⟩ | ⟨k, h3, h4, h5, h6⟩
  · omega
  · obtain rfl : k = s.length - 4 := by omega
    rw [Lib.occAt_iff_take _ _ _ (by rw [ends_len]; omega), ends_len, List.take_of_length_le (by rw [List.length_drop]; omega)] at h5
    exact ⟨_, by rw [← beq_iff_eq.1 h5, List.take_append_drop], rfl⟩

/-- Between two rounds of lines. -/
def LinS (s : List UInt8) (out : List (List UInt8)) (a i : Nat) : Prop := a ≤ i ∧ i ≤ s.length ∧ cut2 13 10 [] s = out ++ cut2 13 10 ((s.drop a).take (i - a)) (s.drop i)
theorem LinS.zero (s : List UInt8) : LinS s [] 0 0 := ⟨Nat.le_refl _, Nat.zero_le _, by simp⟩
theorem drop_at {s : List UInt8} {i : Nat} (h : i < s.length) : s.drop i = s.getD i 0 :: s.drop (i + 1) := by
  rw [List.drop_eq_getElem_cons h]; congr 1; simp [List.getD, h]
theorem LinS.hit {s : List UInt8} {out : List (List UInt8)} {a i : Nat} (h : LinS s out a i) (hi : i + 1 < s.length) (h1 : s.getD i 0 = 13) (h2 : s.getD (i + 1) 0 = 10) : LinS s (out ++ [(s.drop a).take (i - a)]) (i + 2) (i + 2) := by
  obtain ⟨g1, g2, g3⟩ := h
  refine ⟨Nat.le_refl _, by omega, ?_⟩
  rw [g3, drop_at (by omega : i < s.length), drop_at hi, h1, h2, cut2_cons, if_pos ⟨rfl, rfl⟩, Nat.sub_self, List.take_zero]
  simp
theorem LinS.miss {s : List UInt8} {out : List (List UInt8)} {a i : Nat} (h : LinS s out a i) (hi : i + 1 < s.length) (h1 : ¬ (s.getD i 0 = 13 ∧ s.getD (i + 1) 0 = 10)) : LinS s out a (i + 1) := by
  obtain ⟨g1, g2, g3⟩ := h
  refine ⟨by omega, by omega, ?_⟩
  have e1 : (s.drop a).take (i + 1 - a) = (s.drop a).take (i - a) ++ [s.getD i 0] := by
    rw [show i + 1 - a = (i - a) + 1 by omega, List.take_add_one]
    congr 1
    rw [List.getElem?_drop, show a + (i - a) = i by omega]
    simp [List.getD, List.getElem?_eq_getElem (by omega : i < s.length)]
  rw [g3, drop_at (by omega : i < s.length), drop_at hi, cut2_cons, if_neg h1, e1]
theorem LinS.out {s : List UInt8} {out : List (List UInt8)} {a i : Nat} (h : LinS s out a i) (hi : s.length ≤ i + 1) (hs : endS s = s.length) : out = cut2 13 10 [] (s.take (s.length - 4)) ++ [[]] := by
  obtain ⟨g1, g2, g3⟩ := h
  obtain ⟨t, ht, ht2⟩ := endS_split hs
  rw [← ht2]
  have e := cut2_head [] t
  have hz : ∃ x, cut2 13 10 ((s.drop a).take (i - a)) (s.drop i) = [x] := by
    rcases Nat.lt_or_ge i s.length with h1 | h1
    · rw [drop_at h1, show s.drop (i + 1) = [] from List.drop_of_length_le (by omega)]; exact ⟨_, rfl⟩
    · rw [List.drop_of_length_le h1]; exact ⟨_, rfl⟩
  obtain ⟨x, hx⟩ := hz
  rw [hx] at g3
  have e2 : cut2 13 10 [] t ++ [[], []] = out ++ [x] := by rw [← g3, ← e]; rw [ht]; rfl
  rw [show cut2 13 10 [] t ++ [[], []] = (cut2 13 10 [] t ++ [[]]) ++ [[]] by simp] at e2
  exact (List.append_inj_left' e2 rfl).symm

theorem cut1_inv (a : UInt8) : ∀ (s acc x : List UInt8) (l : List (List UInt8)), cut1 a acc s = x :: l → (l = [] ∧ x = acc ++ s ∧ a ∉ s) ∨ ∃ y r, x = acc ++ y ∧ s = y ++ a :: r ∧ a ∉ y ∧ l = cut1 a [] r := by
  intro s
  induction s with
  | nil =>
    intro acc x l h
    simp only [cut1, List.cons.injEq] at h
    exact .inl ⟨h.2.symm, by simp [h.1], by simp⟩
  | cons c r ih =>
    intro acc x l h
    rw [cut1_cons] at h
    split at h
    · rename_i hc
      simp only [List.cons.injEq] at h
      exact .inr ⟨[], r, by simp [h.1], by simp [hc], by simp, h.2.symm⟩
    · rename_i hc
      rcases ih _ _ _ h with ⟨h1, h2, h3⟩ | ⟨y, r2, h1, h2, h3, h4⟩
      · exact .inl ⟨h1, by simp [h2], by simp; exact ⟨fun e => hc e.symm, h3⟩⟩
      · exact .inr ⟨c :: y, r2, by simp [h1], by simp [h2], by simp; exact ⟨fun e => hc e.symm, h3⟩, h4⟩
theorem cut1_app (a : UInt8) : ∀ (x acc r : List UInt8), a ∉ x → cut1 a acc (x ++ a :: r) = (acc ++ x) :: cut1 a [] r := by
  intro x
  induction x with
  | nil => intro acc r _; simp [cut1]
  | cons c x ih =>
    intro acc r h
    simp only [List.mem_cons, not_or] at h
    rw [List.cons_append, cut1_cons, if_neg (fun e => h.1 e.symm), ih _ _ h.2]
    simp
theorem cut1_last (a : UInt8) : ∀ (x acc : List UInt8), a ∉ x → cut1 a acc x = [acc ++ x] := by
  intro x
  induction x with
  | nil => intro acc _; simp [cut1]
  | cons c x ih =>
    intro acc h
    simp only [List.mem_cons, not_or] at h
    rw [cut1_cons, if_neg (fun e => h.1 e.symm), ih _ h.2]
    simp
/-- A request line that is one, or has another version. -/
structure LineS (s m u : List UInt8) (a b : UInt8) : Prop where
  eq : s = m ++ 32 :: (u ++ [32, 72, 84, 84, 80, 47, a, 46, b])
  pos : 1 ≤ m.length
  le : m.length ≤ 16
  up : m.all upB = true
  head : u.head? = some 47
  ad : u.all adB = true
  da : dgB a = true
  db : dgB b = true
theorem versB_inv {v : List UInt8} (h : versB v = true) : ∃ a b, v = [72, 84, 84, 80, 47, a, 46, b] ∧ dgB a = true ∧ dgB b = true := by
  unfold versB at h
  split at h
  · rw [Bool.and_eq_true] at h; exact ⟨_, _, rfl, h⟩
  · cases h
theorem not_mem_all {p : UInt8 → Bool} {l : List UInt8} {c : UInt8} (h : l.all p = true) (hc : p c = false) : c ∉ l := fun hm => by
  rw [List.all_eq_true] at h; rw [h c hm] at hc; cases hc
theorem firstS_inv {s : List UInt8} (h : (firstS s).2 ≠ 380) : ∃ m u a b, LineS s m u a b := by
  unfold firstS at h
  split at h
  · rename_i m u v hc
    split at h
    · rename_i hcond
      obtain ⟨c1, c2, c3, c4, c5, c6⟩ := hcond
      obtain ⟨a, b, rfl, ha, hb⟩ := versB_inv c6
      rcases cut1_inv _ _ _ _ _ hc with ⟨h1, _⟩ | ⟨y, r, h1, h2, _, h3⟩
      · cases h1
      · rcases cut1_inv _ _ _ _ _ h3.symm with ⟨h4, _⟩ | ⟨y2, r2, h4, h5, _, h6⟩
        · cases h4
        · rcases cut1_inv _ _ _ _ _ h6.symm with ⟨_, h7, _⟩ | ⟨_, _, _, _, _, h7⟩
          · simp only [List.nil_append] at h1 h4 h7
            subst h1 h4 h7
            exact ⟨m, u, a, b, by rw [h2, h5], c1, c2, c3, c4, c5, ha, hb⟩
          · exact absurd h7.symm (cut1_ne _ _ _)
    · exact absurd rfl h
  · exact absurd rfl h
theorem dg_ne {a : UInt8} (h : dgB a = true) : a ≠ 32 := by rintro rfl; cases h
theorem LineS.first {s m u : List UInt8} {a b : UInt8} (h : LineS s m u a b) : firstS s = if a = 49 ∧ b = 49 then ((m, (pathS u).1, (pathS u).2), 0) else (([], [], []), 383) := by
  have h1 : (32 : UInt8) ∉ m := not_mem_all h.up (by decide)
  have h2 : (32 : UInt8) ∉ u := not_mem_all h.ad (by decide)
  have ha := dg_ne h.da
  have hb := dg_ne h.db
  have e : cut1 32 [] s = [m, u, [72, 84, 84, 80, 47, a, 46, b]] := by
    rw [h.eq, cut1_app _ _ _ _ h1, show u ++ [32, 72, 84, 84, 80, 47, a, 46, b] = u ++ 32 :: [72, 84, 84, 80, 47, a, 46, b] from rfl, cut1_app _ _ _ _ h2, cut1_last _ _ _ (by simp; exact ⟨fun e => ha e.symm, fun e => hb e.symm⟩)]
    simp
  unfold firstS
  rw [e]
  simp only
  rw [if_pos ⟨h.pos, h.le, h.up, h.head, h.ad, by simp [versB, h.da, h.db]⟩]
  by_cases hab : a = 49 ∧ b = 49
  · rw [if_pos hab, if_pos (by rw [hab.1, hab.2])]
  · rw [if_neg hab, if_neg (by simp; exact fun e1 e2 => hab ⟨e1, e2⟩)]
/-- The method is what great letters it begins with. -/
theorem takeWhile_stop {p : UInt8 → Bool} : ∀ {l : List UInt8} {c : UInt8} {r : List UInt8}, l.all p = true → p c = false → (l ++ c :: r).takeWhile p = l := by
  intro l
  induction l with
  | nil => intro c r _ hc; simp [hc]
  | cons x l ih =>
    intro c r h hc
    simp only [List.all_cons, Bool.and_eq_true] at h
    simp [h.1, ih h.2 hc]
theorem LineS.meth {s m u : List UInt8} {a b : UInt8} (h : LineS s m u a b) : s.takeWhile upB = m := by
  rw [h.eq]; exact takeWhile_stop h.up (by decide)
theorem LineS.addr {s m u : List UInt8} {a b : UInt8} (h : LineS s m u a b) : (s.drop (m.length + 1)).takeWhile adB = u := by
  rw [h.eq, show m ++ 32 :: (u ++ [32, 72, 84, 84, 80, 47, a, 46, b]) = (m ++ [32]) ++ (u ++ [32, 72, 84, 84, 80, 47, a, 46, b]) by simp, List.drop_left' (by simp)]
  exact takeWhile_stop h.ad (by decide)
end Go.Proofs.YtgdfgppgfkkncaaGreatDoor
