/- Plain laws of the reference's head, more: header lines, lengths, pieces, blanks. -/
import Derived.Test.YtgdfgppgfkkncaaGreatDoorHrL
namespace Go.Proofs.YtgdfgppgfkkncaaGreatDoor

def nc58 (c : UInt8) : Bool := !(c == 58)
theorem headerS_takeWhile (s : List UInt8) : s.takeWhile (fun c => !(c == 58)) = s.takeWhile nc58 := rfl
theorem takeWhile_all {p : UInt8 → Bool} : ∀ {l : List UInt8}, l.all p = true → l.takeWhile p = l := by
  intro l
  induction l with
  | nil => intro _; rfl
  | cons x l ih => intro h; simp only [List.all_cons, Bool.and_eq_true] at h; simp [h.1, ih h.2]
theorem takeWhile_over {p : UInt8 → Bool} : ∀ {n : List UInt8} {c : UInt8} {r : List UInt8}, n.all p = true → p c = true → (n ++ c :: r).takeWhile p = n ++ c :: r.takeWhile p := by
  intro n
  induction n with
  | nil => intro c r _ hc; simp [hc]
  | cons x l ih =>
    intro c r h hc
    simp only [List.all_cons, Bool.and_eq_true] at h
    simp [h.1, ih h.2 hc]
theorem headerS_bad {n r : List UInt8} {c : UInt8} (hn : n.all nc58 = true) (hc : nc58 c = true) (ht : tkB c = false) : headerS (n ++ c :: r) = none := by
  unfold headerS
  split
  · rfl
  · rw [headerS_takeWhile, takeWhile_over hn hc, if_neg]
    rintro ⟨_, h, _⟩
    simp [ht] at h
theorem headerS_none {n : List UInt8} (hn : n.all nc58 = true) : headerS n = none := by
  unfold headerS
  rw [headerS_takeWhile, takeWhile_all hn, List.drop_length]
theorem headerS_val {n v : List UInt8} (hn : n.all nc58 = true) (ht : n.all tkB = true) (h0 : n ≠ []) : headerS (n ++ 58 :: v) = if v.all vaB = true then some ⟨smallS n, trimS v⟩ else none := by
  have e : (n ++ 58 :: v).takeWhile (fun c => !(c == 58)) = n := takeWhile_stop (p := nc58) hn (by decide)
  unfold headerS
  rw [e, List.drop_left]
  simp only
  by_cases hv : v.all vaB = true
  · rw [if_pos ⟨h0, ht, hv⟩, if_pos hv]
  · rw [if_neg (fun h => hv h.2.2), if_neg hv]
theorem headerS_empty (v : List UInt8) : headerS (58 :: v) = none := by
  unfold headerS
  simp

theorem valuesS_take (hs : List Hdr) (n : List UInt8) (i : Nat) (h : i < hs.length) : valuesS (hs.take (i + 1)) n = valuesS (hs.take i) n ++ (if (hs.getD i ⟨[], []⟩).name = n then [(hs.getD i ⟨[], []⟩).value] else []) := by
  rw [List.take_add_one, List.getElem?_eq_getElem h]
  have e : hs.getD i ⟨[], []⟩ = hs[i] := by simp [List.getD, h]
  rw [e]
  unfold valuesS
  simp only [Option.toList_some, List.filter_append, List.map_append]
  congr 1
  by_cases hn : hs[i].name = n <;> simp [hn]

theorem decV_snoc (l : List UInt8) (c : UInt8) : decV (l ++ [c]) = 10 * decV l + (c.toNat - 48) := by simp [decV]
theorem decV_small : ∀ (k : Nat) (l : List UInt8), l.length = k → l.all dgB = true → decV l < 10 ^ k := by
  intro k
  induction k with
  | zero => intro l h _; obtain rfl : l = [] := List.length_eq_zero_iff.1 h; decide
  | succ k ih =>
    intro l h hd
    obtain ⟨r, c, rfl⟩ : ∃ r c, l = r ++ [c] := ⟨l.dropLast, l.getLast (by intro e; rw [e] at h; simp at h), (List.dropLast_concat_getLast _).symm⟩
    simp only [List.all_append, List.all_cons, List.all_nil, Bool.and_true, Bool.and_eq_true] at hd
    have h1 := ih r (by simpa using h) hd.1
    have h2 : c.toNat ≤ 57 := by have := hd.2; unfold dgB at this; simp at this; exact this.2
    rw [decV_snoc, Nat.pow_succ]
    omega
theorem lengthS_bad {v : List UInt8} (h : v.length < 1 ∨ 18 < v.length) : lengthS v = none := by unfold lengthS; rw [if_neg (by omega)]
theorem lengthS_not {v : List UInt8} (i : Nat) (hi : i < v.length) (h : dgB (v.getD i 0) = false) : lengthS v = none := by
  unfold lengthS
  rw [if_neg]
  rintro ⟨_, _, h3⟩
  rw [List.all_eq_true] at h3
  have := h3 (v.getD i 0) (by simp [List.getD, hi])
  rw [this] at h; cases h
theorem lengthS_ok {v : List UInt8} (h1 : 1 ≤ v.length) (h2 : v.length ≤ 18) (h : v.all dgB = true) : lengthS v = some (decV v) := by unfold lengthS; rw [if_pos ⟨h1, h2, h⟩]

/-- Between two rounds of closes. -/
def CloS (s : List UInt8) (a i : Nat) : Prop := a ≤ i ∧ i ≤ s.length ∧ closesS s = (cut1 44 ((s.drop a).take (i - a)) (s.drop i)).any (fun x => smallS (trimS x) == nClose)
theorem CloS.zero (s : List UInt8) : CloS s 0 0 := ⟨Nat.le_refl _, Nat.zero_le _, by simp [closesS]⟩
theorem CloS.miss {s : List UInt8} {a i : Nat} (h : CloS s a i) (hi : i < s.length) (hc : s.getD i 0 ≠ 44) : CloS s a (i + 1) := by
  obtain ⟨g1, g2, g3⟩ := h
  refine ⟨by omega, by omega, ?_⟩
  have e1 : (s.drop a).take (i + 1 - a) = (s.drop a).take (i - a) ++ [s.getD i 0] := by
    rw [show i + 1 - a = (i - a) + 1 by omega, List.take_add_one]
    congr 1
    rw [List.getElem?_drop, show a + (i - a) = i by omega]
    simp [List.getD, List.getElem?_eq_getElem hi]
  rw [g3, drop_at hi, cut1_cons, if_neg hc, e1]
theorem CloS.hit {s : List UInt8} {a i : Nat} (h : CloS s a i) (hi : i < s.length) (hc : s.getD i 0 = 44) (hp : smallS (trimS ((s.drop a).take (i - a))) ≠ nClose) : CloS s (i + 1) (i + 1) := by
  obtain ⟨g1, g2, g3⟩ := h
  refine ⟨Nat.le_refl _, by omega, ?_⟩
  rw [g3, drop_at hi, cut1_cons, if_pos hc, Nat.sub_self, List.take_zero]
  simp [hp]
theorem CloS.yes {s : List UInt8} {a i : Nat} (h : CloS s a i) (hc : i = s.length ∨ s.getD i 0 = 44) (hp : smallS (trimS ((s.drop a).take (i - a))) = nClose) : closesS s = true := by
  obtain ⟨g1, g2, g3⟩ := h
  rw [g3]
  rcases Nat.lt_or_ge i s.length with hl | hl
  · rcases hc with hc | hc
    · omega
    · rw [drop_at hl, cut1_cons, if_pos hc]; simp [hp]
  · rw [List.drop_of_length_le hl]; simp [cut1, hp]
theorem CloS.no {s : List UInt8} {a i : Nat} (h : CloS s a i) (hc : i = s.length) (hp : smallS (trimS ((s.drop a).take (i - a))) ≠ nClose) : closesS s = false := by
  obtain ⟨g1, g2, g3⟩ := h
  rw [g3, hc, List.drop_length]
  simp only [cut1, List.any_cons, List.any_nil, Bool.or_false]
  rw [hc] at hp
  simpa using hp

/-- Blanks. -/
theorem trimS_left {c : UInt8} {r : List UInt8} (h : blB c = true) : trimS (c :: r) = trimS r := by unfold trimS; simp [h]
theorem trimS_right {r : List UInt8} {c : UInt8} (h : blB c = true) (h0 : ∀ x t, r ++ [c] = x :: t → blB x = false) : trimS (r ++ [c]) = trimS r := by
  have e : ∀ l : List UInt8, (∀ x t, l = x :: t → blB x = false) → l.dropWhile blB = l := by
    intro l hl
    cases l with
    | nil => rfl
    | cons x t => simp [hl x t rfl]
  cases r with
  | nil =>
    have := h0 c [] rfl
    rw [h] at this; cases this
  | cons y r =>
    have hy := h0 y (r ++ [c]) rfl
    unfold trimS
    rw [e _ h0, e (y :: r) (fun x t ht => by cases ht; exact hy)]
    simp [h]
theorem trimS_id {l : List UInt8} (h0 : ∀ x t, l = x :: t → blB x = false) (h1 : ∀ r x, l = r ++ [x] → blB x = false) : trimS l = l := by
  have e : ∀ l : List UInt8, (∀ x t, l = x :: t → blB x = false) → l.dropWhile blB = l := by
    intro l hl
    cases l with
    | nil => rfl
    | cons x t => simp [hl x t rfl]
  unfold trimS
  rw [e _ h0, e l.reverse (fun x t ht => h1 t.reverse x (by rw [← List.reverse_reverse l, ht]; simp)), List.reverse_reverse]
theorem smallS_take (l : List UInt8) (i : Nat) (h : i < l.length) : smallS (l.take (i + 1)) = smallS (l.take i) ++ [smB (l.getD i 0)] := by
  rw [List.take_add_one, List.getElem?_eq_getElem h]
  unfold smallS
  rw [List.map_append]
  simp [List.getD, h]
end Go.Proofs.YtgdfgppgfkkncaaGreatDoor
