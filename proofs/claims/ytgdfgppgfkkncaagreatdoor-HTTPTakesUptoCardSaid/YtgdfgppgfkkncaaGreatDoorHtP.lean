/- Plain laws of HTTP: it does not matter in which pieces bytes come. -/
import Derived.Test.YtgdfgppgfkkncaaGreatDoorHtL
namespace Go.Proofs.YtgdfgppgfkkncaaGreatDoor

theorem ends_len : ends.length = 4 := rfl
theorem occ_app (w p : List UInt8) (j : Nat) (h : j + 4 ≤ w.length) : Lib.occAt (w ++ p) ends j = Lib.occAt w ends j := by
  rw [Lib.occAt_iff_take _ _ _ (by rw [ends_len]; simp; omega), Lib.occAt_iff_take _ _ _ (by rw [ends_len]; exact h)]
  rw [List.drop_append_of_le_length (by omega), List.take_append_of_le_length (by rw [List.length_drop, ends_len]; omega)]
theorem occ_room {w : List UInt8} {j : Nat} (h : Lib.occAt w ends j = true) : j + 4 ≤ w.length := by
  rcases Lib.occAt_room h with h1 | h1
  · exact h1
  · cases h1
theorem index_app {w : List UInt8} {i : Nat} (h : Lib.index w ends = i) (p : List UInt8) : Lib.index (w ++ p) ends = i := by
  rcases Lib.index_spec w ends with ⟨h1, _⟩ | ⟨k, h1, h2, h3, h4⟩
  · omega
  · obtain rfl : k = i := by omega
    have hr := occ_room h3
    refine Lib.index_hit (fun j hj => ?_) (by simp; omega) (by rw [occ_app _ _ _ hr]; exact h3)
    rw [occ_app _ _ _ (by omega)]
    exact h4 j hj
theorem index_low {w : List UInt8} {i : Nat} (h : Lib.index w ends = i) : i + 4 ≤ w.length := by
  have := Lib.index_room w ends (by omega)
  rw [ends_len] at this
  omega
/-- What comes behind does not bring a head's end ahead of where it may stand. -/
theorem index_late {w : List UInt8} (h : Lib.index w ends = -1) (p : List UInt8) : Lib.index (w ++ p) ends = -1 ∨ (w.length : Int) < Lib.index (w ++ p) ends + 4 := by
  rcases Lib.index_spec (w ++ p) ends with ⟨h1, _⟩ | ⟨k, h1, h2, h3, h4⟩
  · exact .inl h1
  · right
    rw [h1]
    rcases Nat.lt_or_ge w.length (k + 4) with hl | hl
    · omega
    · exfalso
      rw [occ_app _ _ _ hl] at h3
      rcases Lib.index_spec w ends with ⟨_, h6⟩ | ⟨i, h5, _⟩
      · rw [h6 k (by omega)] at h3; cases h3
      · omega
/-- A head's end that is looked for in the first bytes alone. -/
theorem index_take (w : List UInt8) (m : Nat) : Lib.index (w.take m) ends = if Lib.index w ends = -1 ∨ (m : Int) < Lib.index w ends + 4 then -1 else Lib.index w ends := by
  rcases Lib.index_spec (w.take m) ends with ⟨h1, _⟩ | ⟨i, h1, _⟩
  · rw [h1]
    have h2 := index_late h1 (w.drop m)
    rw [List.take_append_drop, List.length_take] at h2
    split
    · rfl
    · rename_i hn
      have hg := Lib.index_ge w ends
      obtain ⟨k, hk⟩ : ∃ k : Nat, Lib.index w ends = k := ⟨(Lib.index w ends).toNat, by omega⟩
      have := index_low hk
      omega
  · have h2 := index_app h1 (w.drop m)
    rw [List.take_append_drop] at h2
    have h3 := index_low h1
    rw [List.length_take] at h3
    rw [h1, h2, if_neg (by omega)]

theorem headS_body (s : List UInt8) : (headS s).1.body = [] := by
  unfold headS
  split
  · split
    · rfl
    · split
      · rfl
      · split
        · rfl
        · split
          · rfl
          · split
            · rfl
            · split
              · rfl
              · rfl
  · rfl
theorem nextS_got {w : List UInt8} {q : Req} {r : List UInt8} (h : nextS w = .got q r) (p : List UInt8) : nextS (w ++ p) = .got q (r ++ p) ∧ r.length + 4 ≤ w.length := by
  unfold nextS at h
  by_cases h1 : Lib.index w ends = -1 ∨ 16380 < Lib.index w ends
  · rw [if_pos h1] at h; split at h <;> cases h
  · rw [if_neg h1] at h
    have hg := Lib.index_ge w ends
    obtain ⟨i, hi⟩ : ∃ i : Nat, Lib.index w ends = i := ⟨(Lib.index w ends).toNat, by omega⟩
    have hl := index_low hi
    have hip := index_app hi p
    have e1 : (w ++ p).take (i + 4) = w.take (i + 4) := List.take_append_of_le_length hl
    rw [hi] at h h1
    simp only [Int.toNat_natCast] at h
    unfold nextS
    rw [hip, if_neg h1]
    simp only [Int.toNat_natCast, e1]
    by_cases h2 : (headS (w.take (i + 4))).2.2 ≠ 0
    · rw [if_pos h2] at h; cases h
    · rw [if_neg h2] at h ⊢
      by_cases h3 : w.length - (i + 4) < (headS (w.take (i + 4))).2.1
      · rw [if_pos h3] at h; cases h
      · rw [if_neg h3] at h
        rw [if_neg (by simp; omega)]
        simp only [Next.got.injEq] at h ⊢
        obtain ⟨rfl, rfl⟩ := h
        refine ⟨⟨?_, ?_⟩, ?_⟩
        · congr 1
          rw [List.drop_append_of_le_length hl, List.take_append_of_le_length (by rw [List.length_drop]; omega)]
        · rw [List.drop_append_of_le_length (by omega)]
        · rw [List.length_drop]; omega
theorem nextS_err {w : List UInt8} {e : Int} (h : nextS w = .err e) (p : List UInt8) : nextS (w ++ p) = .err e := by
  unfold nextS at h
  by_cases h1 : Lib.index w ends = -1 ∨ 16380 < Lib.index w ends
  · rw [if_pos h1] at h
    by_cases h4 : 16384 ≤ w.length
    · rw [if_pos h4] at h
      cases h
      unfold nextS
      have h2 : Lib.index (w ++ p) ends = -1 ∨ 16380 < Lib.index (w ++ p) ends := by
        rcases h1 with h1 | h1
        · rcases index_late h1 p with h3 | h3
          · exact .inl h3
          · right; omega
        · right
          have hg := Lib.index_ge w ends
          obtain ⟨i, hi⟩ : ∃ i : Nat, Lib.index w ends = i := ⟨(Lib.index w ends).toNat, by omega⟩
          rw [index_app hi p]; omega
      rw [if_pos h2, if_pos (by simp; omega)]
    · rw [if_neg h4] at h; cases h
  · rw [if_neg h1] at h
    have hg := Lib.index_ge w ends
    obtain ⟨i, hi⟩ : ∃ i : Nat, Lib.index w ends = i := ⟨(Lib.index w ends).toNat, by omega⟩
    have hl := index_low hi
    have hip := index_app hi p
    have e1 : (w ++ p).take (i + 4) = w.take (i + 4) := List.take_append_of_le_length hl
    rw [hi] at h h1
    simp only [Int.toNat_natCast] at h
    unfold nextS
    rw [hip, if_neg h1]
    simp only [Int.toNat_natCast, e1]
    by_cases h2 : (headS (w.take (i + 4))).2.2 ≠ 0
    · rw [if_pos h2] at h ⊢; exact h
    · rw [if_neg h2] at h
      split at h <;> cases h
theorem nextS_short {w : List UInt8} {q : Req} {r : List UInt8} (h : nextS w = .got q r) : r.length + 4 ≤ w.length := (nextS_got h []).2
theorem runS_fuel : ∀ (k : Nat) (w : List UInt8) (m : Nat), w.length < k → w.length < m → runS k w = runS m w := by
  intro k
  induction k with
  | zero => intro w m h; omega
  | succ k ih =>
    intro w m h hm
    cases m with
    | zero => omega
    | succ m =>
      unfold runS
      cases hn : nextS w with
      | err e => rfl
      | more => rfl
      | got q r =>
        have := nextS_short hn
        simp only
        rw [ih r m (by omega) (by omega)]
/-- A connection behind bytes that wait. -/
def runA (w : List UInt8) : List Req × Int × List UInt8 × Bool := runS (w.length + 1) w
theorem runA_err {w : List UInt8} {e : Int} (h : nextS w = .err e) : runA w = ([], e, [], true) := by unfold runA runS; rw [h]
theorem runA_more {w : List UInt8} (h : nextS w = .more) : runA w = ([], 0, w, false) := by unfold runA runS; rw [h]
theorem runA_got {w : List UInt8} {q : Req} {r : List UInt8} (h : nextS w = .got q r) : runA w = if q.close then ([q], 0, [], true) else (q :: (runA r).1, (runA r).2) := by
  have := nextS_short h
  unfold runA
  rw [runS, h]
  simp only
  rw [runS_fuel w.length r (r.length + 1) (by omega) (by omega)]
/-- What comes of bytes, and of more behind them. -/
theorem runA_app : ∀ (n : Nat) (w p : List UInt8), w.length ≤ n → runA (w ++ p) = if (runA w).2.2.2 = true then runA w else ((runA w).1 ++ (runA ((runA w).2.2.1 ++ p)).1, (runA ((runA w).2.2.1 ++ p)).2) := by
  intro n
  induction n with
  | zero =>
    intro w p h
    obtain rfl : w = [] := by simpa using h
    rw [runA_more (show nextS [] = .more by rfl)]
    simp
  | succ n ih =>
    intro w p h
    cases hn : nextS w with
    | err e => rw [runA_err hn, runA_err (nextS_err hn p)]; rfl
    | more => rw [runA_more hn]; simp
    | got q r =>
      obtain ⟨h1, h2⟩ := nextS_got hn p
      rw [runA_got hn, runA_got h1]
      by_cases hc : q.close = true
      · rw [if_pos hc, if_pos hc]; rfl
      · rw [if_neg hc, if_neg hc, ih r p (by omega)]
        by_cases hd : (runA r).2.2.2 = true
        · rw [if_pos hd]; simp [hd]
        · simp [hd]
/-- What waits in a connection that goes on is less than a request; one that has ended holds nothing. -/
theorem runA_end : ∀ (n : Nat) (w : List UInt8), w.length ≤ n → ((runA w).2.2.2 = false → (runA w).2.1 = 0 ∧ nextS (runA w).2.2.1 = .more) ∧ ((runA w).2.2.2 = true → (runA w).2.2.1 = []) ∧ (runA w).2.2.1.length ≤ w.length ∧ (runA w).1.length * 4 ≤ w.length := by
  intro n
  induction n with
  | zero =>
    intro w h
    obtain rfl : w = [] := by simpa using h
    rw [runA_more (show nextS [] = .more by rfl)]
    exact ⟨fun _ => ⟨rfl, rfl⟩, fun h => (by cases h), Nat.le_refl _, Nat.le_refl _⟩
  | succ n ih =>
    intro w h
    cases hn : nextS w with
    | err e => rw [runA_err hn]; exact ⟨fun h => (by cases h), fun _ => rfl, Nat.zero_le _, Nat.zero_le _⟩
    | more => rw [runA_more hn]; exact ⟨fun _ => ⟨rfl, hn⟩, fun h => (by cases h), Nat.le_refl _, Nat.zero_le _⟩
    | got q r =>
      have h2 := nextS_short hn
      obtain ⟨i1, i2, i3, i4⟩ := ih r (by omega)
      rw [runA_got hn]
      by_cases hc : q.close = true
      · rw [if_pos hc]; exact ⟨fun h => (by cases h), fun _ => rfl, Nat.zero_le _, by simp; omega⟩
      · rw [if_neg hc]; exact ⟨i1, i2, by simp only; omega, by simp only [List.length_cons]; omega⟩
end Go.Proofs.YtgdfgppgfkkncaaGreatDoor
