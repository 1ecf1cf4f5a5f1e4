/- Plain laws of the reference's Head: its errors, rule by rule. -/
import Derived.Test.YtgdfgppgfkkncaaGreatDoorHr1
import Derived.Test.YtgdfgppgfkkncaaGreatDoorHtU
namespace Go.Proofs.YtgdfgppgfkkncaaGreatDoor

/-- An error, if there is none and a rule is broken. -/
def errA (e : Int) (c : Bool) (x : Int) : Int := if e = 0 ∧ c = true then x else e
theorem errA_ne {e : Int} (h : e ≠ 0) (c : Bool) (x : Int) : errA e c x = e := by unfold errA; rw [if_neg (fun h9 => h h9.1)]
theorem errA_true (x : Int) : errA 0 true x = x := rfl
theorem errA_false (e x : Int) : errA e false x = e := by unfold errA; rw [if_neg (by simp)]
/-- The length that headers tell. -/
def lenP (hs : List Hdr) : Int × Bool := match valuesS hs nLength with | [] => (0, true) | v :: _ => lengthR v
def badLen (hs : List Hdr) : Bool := !(lenP hs).2 || (decide (1 < (valuesS hs nLength).length) || !decide ((valuesS hs nHost).length = 1))
def e4S (hs : List Hdr) (e : Int) : Int := errA e (decide (0 < (valuesS hs nCoding).length)) 384
def e5S (hs : List Hdr) (e : Int) : Int := errA (e4S hs e) (badLen hs) 380
def tailE (hs : List Hdr) (e : Int) : Int := errA (e5S hs e) (decide (1048576 < (lenP hs).1)) 381
theorem tailE_ne {e : Int} (h : e ≠ 0) (hs : List Hdr) : tailE hs e = e := by
  unfold tailE e5S e4S
  rw [errA_ne h, errA_ne h, errA_ne h]
theorem tail_count (hs : List Hdr) : tailE hs 0 = (countS hs).2 ∧ ((countS hs).2 = 0 → (lenP hs).1 = ((countS hs).1 : Int)) := by
  unfold tailE e5S e4S badLen lenP countS
  cases hc : valuesS hs nCoding with
  | cons a t => simp [errA]
  | nil =>
    simp only [List.length_nil, ne_eq, not_true_eq_false, if_false]
    rw [show decide (0 < 0) = false from rfl, errA_false]
    cases hl : valuesS hs nLength with
    | nil =>
      simp only [List.length_nil]
      by_cases h1 : (valuesS hs nHost).length = 1
      · simp [errA, h1]
      · simp [errA, h1]
    | cons v t =>
      cases t with
      | cons v2 t => simp [errA]
      | nil =>
        simp only [List.length_cons, List.length_nil]
        cases hv : lengthS v with
        | none => have e := lengthR_none hv; simp [errA, e]
        | some n =>
          have e := lengthR_some hv
          by_cases h1 : (valuesS hs nHost).length = 1
          · by_cases h2 : n ≤ 1048576
            · have h3 : (n : Int) ≤ 1048576 := by omega
              simp [errA, h1, h2, h3, e]
            · have h3 : (1048576 : Int) < n := by omega
              simp [errA, h1, h2, h3, e]
          · simp [errA, h1, e]
/-- Between two rounds over the header lines. -/
def LoopH (r : List (List UInt8)) (e2 : Int) (j : Nat) (e : Int) (hs : List Hdr) : Prop :=
  j ≤ r.length ∧ hs.length ≤ j ∧ ((e = 0 ∧ e2 = 0 ∧ headersS (r.take j) = some hs) ∨ (e ≠ 0 ∧ e = e2) ∨ (e2 = 0 ∧ e = 380 ∧ headersS r = none))
theorem LoopH.zero (r : List (List UInt8)) (e2 : Int) : LoopH r e2 0 e2 [] := by
  refine ⟨Nat.zero_le _, Nat.le_refl _, ?_⟩
  by_cases h : e2 = 0
  · exact .inl ⟨h, h, rfl⟩
  · exact .inr (.inl ⟨h, rfl⟩)
theorem LoopH.ok {r : List (List UInt8)} {e2 : Int} {j : Nat} {hs : List Hdr} (h : LoopH r e2 j 0 hs) (hj : j < r.length) {d : Hdr} (hd : headerS (r.getD j []) = some d) : LoopH r e2 (j + 1) 0 (hs ++ [d]) := by
  obtain ⟨h1, h2, h3⟩ := h
  refine ⟨hj, by simp; omega, ?_⟩
  rcases h3 with ⟨_, h4, h5⟩ | ⟨h4, _⟩ | ⟨_, h4, _⟩
  · refine .inl ⟨rfl, h4, ?_⟩
    rw [List.take_add_one, List.getElem?_eq_getElem hj]
    exact headersS_snoc _ _ _ _ h5 (by simpa [List.getD, hj] using hd)
  · exact absurd rfl h4
  · cases h4
theorem LoopH.bad {r : List (List UInt8)} {e2 : Int} {j : Nat} {hs : List Hdr} (h : LoopH r e2 j 0 hs) (hj : j < r.length) (hd : headerS (r.getD j []) = none) (d : Hdr) : LoopH r e2 (j + 1) 380 (hs ++ [d]) := by
  obtain ⟨h1, h2, h3⟩ := h
  refine ⟨hj, by simp; omega, ?_⟩
  rcases h3 with ⟨_, h4, h5⟩ | ⟨h4, _⟩ | ⟨_, h4, _⟩
  · refine .inr (.inr ⟨h4, rfl, ?_⟩)
    have e := headersS_bad (r.take j) (r.getD j []) (r.drop (j + 1)) hd
    have e2 : r.take j ++ r.getD j [] :: r.drop (j + 1) = r := by
      have : r.drop j = r.getD j [] :: r.drop (j + 1) := by rw [List.drop_eq_getElem_cons hj]; congr 1; simp [List.getD, hj]
      rw [← this, List.take_append_drop]
    rw [e2] at e
    exact e
  · exact absurd rfl h4
  · cases h4
theorem head_fin {s l : List UInt8} {r : List (List UInt8)} (hs0 : endS s = s.length) (hl : ¬ 16384 < s.length) (hc : cut2 13 10 [] (s.take (s.length - 4)) = l :: r) {j : Nat} {e : Int} {hs : List Hdr}
    (hL : LoopH r (errA (firstS l).2 (decide (100 < r.length)) 382) j e hs) (hend : j = r.length ∨ e ≠ 0) :
    (tailE hs e ≠ 0 → headS s = (Req.zero, 0, tailE hs e)) ∧ (tailE hs e = 0 → (firstS l).2 = 0 ∧ headS s = (⟨(firstS l).1.1, (firstS l).1.2.1, (firstS l).1.2.2, hs, [], (valuesS hs nConn).any closesS⟩, (countS hs).1, 0) ∧ (lenP hs).1 = ((countS hs).1 : Int)) := by
  have hw := endS_whole.1 hs0
  have hh : headS s = if (firstS l).2 ≠ 0 then (Req.zero, 0, (firstS l).2) else
      if 100 < r.length then (Req.zero, 0, 382) else
      match headersS r with
      | none => (Req.zero, 0, 380)
      | some hs => if (countS hs).2 ≠ 0 then (Req.zero, 0, (countS hs).2) else
        (⟨(firstS l).1.1, (firstS l).1.2.1, (firstS l).1.2.2, hs, [], (valuesS hs nConn).any closesS⟩, (countS hs).1, 0) := by
    unfold headS
    rw [if_pos hw, if_neg hl, hc]
    rfl
  obtain ⟨h1, h2, h3⟩ := hL
  rw [hh]
  by_cases he1 : (firstS l).2 = 0
  · rw [if_neg (by simpa using he1)]
    rw [he1] at h3
    by_cases h100 : 100 < r.length
    · rw [if_pos h100]
      rw [decide_eq_true h100, errA_true] at h3
      rcases h3 with ⟨_, h4, _⟩ | ⟨h4, h5⟩ | ⟨h4, _⟩
      · cases h4
      · rw [tailE_ne h4]
        exact ⟨fun _ => by rw [h5], fun h => absurd h h4⟩
      · cases h4
    · rw [if_neg h100]
      rw [decide_eq_false h100, errA_false] at h3
      rcases h3 with ⟨h4, _, h5⟩ | ⟨h4, h5⟩ | ⟨_, h4, h5⟩
      · subst h4
        rcases hend with hend | hend
        · rw [hend, List.take_length] at h5
          rw [h5]
          simp only
          obtain ⟨t1, t2⟩ := tail_count hs
          rw [t1]
          exact ⟨fun h => by rw [if_pos h], fun h => ⟨he1, by rw [if_neg (by simpa using h)], t2 h⟩⟩
        · exact absurd rfl hend
      · exact absurd h5 h4
      · rw [h5]
        have h6 : e ≠ 0 := by rw [h4]; decide
        rw [tailE_ne h6, h4]
        exact ⟨fun _ => rfl, fun h => by cases h⟩
  · rw [if_pos he1]
    rw [errA_ne he1] at h3
    rcases h3 with ⟨_, h4, _⟩ | ⟨h4, h5⟩ | ⟨h4, _⟩
    · exact absurd h4 he1
    · rw [tailE_ne h4]
      exact ⟨fun _ => by rw [h5], fun h => absurd h h4⟩
    · exact absurd h4 he1
end Go.Proofs.YtgdfgppgfkkncaaGreatDoor
