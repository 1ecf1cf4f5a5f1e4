/- Three decimals in memory; what the laws' walks share. -/
import Derived.Test.YtkakmjdfecbhaaaGreatDoorLaw1
import Derived.Test.YtkakmjdfecbhaaaGreatDoorPla5
namespace Go.Proofs.YtkakmjdfecbhaaaGreatDoor
open Go.RowKit

/-- These blocks hold these decimals. -/
def AllAt (w : World) (l : List (Nat × Dec)) : Prop := ∀ p ∈ l, DecAt w p.1 p.2
theorem AllAt.under {w w' : World} {l : List (Nat × Dec)} (h : AllAt w l) (hb : Below w.heap.size w w') : AllAt w' l := fun p hp => (h p hp).under hb
theorem AllAt.alloc {w : World} {l : List (Nat × Dec)} (h : AllAt w l) (o : Obj) : AllAt (w.alloc o) l := fun p hp => (h p hp).alloc o
theorem AllAt.push {w : World} {l : List (Nat × Dec)} (h : AllAt w l) {b : Nat} {d : Dec} (hd : DecAt w b d) : AllAt w ((b, d) :: l) := by
  intro p hp
  rcases List.mem_cons.1 hp with rfl | hp
  · exact hd
  · exact h p hp
theorem all3 (w : World) (x a b : Dec) : AllAt (((w.alloc (.cells #[.bool x.neg, .string ⟨x.digits.toArray⟩, .int .i64 x.exp] 24)).alloc (.cells #[.bool a.neg, .string ⟨a.digits.toArray⟩, .int .i64 a.exp] 24)).alloc (.cells #[.bool b.neg, .string ⟨b.digits.toArray⟩, .int .i64 b.exp] 24)) [(w.heap.size, x), (w.heap.size + 1, a), (w.heap.size + 1 + 1, b)] := by
  intro p hp
  simp only [List.mem_cons, List.not_mem_nil, or_false] at hp
  rcases hp with rfl | rfl | rfl
  · exact ((DecAt.at w x _ rfl).alloc _).alloc _
  · exact (DecAt.at (w.alloc _) a _ (by simp)).alloc _
  · exact DecAt.at _ b _ (by simp)
theorem below3 (w : World) (x a b : Dec) : Below w.heap.size w (((w.alloc (.cells #[.bool x.neg, .string ⟨x.digits.toArray⟩, .int .i64 x.exp] 24)).alloc (.cells #[.bool a.neg, .string ⟨a.digits.toArray⟩, .int .i64 a.exp] 24)).alloc (.cells #[.bool b.neg, .string ⟨b.digits.toArray⟩, .int .i64 b.exp] 24)) :=
  (((Below.refl _ _).alloc (Nat.le_refl _) _).alloc (by simp) _).alloc (by simp; omega) _
theorem size3 (w : World) (x a b : Dec) : (((w.alloc (.cells #[.bool x.neg, .string ⟨x.digits.toArray⟩, .int .i64 x.exp] 24)).alloc (.cells #[.bool a.neg, .string ⟨a.digits.toArray⟩, .int .i64 a.exp] 24)).alloc (.cells #[.bool b.neg, .string ⟨b.digits.toArray⟩, .int .i64 b.exp] 24)).heap.size = w.heap.size + 1 + 1 + 1 := by simp
theorem DecsRaw.three (w : World) (x a b : Dec) (hx : x.digits.length ≤ maxLen) (ha : a.digits.length ≤ maxLen) (hb : b.digits.length ≤ maxLen) :
    DecsRaw (w.alloc (.cells #[.bool x.neg, .string ⟨x.digits.toArray⟩, .int .i64 x.exp, .bool a.neg, .string ⟨a.digits.toArray⟩, .int .i64 a.exp, .bool b.neg, .string ⟨b.digits.toArray⟩, .int .i64 b.exp] 24)) (.slice (some ⟨w.heap.size, 0, none⟩) 3 3) [x, a, b] := by
  refine ⟨_, 3, rfl, by simp [maxLen], fun j hj => ?_, fun _ => ⟨w.heap.size, 0, rfl, by simp, fun j hj => ?_⟩⟩
  · have hj : j = 0 ∨ j = 1 ∨ j = 2 := by simp at hj; omega
    rcases hj with rfl | rfl | rfl
    · exact hx
    · exact ha
    · exact hb
  · have hj : j = 0 ∨ j = 1 ∨ j = 2 := by simp at hj; omega
    rcases hj with rfl | rfl | rfl
    all_goals
      refine ⟨?_, ?_, ?_⟩
      all_goals rw [World.cell?_alloc_at _ _ _ _ rfl]; rfl
theorem longB_three {x a b : Dec} (h : longB [x, a, b] = false) : x.digits.length ≤ 1000 ∧ a.digits.length ≤ 1000 ∧ b.digits.length ≤ 1000 := by
  simp [longB] at h; omega
theorem may_len1 {d : Dec} (h : mayB d = true) : d.digits.length ≤ 1000 := by have := (may_bounds h).2.1; omega
theorem madeS_len (s : Bool) (l : List UInt8) (e : Int) : (madeS s l e).1.digits.length ≤ 1000 := by
  unfold madeS
  split
  · simp [Dec.zero]
  · split
    · rename_i h; exact may_len1 h
    · simp [Dec.zero]
theorem common_len (a b : Dec) : (commonS a b).1.digits.length ≤ 1000 := by
  unfold commonS
  split
  · exact madeS_len _ _ _
  · simp [Dec.zero]
theorem mul_len (a b : Dec) : (mulS a b).1.digits.length ≤ 1000 := by
  unfold mulS
  split
  · exact madeS_len _ _ _
  · simp [Dec.zero]
theorem sum_len (ds : List Dec) : (sumS ds).1.digits.length ≤ 1000 := by
  unfold sumS
  split
  · exact madeS_len _ _ _
  · simp [Dec.zero]
theorem mul_some (x c : Dec) : ∃ z l, mulS x c = (z, l) ∧ z.digits.length ≤ 1000 ∧ (l = 0 ∨ l ≠ 0) := ⟨_, _, rfl, mul_len x c, by omega⟩
theorem shares_all (x a b : Dec) : (commonS a b).2 = 0 → (posB (commonS a b).1 = true ∧ commonS b a = ((commonS a b).1, 0) ∧ multipleS (commonS a b).1 a = (true, 0) ∧ multipleS (commonS a b).1 b = (true, 0) ∧ (mayB x = true → ∃ p q, multipleS x a = (p, 0) ∧ multipleS x b = (q, 0) ∧ multipleS x (commonS a b).1 = (p && q, 0) ∧ (0 ≤ x.exp → (mulS x (commonS a b).1).2 = 0 → multipleS (mulS x (commonS a b).1).1 a = (true, 0)))) := by
  intro h
  refine ⟨(common_val h low_ok).1, ?_, (common_shares h).1, (common_shares h).2, fun hx => ?_⟩
  · rw [common_flip b a, ← h]
  · obtain ⟨p, q, h1, h2, h3⟩ := shares_met h hx
    exact ⟨p, q, h1, h2, h3, fun hw hz => shares_times h hx hw hz⟩
end Go.Proofs.YtkakmjdfecbhaaaGreatDoor
