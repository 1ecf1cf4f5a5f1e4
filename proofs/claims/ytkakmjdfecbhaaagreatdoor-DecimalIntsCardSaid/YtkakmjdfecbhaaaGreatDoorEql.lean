/- '==' and '!=' between two decimals. -/
import Derived.Test.YtkakmjdfecbhaaaGreatDoorLaw1
namespace Go.Proofs.YtkakmjdfecbhaaaGreatDoor
open Go.RowKit

theorem Dec.ext' {a b : Dec} (h1 : a.neg = b.neg) (h2 : a.digits = b.digits) (h3 : a.exp = b.exp) : a = b := by
  obtain ⟨_, _, _⟩ := a; obtain ⟨_, _, _⟩ := b; simp_all
/-- Are they one? -/
def sameB (a b : Dec) : Bool := a.neg == b.neg && (a.digits == b.digits && a.exp == b.exp)
theorem sameB_iff (a b : Dec) : sameB a b = true ↔ a = b := by
  simp only [sameB, Bool.and_eq_true, beq_iff_eq]
  exact ⟨fun ⟨h1, h2, h3⟩ => Dec.ext' h1 h2 h3, fun h => by subst h; exact ⟨rfl, rfl, rfl⟩⟩
theorem run_eql_dec (a b : Dec) (w : World) : (binOp .eql 24 (.agg #[.bool a.neg, .string ⟨a.digits.toArray⟩, .int .i64 a.exp]) (.agg #[.bool b.neg, .string ⟨b.digits.toArray⟩, .int .i64 b.exp])).run Tryz.prog w = .ok (.bool (sameB a b)) w := by
  have := Tryz.underlying24
  have := Tryz.underlying4
  have := Tryz.underlying9
  have := Tryz.underlying3
  go_simp
  unfold sameB
  by_cases h1 : a.neg = b.neg
  · by_cases h2 : a.digits = b.digits
    · by_cases h3 : a.exp = b.exp
      · simp [h1, h2, h3]
      · simp [h1, h2, h3]
    · simp [h1, h2]
  · simp [h1]
theorem run_neq_dec (a b : Dec) (w : World) : (binOp .neq 24 (.agg #[.bool a.neg, .string ⟨a.digits.toArray⟩, .int .i64 a.exp]) (.agg #[.bool b.neg, .string ⟨b.digits.toArray⟩, .int .i64 b.exp])).run Tryz.prog w = .ok (.bool (!sameB a b)) w := by
  have := Tryz.underlying24
  have := Tryz.underlying4
  have := Tryz.underlying9
  have := Tryz.underlying3
  go_simp
  unfold sameB
  by_cases h1 : a.neg = b.neg
  · by_cases h2 : a.digits = b.digits
    · by_cases h3 : a.exp = b.exp
      · simp [h1, h2, h3]
      · simp [h1, h2, h3]
    · simp [h1, h2]
  · simp [h1]
end Go.Proofs.YtkakmjdfecbhaaaGreatDoor
