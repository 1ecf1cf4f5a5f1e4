/- A copy with a spare byte behind it: what several laws of HTTP make of their argument. -/
import Derived.Test.YtgdfgppgfkkncaaGreatDoorHtS
namespace Go.Proofs.YtgdfgppgfkkncaaGreatDoor
open Go.RowKit

/-- A copy with a spare byte behind. -/
def SpareV (w : World) (B : Nat) (m : Value) (l : List UInt8) : Prop :=
  ∃ g off cap, m = .slice (some ⟨g, off, none⟩) l.length cap ∧ WaitV w B (.slice (some ⟨g, off, none⟩) (l.length + 1) cap) (l ++ [165])
theorem SpareV.byts {w : World} {B g off cap : Nat} {l : List UInt8} (h : WaitV w B (.slice (some ⟨g, off, none⟩) (l.length + 1) cap) (l ++ [165])) : BytS w (.slice (some ⟨g, off, none⟩) l.length cap) l ∧ w.cell? ⟨g, off + l.length, none⟩ = some (.int .u8 165) ∧ l.length + 1 ≤ cap ∧ B ≤ g ∧ g < w.heap.size := by
  have h1 : WaitV w B (.slice (some ⟨g, off, none⟩) (l ++ [165]).length cap) (l ++ [165]) := by rw [List.length_append]; exact h
  have h2 := WaitV.take h1 l.length (by simp)
  have h3 := WaitV.at h1 l.length (by simp)
  rw [List.take_left'] at h2
  · refine ⟨h2, by rw [h3]; simp, ?_, WaitV.lt h1 rfl⟩
    obtain ⟨p, c, he, hc, _⟩ := WaitV.form h1
    cases he
    simpa using hc
  · rfl
theorem WaitV.le {w : World} {B B' : Nat} {v : Value} {l : List UInt8} (h : WaitV w B v l) (hb : B' ≤ B) : WaitV w B' v l := by
  rcases h with h | ⟨g, off, cap, h1, h2, h3⟩
  · exact .inl h
  · exact .inr ⟨g, off, cap, h1, Nat.le_trans hb h2, h3⟩
theorem waitV_empty (w : World) (fz : Nat × Nat) : WaitV (w.alloc (.cells #[] 5 fz)) w.heap.size (.slice (some ⟨w.heap.size, 0, none⟩) 0 0) [] :=
  .inr ⟨w.heap.size, 0, 0, rfl, Nat.le_refl _, by simp, Nat.le_refl _, Nat.zero_le _, fun j hj => by simp at hj, fun j hj => by omega, fun j hj => by omega⟩
theorem byts_one (w : World) : BytS (w.alloc (.cells #[.int .u8 165] 5)) (.slice (some ⟨w.heap.size, 0, none⟩) 1 1) [165] := byts_lit w [165] 1 (0, 0) (by decide) (by decide)
/-- 'append(wait, x...)' as one operation. -/
theorem oper_append_wait {w : World} {o : Oper} {a : Act} {Q : Exit → Act → World → Prop} {K : Act → World → Prop} (s x : Operand)
    (ho : o.op = .call { callee := .builtin .append, args := #[s, x], argTypes := #[23, 23] })
    (B : Nat) (v xv : Value) (l m : List UInt8) (hs : a.eval s = v) (hv : WaitV w B v l) (hx : a.eval x = xv) (hxv : BytS w xv m) (hlen : l.length + m.length ≤ 100000000) (hB : B ≤ w.heap.size)
    (hK : ∀ v' w', WaitV w' B v' (l ++ m) → w.grownBy w' v.ownBlock → (∀ k, v'.ownBlock = some k → v.ownBlock = some k ∨ w.heap.size ≤ k) → K (a.put o.dst v') w') :
    Oper.wp Tryz.prog o a w K Q := by
  obtain ⟨v', w', hrun, h1, h2, h3⟩ := run_append_wait w o.type hv hxv hlen hB
  unfold Oper.wp
  simp [execOp, ho, resolve, invoke, builtin, hs, hx, hrun, Result.andThen]
  exact hK _ _ h1 h2 h3
end Go.Proofs.YtgdfgppgfkkncaaGreatDoor
