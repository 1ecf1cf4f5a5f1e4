/- Arguments of HTTP's laws: bytes and numbers by themselves. -/
import Derived.Test.YtgdfgppgfkkncaaGreatDoorHtOpn
import Derived.Test.YtgdfgppgfkkncaaGreatDoorHtG
namespace Go.Proofs.YtgdfgppgfkkncaaGreatDoor
open Go.ChangeShapes Go.WideShapes Go.ChangeAt Go.RowKit

set_option maxRecDepth 100000
theorem cellsInt : Tryz.prog.cellsOf 3 = 1 := by kernel_rfl
theorem open_byts {H : Type} {enc : TypeId × Value → H} {W : World} {r : Reach} {b0 base : Nat} {sp : Nat → Bool} {held : Bool} {v : Value} {x : DataW H} {p : List MemPlace}
    (hv : Value.okWide Tryz.prog W r b0 23 v) (h : DataW.Trod enc Tryz.prog W base sp held 23 v x p) : ∃ l, BytS W v l := by
  obtain ⟨a, len, cap, rfl⟩ := okWide_slice Tryz.underlying23 hv
  obtain ⟨fuel, hf⟩ := h
  have hc : Cell.okWide Tryz.prog W r b0 23 (.slice a len cap) := by
    simp only [Value.okWide, Tryz.underlying23] at hv
    exact hv
  exact cell_byts hc hf
theorem open_nums {H : Type} {enc : TypeId × Value → H} {W : World} {r : Reach} {b0 base : Nat} {sp : Nat → Bool} {held : Bool} {v : Value} {x : DataW H} {p : List MemPlace}
    (hv : Value.okWide Tryz.prog W r b0 49 v) (h : DataW.Trod enc Tryz.prog W base sp held 49 v x p) : ∃ l, IntS W v l := by
  obtain ⟨a, len, cap, rfl⟩ := okWide_slice Tryz.underlying49 hv
  obtain ⟨fuel, hf⟩ := h
  have hc : Cell.okWide Tryz.prog W r b0 49 (.slice a len cap) := by
    simp only [Value.okWide, Tryz.underlying49] at hv
    exact hv
  rcases Go.ChangeShapes.open_ints Tryz.underlying49 Tryz.underlying3 cellsInt hf with ⟨hn, _⟩ | ⟨a, len, cap, zs, hc2, _, hl, hm, hlen, _, hcell, hwf⟩
  · simp only [Value.cells, List.cons.injEq, and_true] at hn
    exact ⟨[], .inl ⟨hn, rfl⟩⟩
  · simp only [Value.cells, List.cons.injEq, and_true] at hc2
    rw [hc2] at hc ⊢
    simp only [Cell.okWide, Cell.ok, Tryz.underlying49, World.has] at hc
    obtain ⟨_, _, _, hs, row, cells, hsh, _⟩ := hc
    obtain ⟨b, off, s⟩ := a
    simp only at hs hsh
    subst hs
    have hzl : len ≤ zs.length := by rw [hlen]; split <;> omega
    have hll : (zs.take len).length = len := by simp; omega
    refine ⟨zs.take len, .inr ⟨b, off, cap, by rw [hll], by omega, ?_, fun j hj => ?_⟩⟩
    · unfold World.shape? at hsh
      rcases Nat.lt_or_ge b W.heap.size with h9 | h9
      · exact h9
      · rw [Array.getElem?_eq_none h9] at hsh; cases hsh
    · rw [hll] at hj
      have h1 := hcell j (by omega)
      rw [addr_off rfl] at h1
      rw [h1]
      simp [hj]
end Go.Proofs.YtgdfgppgfkkncaaGreatDoor
