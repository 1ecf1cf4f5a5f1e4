/- Pieces of bytes as an argument, and their bulk. -/
import Derived.Test.YtgdfgppgfkkncaaGreatDoorHtOp3
import Derived.Test.YtgdfgppgfkkncaaGreatDoorHqL
namespace Go.Proofs.YtgdfgppgfkkncaaGreatDoor
open Go.ChangeShapes Go.WideShapes Go.ChangeAt Go.RowKit

/-- How many bytes pieces have. -/
def pcsN (ps : List (Value × List UInt8)) : Nat := (ps.map (fun q => q.2.length)).sum
theorem sum_map_le (f g : Nat → Nat) : ∀ (l : List Nat), (∀ i ∈ l, f i ≤ g i) → (l.map f).sum ≤ (l.map g).sum
  | [], _ => by simp
  | a :: l, h => by
    have h1 := sum_map_le f g l (fun i hi => h i (by simp [hi]))
    have h2 := h a (by simp)
    simp only [List.map_cons, List.sum_cons]
    omega
theorem cells1 : Tryz.prog.cellsOf 23 = 1 := by kernel_rfl
set_option maxRecDepth 100000 in
/-- Pieces as an argument. -/
theorem open_pcs {H : Type} {enc : TypeId × Value → H} {W : World} {r : Reach} {b0 base : Nat} {sp : Nat → Bool} {held : Bool} {v : Value} {x : DataW H} {p : List MemPlace}
    (hv : Value.okWide Tryz.prog W r b0 22 v) (h : DataW.Trod enc Tryz.prog W base sp held 22 v x p) : ∃ ps, PcsS W v ps ∧ pcsN ps ≤ Rows.uptoBulk x := by
  obtain ⟨a, len, cap, rfl⟩ := okWide_slice Tryz.underlying22 hv
  obtain ⟨fuel, hf⟩ := h
  have hc : Cell.okWide Tryz.prog W r b0 22 (.slice a len cap) := by
    simp only [Value.okWide, Tryz.underlying22] at hv
    exact hv
  rcases Deep.open_slice Tryz.underlying22 hf with ⟨hn, _⟩ | ⟨a, len, cap, m, k, D, Pl, hcs, _, hl, hm, hmm, hxx, hx⟩
  · simp only [Value.cells, List.cons.injEq, and_true] at hn
    exact ⟨[], ⟨none, 0, hn, Nat.le_refl _, Nat.zero_le _, fun h => by simp at h, by simp⟩, by simp [pcsN]⟩
  · simp only [Value.cells, List.cons.injEq, and_true] at hcs
    rw [hcs] at hc ⊢
    simp only [Cell.okWide, Cell.ok, Tryz.underlying22, World.has] at hc
    obtain ⟨_, _, _, hs, row, cells, hsh, _⟩ := hc
    obtain ⟨b, off, s⟩ := a
    simp only at hs hsh
    subst hs
    simp only [Prod.mk.injEq] at hxx
    have hlm : len ≤ m := by rw [hmm]; split <;> omega
    have key : ∀ i, i < m → ∃ q : Value × List UInt8, W.cell? ⟨b, off + i, none⟩ = some q.1 ∧ BytG W q.1 q.2 ∧ q.2.length + 1 ≤ Rows.uptoBulk (D i) := by
      intro i hi
      obtain ⟨cs', h1, h2⟩ := hx i hi
      rw [cells1] at h1
      obtain ⟨_, h3, h4⟩ := World.cells?_some h1
      obtain ⟨v, l, rfl, h5, h6⟩ := cell_bytG h2
      refine ⟨(v, l), ?_, h5, h6⟩
      have := h4 0 (by omega)
      rw [add_zero, addr_off rfl, Nat.mul_one] at this
      simpa using this
    haveI : Inhabited (Value × List UInt8) := ⟨(.nilIface, [])⟩
    obtain ⟨f, hf⟩ := Deep.choose_lt key
    have hlen : ((List.range len).map f).length = len := by simp
    refine ⟨(List.range len).map f, ⟨some ⟨b, off, none⟩, cap, by rw [hlen], by omega, by omega, fun h0 => ⟨b, off, rfl, ?_, fun j q hq => ?_⟩, fun q hq => ?_⟩, ?_⟩
    · unfold World.shape? at hsh
      rcases Nat.lt_or_ge b W.heap.size with h9 | h9
      · exact h9
      · rw [Array.getElem?_eq_none h9] at hsh; cases hsh
    · have hj : j < len := by have := (List.getElem?_eq_some_iff.1 hq).1; omega
      have e : q = f j := by
        rw [List.getElem?_map, List.getElem?_range hj] at hq
        simpa using hq.symm
      subst e
      exact (hf j (by omega)).1
    · obtain ⟨j, hj, rfl⟩ := List.mem_map.1 hq
      have hj := List.mem_range.1 hj
      exact (hf j (by omega)).2.1
    · have key2 : pcsN ((List.range len).map f) ≤ Rows.uptoBulkAll ((List.range len).map D) := by
        unfold pcsN
        rw [bulk_all, List.map_map, List.map_map]
        refine sum_map_le _ _ _ (fun i hi => ?_)
        have hi := List.mem_range.1 hi
        have := (hf i (by omega)).2.2
        simp only [Function.comp]
        omega
      rw [hxx.1]
      simp only [Rows.uptoBulk]
      omega
end Go.Proofs.YtgdfgppgfkkncaaGreatDoor
