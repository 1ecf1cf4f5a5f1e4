/- Arguments of HTTP's laws: bytes. -/
import Derived.Test.YtgdfgppgfkkncaaGreatDoorHtFrm
namespace Go.Proofs.YtgdfgppgfkkncaaGreatDoor
open Go.ChangeShapes Go.WideShapes Go.ChangeAt Go.RowKit

set_option maxRecDepth 100000
theorem laid_out : laidOutB Tryz.prog = true := by kernel_rfl
theorem cellsU8 : Tryz.prog.cellsOf 5 = 1 := by kernel_rfl
theorem cell_byts {H : Type} {enc : TypeId × Value → H} {W : World} {r : Reach} {b0 base : Nat} {sp : Nat → Bool} {held : Bool} {n : Nat} {v : Value} {y : DataW H × List MemPlace}
    (hv : Cell.okWide Tryz.prog W r b0 23 v) (h : DataW.trod enc Tryz.prog W base sp held n 23 [v] = some y) : ∃ l, BytS W v l := by
  rcases Go.ChangeShapes.open_ints Tryz.underlying23 Tryz.underlying5 cellsU8 h with ⟨hn, _⟩ | ⟨a, len, cap, zs, hc, _, hl, hm, hlen, _, hcell, hwf⟩
  · simp only [List.cons.injEq, and_true] at hn
    exact ⟨[], .inl ⟨hn, rfl⟩⟩
  · simp only [List.cons.injEq, and_true] at hc
    subst hc
    simp only [Cell.okWide, Cell.ok, Tryz.underlying23, World.has] at hv
    obtain ⟨_, _, _, hs, row, cells, hsh, _⟩ := hv
    obtain ⟨b, off, s⟩ := a
    simp only at hs hsh
    subst hs
    have hzl : len ≤ zs.length := by rw [hlen]; split <;> omega
    have hll : ((zs.take len).map (fun z : Int => UInt8.ofNat z.toNat)).length = len := by simp; omega
    refine ⟨(zs.take len).map (fun z => UInt8.ofNat z.toNat), .inr ⟨b, off, cap, by rw [hll], by omega, by omega, ?_, fun j hj => ?_⟩⟩
    · unfold World.shape? at hsh
      rcases Nat.lt_or_ge b W.heap.size with h9 | h9
      · exact h9
      · rw [Array.getElem?_eq_none h9] at hsh; cases hsh
    · rw [hll] at hj
      have h1 := hcell j (by omega)
      rw [addr_off rfl] at h1
      rw [h1]
      have hz : (zs.getD j 0) ∈ zs := by
        rw [List.getD_eq_getElem?_getD, List.getElem?_eq_getElem (show j < zs.length by omega)]
        exact List.getElem_mem _
      have hw := hwf _ hz
      obtain ⟨z, hzz⟩ : ∃ z, zs.getD j 0 = z := ⟨_, rfl⟩
      have e9 : ((zs.take len).map (fun z : Int => UInt8.ofNat z.toNat)).getD j 0 = UInt8.ofNat z.toNat := by
        rw [← hzz]
        simp [hj, List.getElem?_eq_getElem (show j < zs.length by omega)]
      rw [e9, hzz]
      rw [hzz] at hw
      have hb : 0 ≤ z ∧ z < 256 := by
        simp [Lit.wf, IntKind.min, IntKind.max, IntKind.signed, IntKind.bits] at hw
        omega
      have e8 : ((UInt8.ofNat z.toNat).toNat : Int) = z := by
        rw [UInt8.toNat_ofNat_of_lt' (by show z.toNat < 256; omega)]
        omega
      rw [e8]
/-- A reply as an argument: bytes, and an error's number. -/
theorem open_reply {H : Type} {enc : TypeId × Value → H} {W : World} {r : Reach} {b0 base : Nat} {sp : Nat → Bool} {held : Bool} {v : Value} {x : DataW H} {p : List MemPlace}
    (hv : Value.okWide Tryz.prog W r b0 54 v) (h : DataW.Trod enc Tryz.prog W base sp held 54 v x p) : ∃ bv l e, v = .agg #[bv, .int .i64 e] ∧ BytS W bv l := by
  have hv2 := hv
  obtain ⟨v0, v1, y0, y1, n, rfl, rfl, rfl, h0, h1⟩ := Joins.open_agg2 Tryz.underlying54 (by kernel_rfl) (by kernel_rfl) hv h
  obtain ⟨z, hz, _, _⟩ := DataW.trod_int Tryz.underlying30 h1
  simp only [List.cons.injEq, and_true] at hz
  subst hz
  have hc : Cell.okWide Tryz.prog W r b0 23 v0 := by
    simp only [Value.okWide, Tryz.underlying54] at hv2
    obtain ⟨cs, hcs, _, ts, hts, _, hall⟩ := hv2
    cases hcs
    rw [show Tryz.prog.cellTypes Tryz.prog.depth 54 = some [23, 30] by kernel_rfl] at hts
    cases hts
    obtain ⟨u, hu, hok⟩ := hall 0 v0 rfl
    cases hu
    exact hok
  obtain ⟨l, hl⟩ := cell_byts hc h0
  exact ⟨v0, l, z, rfl, hl⟩
end Go.Proofs.YtgdfgppgfkkncaaGreatDoor
