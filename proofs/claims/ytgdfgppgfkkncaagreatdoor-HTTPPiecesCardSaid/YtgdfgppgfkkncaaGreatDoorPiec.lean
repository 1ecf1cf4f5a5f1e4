/- The walk of HTTPPieces: over any world. Printed by gen_pieces.py. -/
import Derived.Test.YtgdfgppgfkkncaaGreatDoorHtG
namespace Go.Proofs.YtgdfgppgfkkncaaGreatDoor
open Go.RowKit

set_option maxHeartbeats 4000000 in
set_option maxRecDepth 100000 in
theorem httpPieces_calls (w : World) (he : Env w) (bv cv : Value) (b : List UInt8) (zs : List Int) (hb : BytS w bv b) (hc : IntS w cv zs) :
    Calls Tryz.prog 6 #[bv, cv] w fun e w' => e = .returned (.bool true) ∧ Below w.heap.size w w' := by
  obtain ⟨pb, cb, rfl, hcb, hmb, _⟩ := hb.open
  obtain ⟨pz, cz, rfl, hcz, _⟩ := hc.form
  have He := Lib.hid he
  have HB := Lib.hid hb
  have HC := Lib.hid hc
  clear he hb hc
  go_enter Tryz.func6, Tryz.ntmps6
  by_cases hbig : 40000 < b.length
  ·
    have hb2 : (40000 : Int) < b.length := by omega
    go_wp2_with fail
    refine (works_calls w He.out).mono ?_
    rintro e w2 ⟨rfl, hb⟩
    go_wp2_with fail
    go_ret
    exact ⟨rfl, hb⟩
  have hb2 : ¬ (40000 : Int) < b.length := by omega
  by_cases hbig2 : 300 < zs.length
  ·
    have hb3 : (300 : Int) < zs.length := by omega
    go_wp2_with fail
    refine (works_calls w He.out).mono ?_
    rintro e w2 ⟨rfl, hb⟩
    go_wp2_with fail
    go_ret
    exact ⟨rfl, hb⟩
  have hb3 : ¬ (300 : Int) < zs.length := by omega
  go_wp2_with fail
  obtain ⟨⟨R1, R2, R3, R4⟩, hR⟩ : ∃ R, runA b = R := ⟨_, rfl⟩
  have HR := Lib.hid hR
  clear hR
  refine (all_calls w He.out _ _ b [] HB.out (.inl ⟨rfl, rfl⟩) (by omega) (by simp)).mono ?_
  rintro e1 w1 ⟨⟨x1, rs1, rfl, hr1, hm1⟩, hb1⟩
  rw [HR.out] at hm1 ⊢
  have HR1 := Lib.hid hr1
  have HM1 := Lib.hid hm1
  have HB1 := Lib.hid hb1
  clear hr1 hm1 hb1
  go_wp2_with fail
  refine (all_calls w1 (He.out.below HB1.out) _ _ b zs (HB.out.below HB1.out) (HC.out.below HB1.out) (by omega) (by omega)).mono ?_
  rintro e2 w2 ⟨⟨x2, rs2, rfl, hr2, hm2⟩, hb2⟩
  rw [HR.out] at hm2 ⊢
  have HR2 := Lib.hid hr2
  have HM2 := Lib.hid hm2
  have HB2 := Lib.hid hb2
  clear hr2 hm2 hb2
  go_wp2_with fail
  refine (lists_true w2 x1 x2 rs1 rs2 (HR1.out.below HB2.out) HR2.out (HM1.out.trans HM2.out.symm)).mono ?_
  rintro e3 w3 ⟨rfl, hb3⟩
  have HB3 := Lib.hid ((HB1.out.trans (HB2.out.mono HB1.out.size)).trans (hb3.mono (Nat.le_trans HB1.out.size HB2.out.size)))
  clear hb3
  go_wp2_with fail
  refine (works_calls w3 (He.out.below HB3.out)).mono ?_
  rintro e4 w4 ⟨rfl, hb4⟩
  go_wp2_with fail
  go_ret
  exact ⟨rfl, HB3.out.trans (hb4.mono HB3.out.size)⟩
end Go.Proofs.YtgdfgppgfkkncaaGreatDoor
