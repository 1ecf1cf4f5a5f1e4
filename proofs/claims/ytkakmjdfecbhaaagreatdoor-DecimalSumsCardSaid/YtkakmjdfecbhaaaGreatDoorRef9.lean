/- The walk of the reference's gcd: over any world. -/
import Derived.Test.YtkakmjdfecbhaaaGreatDoorRef8
import Derived.Test.YtkakmjdfecbhaaaGreatDoorRef7
namespace Go.Proofs.YtkakmjdfecbhaaaGreatDoor
open Go.RowKit

set_option maxHeartbeats 1000000 in
set_option maxRecDepth 100000 in
theorem gcdR_calls (w : World) (x0 y0 N : Nat) (hN : N ≤ 1000000) (hx0 : x0 < 10 ^ N) (hy0 : y0 < 10 ^ N) :
    Calls Tryz.prog 47 #[.string ⟨(digS x0).toArray⟩, .string ⟨(digS y0).toArray⟩] w fun e w' => e = .returned (.string ⟨(digS (Nat.gcd x0 y0)).toArray⟩) ∧ Below w.heap.size w w' := by
  have Hx0 := Lib.hid hx0
  have Hy0 := Lib.hid hy0
  clear hx0 hy0
  go_enter Tryz.func47, Tryz.ntmps47
  go_wp2_with fail
  have hb0 := Below.refl w.heap.size w
  go_loopg [0, 1] y0 (fun k s t wr => ∃ x y : Nat, k = y ∧ s = .string ⟨(digS x).toArray⟩ ∧ t = .string ⟨(digS y).toArray⟩ ∧ Nat.gcd x y = Nat.gcd x0 y0 ∧ Hid (x < 10 ^ N) ∧ Hid (y < 10 ^ N) ∧ Below w.heap.size w wr)
  case atStart => exact ⟨x0, y0, rfl, rfl, rfl, rfl, Hx0, Hy0, hb0⟩
  case round =>
    obtain ⟨x, y, hk, rfl, rfl, hg, Hx, Hy, hbel⟩ := hrel
    have Hk := Lib.hid hk
    have Hg := Lib.hid hg
    clear hk hg hb0
    by_cases h : y = 0
    · subst h
      have Hf : Hid (Nat.gcd x0 y0 = x) := by show _ = _; rw [← Hg.out, Nat.gcd_zero_right]
      rw [show digS 0 = [] from rfl]
      clear Hg
      go_wp2_with fail
      go_ret
      exact ⟨by rw [Hf.out]; rfl, hbel⟩
    · have hy1 := digS_dig y
      have hx1 := digS_dig x
      have hlx := digS_len_le Hx.out
      have hly := digS_len_le Hy.out
      have Hx1 := Lib.hid hx1
      have Hy1 := Lib.hid hy1
      obtain ⟨c, t, hct⟩ : ∃ c t, digS y = c :: t := by
        obtain ⟨c, t, h1, _⟩ := digS_cons h
        exact ⟨c, t, h1⟩
      have Hct := Lib.hid hct
      have hyp : 0 < y := by omega
      clear hx1 hy1
      rw [hct] at hly ⊢
      clear hct
      go_wp2_with fail
      rw [← Hct.out]
      refine (divR_calls wr (digS x) (digS y) Hx1.out.1 Hy1.out.1 Hy1.out.2.2 (by rw [Hy1.out.2.1]; exact hyp) (by omega) (by rw [Hct.out]; omega)).mono ?_
      rintro e w1 ⟨rfl, hb1⟩
      rw [Hx1.out.2.1, Hy1.out.2.1]
      have hmod : x % y < y := Nat.mod_lt _ hyp
      have Hmod := Lib.hid hmod
      have Hm2 : Hid (x % y < 10 ^ N) := Nat.lt_trans hmod Hy.out
      have Hg2 : Hid (Nat.gcd y (x % y) = Nat.gcd x0 y0) := by show _ = _; rw [← Hg.out, Nat.gcd_comm x y, Nat.gcd_rec y x, Nat.gcd_comm]
      have hbel2 := hbel.trans (hb1.mono hbel.size)
      clear hmod hb1 hbel Hg
      generalize x % y = r at *
      rw [Hct.out]
      go_wp2_with fail
      go_roundg r
      case measure => have h1 := Hk.out; have h2 := Hmod.out; omega
      case rel => exact ⟨y, r, rfl, by rw [Hct.out], rfl, Hg2.out, Hy, Hm2, hbel2⟩
end Go.Proofs.YtkakmjdfecbhaaaGreatDoor
