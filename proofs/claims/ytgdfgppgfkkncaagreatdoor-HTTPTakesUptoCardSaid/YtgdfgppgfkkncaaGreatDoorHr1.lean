/- The walks of the reference's small functions: digit, End, length, trim, small, closes. -/
import Derived.Test.YtgdfgppgfkkncaaGreatDoorHtB
import Derived.Test.YtgdfgppgfkkncaaGreatDoorHrM
namespace Go.Proofs.YtgdfgppgfkkncaaGreatDoor
open Go.RowKit

set_option maxRecDepth 100000 in
theorem digitR_calls (w : World) (c : UInt8) : Calls Tryz.prog 83 #[.int .u8 (c.toNat : Int)] w fun e w' => e = .returned (.bool (dgB c)) ∧ w = w' := by
  have hc := c.toNat_lt
  go_enter Tryz.func83, Tryz.ntmps83
  go_wp2
  all_goals
    go_ret
    refine ⟨?_, rfl⟩
    refine congrArg (fun b => Ending.returned (Value.bool b)) ?_
    show (_ : Bool) = _
    unfold dgB
    rw [Bool.eq_iff_iff]
    simp
    try omega
theorem noOcc_zero (s : List UInt8) : Lib.NoOcc s ends 0 := fun j hj => by omega
set_option maxRecDepth 100000 in
set_option maxHeartbeats 1000000 in
theorem endR_calls (w : World) (s : List UInt8) (hl : s.length ≤ 1000000000) : Calls Tryz.prog 37 #[.string ⟨s.toArray⟩] w fun e w' => e = .returned (.int .i64 (endS s)) ∧ w = w' := by
  go_enter Tryz.func37, Tryz.ntmps37
  go_wp2_with fail
  go_loopg [3] s.length (fun k i wr => ∃ j : Nat, k = s.length - j ∧ j ≤ s.length ∧ i = .int .i64 j ∧ Lib.NoOcc s ends j ∧ w = wr)
  case atStart => exact ⟨0, rfl, by omega, rfl, noOcc_zero s, rfl⟩
  case round =>
    obtain ⟨j, hk, hj, rfl, hn, rfl⟩ := hrel
    have Hk := Lib.hid hk
    have Hn := Lib.hid hn
    clear hk hn
    by_cases hlt : j + 4 ≤ s.length
    · have hlt' : (j : Int) + 4 ≤ s.length := by omega
      have hext : (⟨s.toArray⟩ : ByteArray).extract j (j + 4) = ⟨((s.drop j).take 4).toArray⟩ := by rw [Lib.extract_eq]; show (⟨((s.drop j).take _).toArray⟩ : ByteArray) = _; rw [Nat.add_sub_cancel_left]
      obtain ⟨p, hp⟩ : ∃ p, (s.drop j).take 4 = p := ⟨_, rfl⟩
      rw [hp] at hext
      have Hp := Lib.hid hp
      clear hp
      by_cases he : p = [13, 10, 13, 10]
      · have he' : (p == [13, 10, 13, 10]) = true := by rw [he]; rfl
        have HF := Lib.hid (endS_hit Hn.out hlt (Hp.out.trans he))
        clear he
        go_wp2_with fail
        go_ret
        exact ⟨by rw [HF.out]; rfl, rfl⟩
      · have he' : (p == [13, 10, 13, 10]) = false := by rw [beq_eq_false_iff_ne]; exact he
        have HF := Lib.hid (endS_next Hn.out hlt (fun h => he (Hp.out.symm.trans h)))
        clear he
        go_wp2_with fail
        go_roundg (s.length - (j + 1))
        case measure => have := Hk.out; omega
        case rel => exact ⟨j + 1, rfl, by omega, by go_num, HF.out, rfl⟩
    · have hlt' : ¬ (j : Int) + 4 ≤ s.length := by omega
      have HF := Lib.hid (endS_miss Hn.out (by omega))
      go_wp2_with fail
      go_ret
      exact ⟨by rw [HF.out]; rfl, rfl⟩
/-- What a content-length says, as the reference answers. -/
def lengthR (v : List UInt8) : Int × Bool := match lengthS v with | none => (0, false) | some n => ((n : Int), true)
theorem lengthR_none {v : List UInt8} (h : lengthS v = none) : lengthR v = (0, false) := by unfold lengthR; rw [h]
theorem lengthR_some {v : List UInt8} {n : Nat} (h : lengthS v = some n) : lengthR v = ((n : Int), true) := by unfold lengthR; rw [h]
set_option maxRecDepth 100000 in
set_option maxHeartbeats 1000000 in
theorem lengthR_calls (w : World) (s : List UInt8) (hl : s.length ≤ 1000000000) : Calls Tryz.prog 51 #[.string ⟨s.toArray⟩] w fun e w' => e = .returned (.tuple #[.int .i64 (lengthR s).1, .bool (lengthR s).2]) ∧ w = w' := by
  go_enter Tryz.func51, Tryz.ntmps51
  by_cases h1 : 1 ≤ s.length
  · by_cases h2 : s.length ≤ 18
    · have h1' : ¬ (s.length : Int) < 1 := by omega
      have h2' : ¬ (18 : Int) < s.length := by omega
      go_wp2_with fail
      go_loopg [4, 5] s.length (fun k n i wr => ∃ j : Nat, k = s.length - j ∧ j ≤ s.length ∧ i = .int .i64 j ∧ n = .int .i64 (decV (s.take j)) ∧ (s.take j).all dgB = true ∧ w = wr)
      case atStart => exact ⟨0, rfl, by omega, rfl, rfl, rfl, rfl⟩
      case round =>
        obtain ⟨j, hk, hj, rfl, rfl, hd, rfl⟩ := hrel
        have Hk := Lib.hid hk
        have Hd := Lib.hid hd
        clear hk hd
        by_cases hlt : j < s.length
        · have hlt' : (j : Int) < s.length := by omega
          have hij := byte_at s j hlt
          have hts : s.take (j + 1) = s.take j ++ [s.getD j 0] := by rw [List.take_add_one, List.getElem?_eq_getElem hlt]; simp [List.getElem?_eq_getElem hlt]
          have hsm := decV_small j (s.take j) (by simp; omega) Hd.out
          have hp18 : (10 : Nat) ^ j ≤ 10 ^ 17 := Nat.pow_le_pow_right (by omega) (by omega)
          have hb17 : decV (s.take j) < 100000000000000000 := Nat.lt_of_lt_of_le hsm hp18
          have Hts := Lib.hid hts
          have HB : Hid (dgB (s.getD j 0) = false → lengthR s = (0, false)) := fun h => lengthR_none (lengthS_not j hlt h)
          have hc := (s.getD j 0).toNat_lt
          clear hts hsm hp18
          generalize s.getD j 0 = c at *
          generalize hn : decV (s.take j) = n at *
          have Hnn := Lib.hid hn
          clear hn
          go_wp2_with fail
          refine (digitR_calls w c).mono ?_
          rintro e w2 ⟨rfl, rfl⟩
          cases hb : dgB c with
          | false =>
            have HF := Lib.hid (HB.out hb)
            clear HB hb
            go_wp2_with fail
            go_ret2
            exact ⟨by rw [HF.out]; rfl, rfl⟩
          | true =>
            have hc1 : 48 ≤ c.toNat ∧ c.toNat ≤ 57 := by unfold dgB at hb; simpa using hb
            have Hb := Lib.hid hb
            obtain ⟨hc2, hc3⟩ := hc1
            clear hb HB
            go_wp2_with fail
            go_roundg (s.length - (j + 1))
            case measure => have := Hk.out; omega
            case rel =>
              refine ⟨j + 1, rfl, by omega, by go_num, ?_, by rw [Hts.out, List.all_append, Hd.out]; simp [Hb.out], rfl⟩
              rw [Hts.out, decV_snoc, Hnn.out]
              go_num
        · obtain rfl : j = s.length := by omega
          have hd := Hd.out
          rw [List.take_of_length_le (Nat.le_refl _)] at hd
          have HF := Lib.hid (lengthR_some (lengthS_ok h1 h2 hd))
          clear hd
          rw [List.take_of_length_le (Nat.le_refl _)]
          go_wp2_with fail
          go_ret2
          exact ⟨by rw [HF.out]; rfl, rfl⟩
    · have h1' : ¬ (s.length : Int) < 1 := by omega
      have h2' : (18 : Int) < s.length := by omega
      have HF := Lib.hid (lengthR_none (lengthS_bad (v := s) (by omega)))
      go_wp2_with fail
      go_ret2
      exact ⟨by rw [HF.out]; rfl, rfl⟩
  · have h1' : (s.length : Int) < 1 := by omega
    have HF := Lib.hid (lengthR_none (lengthS_bad (v := s) (by omega)))
    go_wp2_with fail
    go_ret2
    exact ⟨by rw [HF.out]; rfl, rfl⟩
end Go.Proofs.YtgdfgppgfkkncaaGreatDoor
