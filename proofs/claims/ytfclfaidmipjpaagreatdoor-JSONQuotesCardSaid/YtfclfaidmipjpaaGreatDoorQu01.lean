/- Texts of this claim, joined: QuV, Qu4, Jr7. -/
import Derived.Test.YtfclfaidmipjpaaGreatDoorCo20
import Derived.Test.YtfclfaidmipjpaaGreatDoorQu00
namespace Go.Proofs.YtfclfaidmipjpaaGreatDoor
set_option maxRecDepth 100000
set_option maxHeartbeats 20000000
open Go.RowKit
theorem dec_two {n b0 b1 c2 c3 : Nat} (h1 : b0 / 32 = 6) (h2 : 1 < n) (h3 : b1 / 64 = 2) (h4 : 128 ≤ b0 % 32 * 64 + b1 % 64) : Lib.decodeN n b0 b1 c2 c3 = (b0 % 32 * 64 + b1 % 64, 2) := by
 unfold Lib.decodeN
 rw [if_neg (by omega), if_pos ⟨by omega, by omega, by omega⟩, if_pos (by omega)]
theorem dec_three {n b0 b1 b2 c3 : Nat} (h1 : b0 / 16 = 14) (h2 : 2 < n) (h3 : b1 / 64 = 2) (h4 : b2 / 64 = 2) (h5 : 2048 ≤ b0 % 16 * 4096 + b1 % 64 * 64 + b2 % 64)
  (h6 : b0 % 16 * 4096 + b1 % 64 * 64 + b2 % 64 < 55296 ∨ 57344 ≤ b0 % 16 * 4096 + b1 % 64 * 64 + b2 % 64) : Lib.decodeN n b0 b1 b2 c3 = (b0 % 16 * 4096 + b1 % 64 * 64 + b2 % 64, 3) := by
 unfold Lib.decodeN
 rw [if_neg (by omega), if_neg (by omega), if_pos ⟨by omega, ⟨by omega, by omega⟩, by omega, by omega⟩, if_pos (by omega)]
theorem dec_four {n b0 b1 b2 b3 : Nat} (h1 : b0 / 8 = 30) (h2 : 3 < n) (h3 : b1 / 64 = 2) (h4 : b2 / 64 = 2) (h4b : b3 / 64 = 2) (h5 : 65536 ≤ b0 % 8 * 262144 + b1 % 64 * 4096 + b2 % 64 * 64 + b3 % 64)
  (h6 : b0 % 8 * 262144 + b1 % 64 * 4096 + b2 % 64 * 64 + b3 % 64 ≤ 1114111) : Lib.decodeN n b0 b1 b2 b3 = (b0 % 8 * 262144 + b1 % 64 * 4096 + b2 % 64 * 64 + b3 % 64, 4) := by
 unfold Lib.decodeN
 rw [if_neg (by omega), if_neg (by omega), if_neg (by omega), if_pos ⟨by omega, ⟨by omega, by omega⟩, ⟨by omega, by omega⟩, by omega, by omega⟩, if_pos (by omega)]
theorem getD_head (l r : List UInt8) (k j : Nat) (hj : j < k) (hk : k ≤ l.length) : (l.take k ++ r).getD j 0 = l.getD j 0 := by
 simp only [List.getD_eq_getElem?_getD]
 rw [List.getElem?_append_left (by simp; omega), List.getElem?_take_of_lt hj]
theorem dec_stable (l r : List UInt8) (hne : l ≠ []) (hb : ¬ ((Lib.decodeL l).1 = 65533 ∧ (Lib.decodeL l).2 = 1)) : Lib.decodeL (l.take (Lib.decodeL l).2 ++ r) = Lib.decodeL l := by
 have hle := Lib.decodeL_le l hne
 rw [Lib.decodeL_N l] at hb hle ⊢
 rw [Lib.decodeL_N]
 rcases Lib.decodeN_shape l.length (l.getD 0 0).toNat (l.getD 1 0).toNat (l.getD 2 0).toNat (l.getD 3 0).toNat with ⟨c, e⟩ | ⟨c1, c2, c3, cv, e⟩ | ⟨c1, c2, c3, c4, cv, cs, e⟩ | ⟨c1, c2, c3, c4, c5, cv, cw, e⟩ | e
 ·rw [e] at hle ⊢
  dsimp only at hle ⊢
  rw [getD_head l r 1 0 (by omega) hle]
  unfold Lib.decodeN
  rw [if_pos c]
 ·rw [e] at hle ⊢
  dsimp only at hle ⊢
  rw [getD_head l r 2 0 (by omega) hle, getD_head l r 2 1 (by omega) hle]
  exact dec_two c1 (by simp; omega) c3 cv
 ·rw [e] at hle ⊢
  dsimp only at hle ⊢
  rw [getD_head l r 3 0 (by omega) hle, getD_head l r 3 1 (by omega) hle, getD_head l r 3 2 (by omega) hle]
  exact dec_three c1 (by simp; omega) c3 c4 cv cs
 ·rw [e] at hle ⊢
  dsimp only at hle ⊢
  rw [getD_head l r 4 0 (by omega) hle, getD_head l r 4 1 (by omega) hle, getD_head l r 4 2 (by omega) hle, getD_head l r 4 3 (by omega) hle]
  exact dec_four c1 (by simp; omega) c3 c4 c5 cv cw
 ·rw [e] at hb
  exact absurd ⟨rfl, rfl⟩ hb
theorem quoB_low : ∀ n : Nat, n < 128 → ∀ b ∈ quoB (UInt8.ofNat n), b.toNat < 128 := by
 have h9 : ((List.range 128).all fun n => (quoB (UInt8.ofNat n)).all fun b => decide (b.toNat < 128)) = true := by decide +kernel
 intro n hn b hb
 have h1 := List.all_eq_true.1 (List.all_eq_true.1 h9 n (List.mem_range.2 hn)) b hb
 simpa using h1
theorem valid_quo : ∀ (n : Nat) (l t : List UInt8), l.length ≤ n → Lib.validD l = true → Lib.validD (quoS l ++ t) = Lib.validD t
 | 0, l, t, h, _ => by
  obtain rfl : l = [] := List.length_eq_zero_iff.1 (by omega)
  rfl
 | n + 1, l, t, h, hv => by
  by_cases hne : l = []
  ·subst hne; rfl
  ·have hs := Lib.validD_step l hne
   rw [hv] at hs
   have hb : ¬ ((Lib.decodeL l).1 = 65533 ∧ (Lib.decodeL l).2 = 1) := fun hb => by
    rw [if_pos hb] at hs
    cases hs
   obtain ⟨_, q2, q3, q4, q5⟩ := quo_step l hne hv
   have ih := valid_quo n (l.drop (Lib.decodeL l).2) t (by rw [List.length_drop]; omega) q4
   rw [q5, List.append_assoc, ← ih]
   generalize quoS (l.drop (Lib.decodeL l).2) ++ t = x
   unfold quoR
   by_cases h1 : (Lib.decodeL l).1 < 128
   ·rw [if_pos h1]
    have h2 := Lib.validD_ascii (quoB (UInt8.ofNat (Lib.decodeL l).1)).length (quoB (UInt8.ofNat (Lib.decodeL l).1) ++ x) (by
     rw [List.take_left]
     exact quoB_low _ h1)
    rw [List.drop_left] at h2
    exact h2
   ·rw [if_neg h1, Lib.encode_decode l hne hb]
    have hd := dec_stable l x hne hb
    have hn2 : l.take (Lib.decodeL l).2 ++ x ≠ [] := by
     intro e
     have hl0 : 0 < l.length := List.length_pos_iff.2 hne
     have := congrArg List.length e
     rw [List.length_append, List.length_take, List.length_nil] at this
     omega
    rw [Lib.validD_step _ hn2, hd, if_neg hb]
    congr 1
    have hlen : (l.take (Lib.decodeL l).2).length = (Lib.decodeL l).2 := by rw [List.length_take]; omega
    conv => lhs; rw [show (Lib.decodeL l).2 = (l.take (Lib.decodeL l).2).length from hlen.symm]
    rw [hlen]
    exact List.drop_left' hlen
theorem valid_quoT (s : List UInt8) (hv : Lib.validD s = true) : Lib.validD (quoT s) = true := by
 have e : quoT s = 34 :: (quoS s ++ [34]) := rfl
 rw [e, Lib.validD_cons 34 _ (by decide), valid_quo s.length s [34] (Nat.le_refl _) hv]
 rfl
theorem parse_quoT (s : List UInt8) (hl : s.length ≤ 20000) (hv : Lib.validD s = true) : parseJ [] (quoT s) = (.mk 3 false Dec.zero s [] [], 0) := parse_quo s hl (valid_quoT s hv)
open Go.RowKit
def quoR3 (s : List UInt8) : List UInt8 × Int := if 1048576 < s.length then ([], 3) else if Lib.validD s = true then (quoT s, 0) else ([], 181)
theorem quote_calls (s : List UInt8) (w : World) (hs : s.length ≤ 1000000000) (hT : Lib.Utf8Tabs 0 1 w) :
  Calls Tryz.prog 31 #[.string ⟨s.toArray⟩] w fun e w' => e = .returned (.tuple #[.string ⟨(quoR3 s).1.toArray⟩, .int .i64 (quoR3 s).2]) ∧ Below w.heap.size w w' := by
 have hsz : (⟨s.toArray⟩ : ByteArray).size = s.length := by simp [ByteArray.size]
 unfold quoR3
 by_cases h1 : 1048576 < s.length
 ·have h1b : (1048576 : Int) < s.length := by omega
  rw [if_pos h1]
  go_enter Tryz.func31, Tryz.ntmps31
  go_wp2_with fail
  go_ret2
  exact ⟨rfl, Below.refl _ _⟩
 ·have h1b : ¬ (1048576 : Int) < s.length := by omega
  rw [if_neg h1]
  have HT := Lib.hid hT
  clear hT
  obtain ⟨bv, hbv⟩ : ∃ bv, Lib.validD s = bv := ⟨_, rfl⟩
  have HBV := Lib.hid hbv
  rw [hbv]
  clear hbv
  go_enter Tryz.func31, Tryz.ntmps31
  go_wp2_with fail
  refine (validS_calls s w (by omega) HT.out).mono ?_
  rintro e w1 ⟨rfl, hb1⟩
  rw [HBV.out]
  cases bv with
  | false =>
   go_wp2_with fail
   go_ret2
   exact ⟨rfl, hb1⟩
  | true =>
   go_wp2_with fail
   refine (quoteP_calls w1.heap.size (.slice none 0 0) [] s w1 (FB.nil _ _) HBV.out (by simp; omega) (Nat.le_refl _)).mono ?_
   rintro e w2 ⟨v2, rfl, hF, hB, _⟩
   have hcv := hF.string
   simp only [List.nil_append] at hcv
   have hb2 := hb1.trans (hB.mono hb1.size)
   clear hF hB hb1
   go_wp2_with fail
   go_ret2
   exact ⟨rfl, hb2⟩
open Go.RowKit
theorem take_one (s : List UInt8) (j : Nat) (h : j < s.length) : s.take (j + 1) = s.take j ++ [s.getD j 0] := by
 rw [List.take_add_one, List.getElem?_eq_getElem h]; simp [List.getElem?_eq_getElem h]
end Go.Proofs.YtfclfaidmipjpaaGreatDoor
