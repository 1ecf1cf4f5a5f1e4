/- Texts of this claim, joined: JsF, Jr6, QuL, QuV, Chk, Qu4, Lbl. -/
import Derived.Test.YtfclfaidmipjpaaGreatDoorCo31
namespace Go.Proofs.YtfclfaidmipjpaaGreatDoor
set_option maxRecDepth 100000
set_option maxHeartbeats 20000000
variable {z : List UInt8}
theorem qt_fuel : ∀ (n m : Nat) (s : List UInt8), s.length < n → s.length < m → qtN z n s = qtN z m s
 | 0, _, s, h, _ => by omega
 | _ + 1, 0, s, _, h => by omega
 | n + 1, m + 1, [], _, _ => rfl
 | n + 1, m + 1, c :: t, h1, h2 => by
  simp only [List.length_cons] at h1 h2
  simp only [qtN]
  rw [qt_fuel n m t (by omega) (by omega)]
  cases he : escS z t with
  | none => rfl
  | some x =>
   obtain ⟨b, t2, a⟩ := x
   have := esc_len he
   simp only
   rw [qt_fuel n m t2 (by omega) (by omega)]
open Go.RowKit
def qmap (acc : List UInt8) (a : Bool) : Option (List UInt8 × List UInt8 × Bool) → Option (List UInt8 × List UInt8 × Bool)
 | none => none
 | some (u, r, a2) => some (acc ++ u, r, a || a2)
theorem qt_chr {z b : List UInt8} {m : Nat} (h1 : m < b.length) (h2 : ¬ (b.getD m 0).toNat < 32) (h3 : b.getD m 0 ≠ 34) (h4 : b.getD m 0 ≠ 92) : qtS z (b.drop m) = qmap [b.getD m 0] false (qtS z (b.drop (m + 1))) := by
 rw [drop_at h1]
 generalize b.getD m 0 = c at *
 unfold qtS
 simp only [List.length_cons]
 rw [qtN, if_neg h2, if_neg h3, if_neg h4]
 cases qtN z ((b.drop (m + 1)).length + 1) (b.drop (m + 1)) with
 | none => rfl
 | some v => obtain ⟨u, r, a2⟩ := v; simp [qmap]
theorem qt_esc {z b : List UInt8} {m : Nat} (h1 : m < b.length) (h4 : b.getD m 0 = 92) : qtS z (b.drop m) = match escS z (b.drop (m + 1)) with
  | none => none
  | some (u, r, a) => qmap u a (qtS z r) := by
 rw [drop_at h1, h4]
 unfold qtS
 simp only [List.length_cons]
 rw [qtN, if_neg (by decide), if_neg (by decide), if_pos rfl]
 cases he : escS z (b.drop (m + 1)) with
 | none => rfl
 | some v =>
  obtain ⟨u, r, a⟩ := v
  have hl := esc_len he
  simp only
  rw [qt_fuel ((b.drop (m + 1)).length + 1) (r.length + 1) r (by omega) (by omega)]
  cases qtN z (r.length + 1) r with
  | none => rfl
  | some y => obtain ⟨v, r2, a2⟩ := y; rfl
open Go.RowKit
theorem esc_low (n : Nat) (h : n < 32) (t : List UInt8) (z : List UInt8) (hn : quoB (UInt8.ofNat n) = [92, 117, 48, 48, hexD (n / 16), hexD (n % 16)]) : escS z (117 :: 48 :: 48 :: hexD (n / 16) :: hexD (n % 16) :: t) = some ([UInt8.ofNat n], t, false) := by
 match n, h with
 | 0, _ => rfl
 | 1, _ => rfl
 | 2, _ => rfl
 | 3, _ => rfl
 | 4, _ => rfl
 | 5, _ => rfl
 | 6, _ => rfl
 | 7, _ => rfl
 | 8, _ => exact absurd hn (by decide)
 | 9, _ => exact absurd hn (by decide)
 | 10, _ => exact absurd hn (by decide)
 | 11, _ => rfl
 | 12, _ => exact absurd hn (by decide)
 | 13, _ => exact absurd hn (by decide)
 | 14, _ => rfl
 | 15, _ => rfl
 | 16, _ => rfl
 | 17, _ => rfl
 | 18, _ => rfl
 | 19, _ => rfl
 | 20, _ => rfl
 | 21, _ => rfl
 | 22, _ => rfl
 | 23, _ => rfl
 | 24, _ => rfl
 | 25, _ => rfl
 | 26, _ => rfl
 | 27, _ => rfl
 | 28, _ => rfl
 | 29, _ => rfl
 | 30, _ => rfl
 | 31, _ => rfl
 | n + 32, h => omega
theorem qtS_one (z : List UInt8) (c : UInt8) (t : List UInt8) : qtS z (quoB c ++ t) = qmap [c] false (qtS z t) := by
 rcases quo_cases c with ⟨i, hi, _, h3⟩ | ⟨_, ⟨h2, h3⟩ | ⟨h2, h3⟩⟩
 ·have he : escS z (sevenE.getD i 0 :: t) = some ([c], t, false) := by
   have hc : plainS (sevenE.getD i 0) = some c := by
    have h9 : ((List.range 256).all fun n => (List.range 7).all fun i => !decide (quoB (UInt8.ofNat n) = [92, sevenE.getD i 0]) || decide (plainS (sevenE.getD i 0) = some (UInt8.ofNat n))) = true := by decide +kernel
    have h8 := List.all_eq_true.1 (List.all_eq_true.1 h9 c.toNat (List.mem_range.2 c.toNat_lt)) i (List.mem_range.2 hi)
    rw [UInt8.ofNat_toNat] at h8
    simpa [h3] using h8
   unfold escS
   simp only [hc]
  rw [h3]
  have hq := qt_esc (z := z) (b := 92 :: sevenE.getD i 0 :: t) (m := 0) (by simp) rfl
  rw [show (92 :: sevenE.getD i 0 :: t).drop 0 = [92, sevenE.getD i 0] ++ t from rfl, show (92 :: sevenE.getD i 0 :: t).drop (0 + 1) = sevenE.getD i 0 :: t from rfl, he] at hq
  exact hq
 ·have hn : UInt8.ofNat c.toNat = c := UInt8.ofNat_toNat
  have he := esc_low c.toNat h2 t z (by rw [hn]; exact h3)
  rw [hn] at he
  rw [h3]
  have hq := qt_esc (z := z) (b := 92 :: 117 :: 48 :: 48 :: hexD (c.toNat / 16) :: hexD (c.toNat % 16) :: t) (m := 0) (by simp) rfl
  rw [show (92 :: 117 :: 48 :: 48 :: hexD (c.toNat / 16) :: hexD (c.toNat % 16) :: t).drop 0 = [92, 117, 48, 48, hexD (c.toNat / 16), hexD (c.toNat % 16)] ++ t from rfl, show (92 :: 117 :: 48 :: 48 :: hexD (c.toNat / 16) :: hexD (c.toNat % 16) :: t).drop (0 + 1) = 117 :: 48 :: 48 :: hexD (c.toNat / 16) :: hexD (c.toNat % 16) :: t from rfl, he] at hq
  exact hq
 ·have h34 : c ≠ 34 := fun e => by rw [e] at h3; exact absurd h3 (by decide)
  have h92 : c ≠ 92 := fun e => by rw [e] at h3; exact absurd h3 (by decide)
  rw [h3]
  exact qt_chr (z := z) (b := c :: t) (m := 0) (by simp) (by show ¬ c.toNat < 32; omega) h34 h92
theorem qtS_quo (z : List UInt8) (s r : List UInt8) : qtS z (quoS s ++ 34 :: r) = some (s, r, false) := by
 induction s with
 | nil => rfl
 | cons c s ih =>
  have e : quoS (c :: s) ++ 34 :: r = quoB c ++ (quoS s ++ 34 :: r) := by
   show (quoB c ++ quoS s) ++ _ = _
   rw [List.append_assoc]
  rw [e, qtS_one, ih]
  rfl
theorem valS_quo (z s : List UInt8) (n d : Nat) (f : Fl) : valS z (n + 1) d (quoT s) f = some (.mk 3 false Dec.zero s [] [], [], { f with alone := f.alone || false }) := by
 have e : quoT s = 34 :: (quoS s ++ 34 :: []) := rfl
 rw [e]
 have hs : skipS (34 :: (quoS s ++ 34 :: [])) = 34 :: (quoS s ++ 34 :: []) := rfl
 unfold valS
 rw [hs]
 simp only
 rw [if_neg (by decide), if_neg (by decide), if_pos trivial, qtS_quo]
open Go.RowKit
theorem dec_two {n b0 b1 c2 c3 : Nat} (h1 : b0 / 32 = 6) (h2 : 1 < n) (h3 : b1 / 64 = 2) (h4 : 128 ≤ b0 % 32 * 64 + b1 % 64) : Lib.decodeN n b0 b1 c2 c3 = (b0 % 32 * 64 + b1 % 64, 2) := by
 unfold Lib.decodeN
 rw [if_neg (by omega), if_pos ⟨by omega, by omega, by omega⟩, if_pos (by omega)]
theorem dec_three {n b0 b1 b2 c3 : Nat} (h1 : b0 / 16 = 14) (h2 : 2 < n) (h3 : b1 / 64 = 2) (h4 : b2 / 64 = 2) (h5 : 2048 ≤ b0 % 16 * 4096 + b1 % 64 * 64 + b2 % 64)
  (h6 : b0 % 16 * 4096 + b1 % 64 * 64 + b2 % 64 < 55296 ∨ 57344 ≤ b0 % 16 * 4096 + b1 % 64 * 64 + b2 % 64) : Lib.decodeN n b0 b1 b2 c3 = (b0 % 16 * 4096 + b1 % 64 * 64 + b2 % 64, 3) := by
 unfold Lib.decodeN
 rw [if_neg (by omega), if_neg (by omega), if_pos ⟨by omega, ⟨by omega, by omega⟩, by omega, by omega⟩, if_pos (by omega)]
theorem dec_four {n b0 b1 b2 b3 : Nat} (h1 : b0 / 8 = 30) (h2 : 3 < n) (h3 : b1 / 64 = 2) (h4 : b2 / 64 = 2) (h4b : b3 / 64 = 2) (h5 : 65536 ≤ b0 % 8 * 262144 + b1 % 64 * 4096 + b2 % 64 * 64 + b3 % 64)
  (h6 : b0 % 8 * 262144 + b1 % 64 * 4096 + b2 % 64 * 64 + b3 % 64 ≤ 1114111) : Lib.decodeN n b0 b1 b2 b3 = (b0 % 8 * 262144 + b1 % 64 * 4096 + b2 % 64 * 64 + b3 % 64, 4) := by
 unfold Lib.decodeN
 rw [if_neg (by omega), if_neg (by omega), if_neg (by omega), if_pos ⟨by omega, ⟨by omega, by omega⟩, ⟨by omega, by omega⟩, by omega, by omega⟩, if_pos (by omega)]
theorem getD_head (l r : List UInt8) (k j : Nat) (hj : j < k) (hk : k ≤ l.length) : (l.take k ++ r).getD j 0 = l.getD j 0 := by
 simp only [List.getD_eq_getElem?_getD]
 rw [List.getElem?_append_left (by simp; omega), List.getElem?_take_of_lt hj]
theorem dec_stable (l r : List UInt8) (hne : l ≠ []) (hb : ¬ ((Lib.decodeL l).1 = 65533 ∧ (Lib.decodeL l).2 = 1)) : Lib.decodeL (l.take (Lib.decodeL l).2 ++ r) = Lib.decodeL l := by
 have hle := Lib.decodeL_le l hne
 rw [Lib.decodeL_N l] at hb hle ⊢
 rw [Lib.decodeL_N]
 rcases Lib.decodeN_shape l.length (l.getD 0 0).toNat (l.getD 1 0).toNat (l.getD 2 0).toNat (l.getD 3 0).toNat with ⟨c, e⟩ | ⟨c1, c2, c3, cv, e⟩ | ⟨c1, c2, c3, c4, cv, cs, e⟩ | ⟨c1, c2, c3, c4, c5, cv, cw, e⟩ | e
 ·rw [e] at hle ⊢
  dsimp only at hle ⊢
  rw [getD_head l r 1 0 (by omega) hle]
  unfold Lib.decodeN
  rw [if_pos c]
 ·rw [e] at hle ⊢
  dsimp only at hle ⊢
  rw [getD_head l r 2 0 (by omega) hle, getD_head l r 2 1 (by omega) hle]
  exact dec_two c1 (by simp; omega) c3 cv
 ·rw [e] at hle ⊢
  dsimp only at hle ⊢
  rw [getD_head l r 3 0 (by omega) hle, getD_head l r 3 1 (by omega) hle, getD_head l r 3 2 (by omega) hle]
  exact dec_three c1 (by simp; omega) c3 c4 cv cs
 ·rw [e] at hle ⊢
  dsimp only at hle ⊢
  rw [getD_head l r 4 0 (by omega) hle, getD_head l r 4 1 (by omega) hle, getD_head l r 4 2 (by omega) hle, getD_head l r 4 3 (by omega) hle]
  exact dec_four c1 (by simp; omega) c3 c4 c5 cv cw
 ·rw [e] at hb
  exact absurd ⟨rfl, rfl⟩ hb
theorem quoB_low : ∀ n : Nat, n < 128 → ∀ b ∈ quoB (UInt8.ofNat n), b.toNat < 128 := by
 have h9 : ((List.range 128).all fun n => (quoB (UInt8.ofNat n)).all fun b => decide (b.toNat < 128)) = true := by decide +kernel
 intro n hn b hb
 have h1 := List.all_eq_true.1 (List.all_eq_true.1 h9 n (List.mem_range.2 hn)) b hb
 simpa using h1
theorem valid_quo : ∀ (n : Nat) (l t : List UInt8), l.length ≤ n → Lib.validD l = true → Lib.validD (quoS l ++ t) = Lib.validD t
 | 0, l, t, h, _ => by
  obtain rfl : l = [] := List.length_eq_zero_iff.1 (by omega)
  rfl
 | n + 1, l, t, h, hv => by
  by_cases hne : l = []
  ·subst hne; rfl
  ·have hs := Lib.validD_step l hne
   rw [hv] at hs
   have hb : ¬ ((Lib.decodeL l).1 = 65533 ∧ (Lib.decodeL l).2 = 1) := fun hb => by
    rw [if_pos hb] at hs
    cases hs
   obtain ⟨_, q2, q3, q4, q5⟩ := quo_step l hne hv
   have ih := valid_quo n (l.drop (Lib.decodeL l).2) t (by rw [List.length_drop]; omega) q4
   rw [q5, List.append_assoc, ← ih]
   generalize quoS (l.drop (Lib.decodeL l).2) ++ t = x
   unfold quoR
   by_cases h1 : (Lib.decodeL l).1 < 128
   ·rw [if_pos h1]
    have h2 := Lib.validD_ascii (quoB (UInt8.ofNat (Lib.decodeL l).1)).length (quoB (UInt8.ofNat (Lib.decodeL l).1) ++ x) (by
     rw [List.take_left]
     exact quoB_low _ h1)
    rw [List.drop_left] at h2
    exact h2
   ·rw [if_neg h1, Lib.encode_decode l hne hb]
    have hd := dec_stable l x hne hb
    have hn2 : l.take (Lib.decodeL l).2 ++ x ≠ [] := by
     intro e
     have hl0 : 0 < l.length := List.length_pos_iff.2 hne
     have := congrArg List.length e
     rw [List.length_append, List.length_take, List.length_nil] at this
     omega
    rw [Lib.validD_step _ hn2, hd, if_neg hb]
    congr 1
    have hlen : (l.take (Lib.decodeL l).2).length = (Lib.decodeL l).2 := by rw [List.length_take]; omega
    conv => lhs; rw [show (Lib.decodeL l).2 = (l.take (Lib.decodeL l).2).length from hlen.symm]
    rw [hlen]
    exact List.drop_left' hlen
theorem valid_quoT (s : List UInt8) (hv : Lib.validD s = true) : Lib.validD (quoT s) = true := by
 have e : quoT s = 34 :: (quoS s ++ [34]) := rfl
 rw [e, Lib.validD_cons 34 _ (by decide), valid_quo s.length s [34] (Nat.le_refl _) hv]
 rfl
open Go.RowKit
def depthV (v : J) : Int := if checkJ v = 0 then (deepJ v : Int) else 0
theorem depthJ_calls {w0 : World} {S1 : Nat → Prop} {r1 : JR} (h1 : JV w0 S1 r1) (hTab : Tab w0) (hT : Lib.Utf8Tabs 0 1 w0) (w : World) (hb : Below w0.heap.size w0 w) (hsz : szJ r1.1 ≤ 20000000) :
  Calls Tryz.prog 34 #[jval r1] w fun e w' => e = .returned (.int .i64 (depthV r1.1)) ∧ Below w.heap.size w w' := by
 have HB := Lib.hid hb
 have HSZ := Lib.hid hsz
 have HTL := Lib.hid (tabsLt hT)
 clear hb hsz
 go_enter Tryz.func34, Tryz.ntmps34
 go_upto_region 1 with (refine wpList_boxJ rfl _ rfl r1 rfl ?_; intro w1 hBx)
 have HV1 := Lib.hid hBx.row
 have HB1 := Lib.hid hBx.be
 have HW1 : Hid (Below w0.heap.size w0 w1) := Lib.hid (hBx.below HB.out HB.out.size)
 obtain ⟨g1, hg1⟩ : ∃ g, w.heap.size = g := ⟨_, rfl⟩
 rw [hg1] at HV1 ⊢
 clear hBx hg1
 go_wp2_with (refine wpList_loadJ rfl _ rfl r1 HV1.out rfl ?_)
 refine (checkJ_calls h1 hTab hT w1 HW1.out HSZ.out).mono ?_
 rintro e w2 ⟨rfl, hb2⟩
 have HV2 := Lib.hid (HV1.out.below hb2)
 have HB2 := Lib.hid (HB1.out.trans (hb2.mono HB1.out.size))
 have HW2 := Lib.hid (HW1.out.trans (hb2.mono HW1.out.size))
 clear hb2 HV1 HB1 HW1
 obtain ⟨c, hc⟩ : ∃ c, checkJ r1.1 = c := ⟨_, rfl⟩
 have HC := Lib.hid hc
 rw [hc]
 clear hc
 by_cases hc0 : c = 0
 ·subst hc0
  go_wp2_with (refine wpList_loadJ rfl _ rfl r1 HV2.out rfl ?_)
  refine (may_calls h1 w2 HW2.out (tabsB hT HW2.out HTL.out.1 HTL.out.2) (by have := HSZ.out; omega)).mono ?_
  rintro e w3 ⟨rfl, hb3⟩
  have HB3 := Lib.hid (HB2.out.trans (hb3.mono HB2.out.size))
  clear hb3 HV2
  go_wp2_with fail
  go_ret
  exact ⟨by rw [depthV, if_pos HC.out]; rfl, HB3.out⟩
 ·have n0 : ((c : Int) == 0) = false := by rw [beq_eq_false_iff_ne]; exact hc0
  go_wp2_with fail
  go_ret
  exact ⟨by rw [depthV, if_neg (by rw [HC.out]; exact hc0)]; rfl, HB2.out⟩
open Go.RowKit
def quoR3 (s : List UInt8) : List UInt8 × Int := if 1048576 < s.length then ([], 3) else if Lib.validD s = true then (quoT s, 0) else ([], 181)
theorem quote_calls (s : List UInt8) (w : World) (hs : s.length ≤ 1000000000) (hT : Lib.Utf8Tabs 0 1 w) :
  Calls Tryz.prog 31 #[.string ⟨s.toArray⟩] w fun e w' => e = .returned (.tuple #[.string ⟨(quoR3 s).1.toArray⟩, .int .i64 (quoR3 s).2]) ∧ Below w.heap.size w w' := by
 have hsz : (⟨s.toArray⟩ : ByteArray).size = s.length := by simp [ByteArray.size]
 unfold quoR3
 by_cases h1 : 1048576 < s.length
 ·have h1b : (1048576 : Int) < s.length := by omega
  rw [if_pos h1]
  go_enter Tryz.func31, Tryz.ntmps31
  go_wp2_with fail
  go_ret2
  exact ⟨rfl, Below.refl _ _⟩
 ·have h1b : ¬ (1048576 : Int) < s.length := by omega
  rw [if_neg h1]
  have HT := Lib.hid hT
  clear hT
  obtain ⟨bv, hbv⟩ : ∃ bv, Lib.validD s = bv := ⟨_, rfl⟩
  have HBV := Lib.hid hbv
  rw [hbv]
  clear hbv
  go_enter Tryz.func31, Tryz.ntmps31
  go_wp2_with fail
  refine (validS_calls s w (by omega) HT.out).mono ?_
  rintro e w1 ⟨rfl, hb1⟩
  rw [HBV.out]
  cases bv with
  | false =>
   go_wp2_with fail
   go_ret2
   exact ⟨rfl, hb1⟩
  | true =>
   go_wp2_with fail
   refine (quoteP_calls w1.heap.size (.slice none 0 0) [] s w1 (FB.nil _ _) HBV.out (by simp; omega) (Nat.le_refl _)).mono ?_
   rintro e w2 ⟨v2, rfl, hF, hB, _⟩
   have hcv := hF.string
   simp only [List.nil_append] at hcv
   have hb2 := hb1.trans (hB.mono hb1.size)
   clear hF hB hb1
   go_wp2_with fail
   go_ret2
   exact ⟨rfl, hb2⟩
open Go.RowKit
theorem parse_quoG (s : List UInt8) (hl : (quoT s).length ≤ 1048576) (hv : Lib.validD s = true) : parseJ [] (quoT s) = (.mk 3 false Dec.zero s [] [], 0) := by
 have hw := valid_quoT s hv
 unfold parseJ
 rw [if_neg (by omega), if_neg (by rw [hw]; simp), show 3 * (quoT s).length + 3 = (3 * (quoT s).length + 2) + 1 from rfl, valS_quo]
 rfl
def deepB (n : Nat) : List UInt8 := List.replicate n 91 ++ List.replicate n 93
def nest : Nat → J
 | 0 => .mk 4 false Dec.zero [] [] []
 | n + 1 => .mk 4 false Dec.zero [] [nest n] []
theorem par64 : parseJ [] (deepB 64) = (nest 63, 0) := by kernel_rfl
theorem par65 : parseJ [] (deepB 65) = (J.zero, 182) := by kernel_rfl
theorem chk64 : checkJ (nest 63) = 0 := by kernel_rfl
theorem dep64 : depthV (nest 63) = 64 := by kernel_rfl
theorem prn64 : printJ (nest 63) = deepB 64 := by kernel_rfl
theorem chk65 : checkJ (nest 64) = 182 := by kernel_rfl
theorem dep65 : depthV (nest 64) = 0 := by kernel_rfl
def aN (n : Nat) : List UInt8 := List.replicate n 97
theorem aN_len (n : Nat) : (aN n).length = n := by simp [aN]
theorem aN_app (n m : Nat) : aN n ++ aN m = aN (n + m) := by simp [aN, List.replicate_append_replicate]
theorem quoS_a : ∀ n : Nat, quoS (aN n) = aN n
 | 0 => rfl
 | n + 1 => by
  have e : aN (n + 1) = 97 :: aN n := List.replicate_succ
  rw [e]
  show quoB 97 ++ quoS (aN n) = _
  rw [quoS_a n]; rfl
theorem valid_a : ∀ n : Nat, Lib.validD (aN n) = true
 | 0 => rfl
 | n + 1 => by
  have e : aN (n + 1) = 97 :: aN n := List.replicate_succ
  rw [e, Lib.validD_cons 97 _ (by decide)]; exact valid_a n
theorem quoT_a (n : Nat) : quoT (aN n) = 34 :: (aN n ++ [34]) := by show 34 :: quoS (aN n) ++ [34] = _; rw [quoS_a]; rfl
theorem quoT_a_len (n : Nat) : (quoT (aN n)).length = n + 2 := by rw [quoT_a]; simp [aN_len]
def txtJ (n : Nat) : J := .mk 3 false Dec.zero (aN n) [] []
theorem par_a (n : Nat) (h : n + 2 ≤ 1048576) : parseJ [] (34 :: (aN n ++ [34])) = (txtJ n, 0) := by
 rw [← quoT_a]
 exact parse_quoG _ (by rw [quoT_a_len]; exact h) (valid_a n)
theorem par_long (l : List UInt8) (h : 1048576 < l.length) : parseJ [] l = (J.zero, 3) := by unfold parseJ; rw [if_pos h]
theorem good_a (n : Nat) : goodJ (txtJ n) = true := by
 simp [txtJ, goodJ, goodL, headB, badK, okK, valid_a, bareB, bareN, bareT]
 exact ⟨rfl, rfl⟩
theorem told_a (n : Nat) : toldJ (txtJ n) = quoT (aN n) := by simp [txtJ, toldJ]
theorem deep_a (n : Nat) : deepJ (txtJ n) = 0 := by simp [txtJ, deepJ, deepL, deepK]
theorem chk_a (n : Nat) (h : n + 2 ≤ 1048576) : checkJ (txtJ n) = 0 := checkJ_zero.2 ⟨good_a n, by rw [deep_a]; omega, by rw [told_a, quoT_a_len]; exact h⟩
theorem chk_big (n : Nat) (h : 1048576 < n + 2) : checkJ (txtJ n) = 3 := by
 unfold checkJ
 rw [good_a, deep_a, told_a, quoT_a_len, if_neg (by simp), if_neg (by omega), if_pos h]
theorem prn_big (n : Nat) (h : 1048576 < n + 2) : printJ (txtJ n) = [] := by unfold printJ; rw [chk_big n h]; rfl
theorem quo_a (n : Nat) (h : n ≤ 1048576) : quoR3 (aN n) = (quoT (aN n), 0) := by unfold quoR3; rw [aN_len, if_neg (by omega), if_pos (valid_a n)]
theorem quo_big (n : Nat) (h : 1048576 < n) : quoR3 (aN n) = ([], 3) := by unfold quoR3; rw [aN_len, if_pos h]
end Go.Proofs.YtfclfaidmipjpaaGreatDoor
