/- Texts of this claim, joined: Qr1. -/
import Derived.Test.YtfclfaidmipjpaaGreatDoorPa01
namespace Go.Proofs.YtfclfaidmipjpaaGreatDoor
set_option maxRecDepth 100000
set_option maxHeartbeats 20000000
open Go.Lib (hid)
open Go.RowKit
theorem u8_of {c : UInt8} {n : Nat} (h : c.toNat = n) : c = UInt8.ofNat n := by rw [← h, UInt8.ofNat_toNat]
theorem quoteR_calls (w : World) (s : List UInt8) (hs : s.length ≤ 1000000000) :
  Calls Tryz.prog 33 #[.string ⟨s.toArray⟩] w fun e w' => e = .returned (.string ⟨(quoT s).toArray⟩) ∧ Below w.heap.size w w' := by
 go_enter Tryz.func33, Tryz.ntmps33
 go_wp2_with fail
 go_loopg [3, 4] s.length (fun k s3 s4 wr => ∃ j : Nat, k = s.length - j ∧ j ≤ s.length ∧ s3 = .string ⟨(34 :: quoS (s.take j)).toArray⟩ ∧ s4 = .int .i64 j ∧ Below w.heap.size w wr)
 case atStart => exact ⟨0, rfl, Nat.zero_le _, rfl, rfl, Below.refl _ _⟩
 case round =>
  obtain ⟨j, hk, hj, rfl, rfl, hbw⟩ := hrel
  have Hk := hid hk
  have HB := hid hbw
  clear hk hbw
  by_cases hlt : j < s.length
  ·
   have hlt2 : (j : Int) < s.length := by omega
   have hij := byte_at s j hlt
   have HT := hid (take_one s j hlt)
   have HN : Hid (34 :: quoS (s.take (j + 1)) = (34 :: quoS (s.take j)) ++ quoB (s.getD j 0)) := hid (by rw [HT.out, quoS_app]; show _ :: _ = _ :: _; congr 1; show _ = quoS (s.take j) ++ (quoB _); congr 1; show quoB _ ++ [] = _; rw [List.append_nil])
   have HLO : Hid ((34 :: quoS (s.take j)).length ≤ 6 * s.length + 1) := hid (by
    have h1 := quoS_len (s.take j)
    rw [List.length_take] at h1
    simp only [List.length_cons]
    omega)
   have hext : (⟨s.toArray⟩ : ByteArray).extract j (j + 1) = ⟨[s.getD j 0].toArray⟩ := by rw [Lib.extract_eq, Nat.add_sub_cancel_left, drop_at hlt]; rfl
   have hwr : IntKind.i64.wrap ((j : Int) + 1) = (j : Int) + 1 := IntWalk.i64_in _ (by omega)
   have hjs : (j : Int) + 1 ≤ s.length := by omega
   clear HT
   generalize 34 :: quoS (s.take j) = out at *
   generalize s.getD j 0 = c at *
   by_cases e34 : c.toNat = 34
   ·
    have t34 : ((c.toNat : Int) == 34) = true := by rw [beq_iff_eq]; omega
    have HQ : Hid (quoB c = [92, 34]) := hid (by rw [u8_of e34]; rfl)
    have hcc : [c] = [34] := by rw [u8_of e34]; rfl
    rw [hcc] at hext
    have hcat1 := bytes_app out [92]
    have hcat2 := bytes_app (out ++ [92]) [34]
    have hsum1 : ¬ (9223372036854775807 < out.length + 1) := by have := HLO.out; omega
    have hsum2 : ¬ (9223372036854775807 < out.length + 1 + 1) := by have := HLO.out; omega
    clear e34
    try simp only [List.append_assoc, List.cons_append, List.nil_append] at hcat2
    go_wp2_with fail
    go_roundg (s.length - (j + 1))
    case measure => have := Hk.out; omega
    exact ⟨j + 1, rfl, by omega, by rw [HN.out, HQ.out]; try simp only [List.append_assoc, List.cons_append, List.nil_append], by go_num, HB.out⟩
   have t34 : ((c.toNat : Int) == 34) = false := by rw [beq_eq_false_iff_ne]; omega
   by_cases e92 : c.toNat = 92
   ·
    have t92 : ((c.toNat : Int) == 92) = true := by rw [beq_iff_eq]; omega
    have HQ : Hid (quoB c = [92, 92]) := hid (by rw [u8_of e92]; rfl)
    have hcc : [c] = [92] := by rw [u8_of e92]; rfl
    rw [hcc] at hext
    have hcat1 := bytes_app out [92]
    have hcat2 := bytes_app (out ++ [92]) [92]
    have hsum1 : ¬ (9223372036854775807 < out.length + 1) := by have := HLO.out; omega
    have hsum2 : ¬ (9223372036854775807 < out.length + 1 + 1) := by have := HLO.out; omega
    clear e34
    clear e92
    try simp only [List.append_assoc, List.cons_append, List.nil_append] at hcat2
    go_wp2_with fail
    go_roundg (s.length - (j + 1))
    case measure => have := Hk.out; omega
    exact ⟨j + 1, rfl, by omega, by rw [HN.out, HQ.out]; try simp only [List.append_assoc, List.cons_append, List.nil_append], by go_num, HB.out⟩
   have t92 : ((c.toNat : Int) == 92) = false := by rw [beq_eq_false_iff_ne]; omega
   by_cases e8 : c.toNat = 8
   ·
    have t8 : ((c.toNat : Int) == 8) = true := by rw [beq_iff_eq]; omega
    have HQ : Hid (quoB c = [92, 98]) := hid (by rw [u8_of e8]; rfl)
    have hcat := bytes_app out [92, 98]
    have hsum : ¬ (9223372036854775807 < out.length + 2) := by have := HLO.out; omega
    clear e34
    clear e92
    clear e8
    go_wp2_with fail
    go_roundg (s.length - (j + 1))
    case measure => have := Hk.out; omega
    exact ⟨j + 1, rfl, by omega, by rw [HN.out, HQ.out]; try simp only [List.append_assoc, List.cons_append, List.nil_append], by go_num, HB.out⟩
   have t8 : ((c.toNat : Int) == 8) = false := by rw [beq_eq_false_iff_ne]; omega
   by_cases e9 : c.toNat = 9
   ·
    have t9 : ((c.toNat : Int) == 9) = true := by rw [beq_iff_eq]; omega
    have HQ : Hid (quoB c = [92, 116]) := hid (by rw [u8_of e9]; rfl)
    have hcat := bytes_app out [92, 116]
    have hsum : ¬ (9223372036854775807 < out.length + 2) := by have := HLO.out; omega
    clear e34
    clear e92
    clear e8
    clear e9
    go_wp2_with fail
    go_roundg (s.length - (j + 1))
    case measure => have := Hk.out; omega
    exact ⟨j + 1, rfl, by omega, by rw [HN.out, HQ.out]; try simp only [List.append_assoc, List.cons_append, List.nil_append], by go_num, HB.out⟩
   have t9 : ((c.toNat : Int) == 9) = false := by rw [beq_eq_false_iff_ne]; omega
   by_cases e10 : c.toNat = 10
   ·
    have t10 : ((c.toNat : Int) == 10) = true := by rw [beq_iff_eq]; omega
    have HQ : Hid (quoB c = [92, 110]) := hid (by rw [u8_of e10]; rfl)
    have hcat := bytes_app out [92, 110]
    have hsum : ¬ (9223372036854775807 < out.length + 2) := by have := HLO.out; omega
    clear e34
    clear e92
    clear e8
    clear e9
    clear e10
    go_wp2_with fail
    go_roundg (s.length - (j + 1))
    case measure => have := Hk.out; omega
    exact ⟨j + 1, rfl, by omega, by rw [HN.out, HQ.out]; try simp only [List.append_assoc, List.cons_append, List.nil_append], by go_num, HB.out⟩
   have t10 : ((c.toNat : Int) == 10) = false := by rw [beq_eq_false_iff_ne]; omega
   by_cases e12 : c.toNat = 12
   ·
    have t12 : ((c.toNat : Int) == 12) = true := by rw [beq_iff_eq]; omega
    have HQ : Hid (quoB c = [92, 102]) := hid (by rw [u8_of e12]; rfl)
    have hcat := bytes_app out [92, 102]
    have hsum : ¬ (9223372036854775807 < out.length + 2) := by have := HLO.out; omega
    clear e34
    clear e92
    clear e8
    clear e9
    clear e10
    clear e12
    go_wp2_with fail
    go_roundg (s.length - (j + 1))
    case measure => have := Hk.out; omega
    exact ⟨j + 1, rfl, by omega, by rw [HN.out, HQ.out]; try simp only [List.append_assoc, List.cons_append, List.nil_append], by go_num, HB.out⟩
   have t12 : ((c.toNat : Int) == 12) = false := by rw [beq_eq_false_iff_ne]; omega
   by_cases e13 : c.toNat = 13
   ·
    have t13 : ((c.toNat : Int) == 13) = true := by rw [beq_iff_eq]; omega
    have HQ : Hid (quoB c = [92, 114]) := hid (by rw [u8_of e13]; rfl)
    have hcat := bytes_app out [92, 114]
    have hsum : ¬ (9223372036854775807 < out.length + 2) := by have := HLO.out; omega
    clear e34
    clear e92
    clear e8
    clear e9
    clear e10
    clear e12
    clear e13
    go_wp2_with fail
    go_roundg (s.length - (j + 1))
    case measure => have := Hk.out; omega
    exact ⟨j + 1, rfl, by omega, by rw [HN.out, HQ.out]; try simp only [List.append_assoc, List.cons_append, List.nil_append], by go_num, HB.out⟩
   have t13 : ((c.toNat : Int) == 13) = false := by rw [beq_eq_false_iff_ne]; omega
   by_cases e32 : c.toNat < 32
   ·
    have t32 : (c.toNat : Int) < 32 := by omega
    go_upto_region 20 with fail
    clear t34 t92 t8 t9 t10 t12 t13 t32
    have hcs : c = 0 ∨ c = 1 ∨ c = 2 ∨ c = 3 ∨ c = 4 ∨ c = 5 ∨ c = 6 ∨ c = 7 ∨ c = 11 ∨ c = 14 ∨ c = 15 ∨ c = 16 ∨ c = 17 ∨ c = 18 ∨ c = 19 ∨ c = 20 ∨ c = 21 ∨ c = 22 ∨ c = 23 ∨ c = 24 ∨ c = 25 ∨ c = 26 ∨ c = 27 ∨ c = 28 ∨ c = 29 ∨ c = 30 ∨ c = 31 := by
     have h9 : c.toNat = 0 ∨ c.toNat = 1 ∨ c.toNat = 2 ∨ c.toNat = 3 ∨ c.toNat = 4 ∨ c.toNat = 5 ∨ c.toNat = 6 ∨ c.toNat = 7 ∨ c.toNat = 11 ∨ c.toNat = 14 ∨ c.toNat = 15 ∨ c.toNat = 16 ∨ c.toNat = 17 ∨ c.toNat = 18 ∨ c.toNat = 19 ∨ c.toNat = 20 ∨ c.toNat = 21 ∨ c.toNat = 22 ∨ c.toNat = 23 ∨ c.toNat = 24 ∨ c.toNat = 25 ∨ c.toNat = 26 ∨ c.toNat = 27 ∨ c.toNat = 28 ∨ c.toNat = 29 ∨ c.toNat = 30 ∨ c.toNat = 31 := by omega
     rcases h9 with f | f | f | f | f | f | f | f | f | f | f | f | f | f | f | f | f | f | f | f | f | f | f | f | f | f | f <;> (rw [u8_of f]; decide)
    have hcat : ∀ a b : List UInt8, (⟨a.toArray⟩ : ByteArray) ++ ⟨b.toArray⟩ = ⟨(a ++ b).toArray⟩ := bytes_app
    have hsum1 : ¬ (9223372036854775807 < out.length + 4) := by have := HLO.out; omega
    have hsum2 : ¬ (9223372036854775807 < out.length + 5) := by have := HLO.out; omega
    have hsum3 : ¬ (9223372036854775807 < out.length + 6) := by have := HLO.out; omega
    have hsum2b : ¬ (9223372036854775807 < out.length + 4 + 1) := by have := HLO.out; omega
    have hsum3b : ¬ (9223372036854775807 < out.length + 5 + 1) := by have := HLO.out; omega
    have hy0 : (⟨#[48, 49]⟩ : ByteArray).extract 0 1 = ⟨[48].toArray⟩ := rfl
    have hy1 : (⟨#[48, 49]⟩ : ByteArray).extract 1 2 = ⟨[49].toArray⟩ := rfl
    have hx0 : (⟨#[48, 49, 50, 51, 52, 53, 54, 55, 56, 57, 97, 98, 99, 100, 101, 102]⟩ : ByteArray).extract 0 1 = ⟨[48].toArray⟩ := rfl
    have hx1 : (⟨#[48, 49, 50, 51, 52, 53, 54, 55, 56, 57, 97, 98, 99, 100, 101, 102]⟩ : ByteArray).extract 1 2 = ⟨[49].toArray⟩ := rfl
    have hx2 : (⟨#[48, 49, 50, 51, 52, 53, 54, 55, 56, 57, 97, 98, 99, 100, 101, 102]⟩ : ByteArray).extract 2 3 = ⟨[50].toArray⟩ := rfl
    have hx3 : (⟨#[48, 49, 50, 51, 52, 53, 54, 55, 56, 57, 97, 98, 99, 100, 101, 102]⟩ : ByteArray).extract 3 4 = ⟨[51].toArray⟩ := rfl
    have hx4 : (⟨#[48, 49, 50, 51, 52, 53, 54, 55, 56, 57, 97, 98, 99, 100, 101, 102]⟩ : ByteArray).extract 4 5 = ⟨[52].toArray⟩ := rfl
    have hx5 : (⟨#[48, 49, 50, 51, 52, 53, 54, 55, 56, 57, 97, 98, 99, 100, 101, 102]⟩ : ByteArray).extract 5 6 = ⟨[53].toArray⟩ := rfl
    have hx6 : (⟨#[48, 49, 50, 51, 52, 53, 54, 55, 56, 57, 97, 98, 99, 100, 101, 102]⟩ : ByteArray).extract 6 7 = ⟨[54].toArray⟩ := rfl
    have hx7 : (⟨#[48, 49, 50, 51, 52, 53, 54, 55, 56, 57, 97, 98, 99, 100, 101, 102]⟩ : ByteArray).extract 7 8 = ⟨[55].toArray⟩ := rfl
    have hx8 : (⟨#[48, 49, 50, 51, 52, 53, 54, 55, 56, 57, 97, 98, 99, 100, 101, 102]⟩ : ByteArray).extract 8 9 = ⟨[56].toArray⟩ := rfl
    have hx9 : (⟨#[48, 49, 50, 51, 52, 53, 54, 55, 56, 57, 97, 98, 99, 100, 101, 102]⟩ : ByteArray).extract 9 10 = ⟨[57].toArray⟩ := rfl
    have hx10 : (⟨#[48, 49, 50, 51, 52, 53, 54, 55, 56, 57, 97, 98, 99, 100, 101, 102]⟩ : ByteArray).extract 10 11 = ⟨[97].toArray⟩ := rfl
    have hx11 : (⟨#[48, 49, 50, 51, 52, 53, 54, 55, 56, 57, 97, 98, 99, 100, 101, 102]⟩ : ByteArray).extract 11 12 = ⟨[98].toArray⟩ := rfl
    have hx12 : (⟨#[48, 49, 50, 51, 52, 53, 54, 55, 56, 57, 97, 98, 99, 100, 101, 102]⟩ : ByteArray).extract 12 13 = ⟨[99].toArray⟩ := rfl
    have hx13 : (⟨#[48, 49, 50, 51, 52, 53, 54, 55, 56, 57, 97, 98, 99, 100, 101, 102]⟩ : ByteArray).extract 13 14 = ⟨[100].toArray⟩ := rfl
    have hx14 : (⟨#[48, 49, 50, 51, 52, 53, 54, 55, 56, 57, 97, 98, 99, 100, 101, 102]⟩ : ByteArray).extract 14 15 = ⟨[101].toArray⟩ := rfl
    have hx15 : (⟨#[48, 49, 50, 51, 52, 53, 54, 55, 56, 57, 97, 98, 99, 100, 101, 102]⟩ : ByteArray).extract 15 16 = ⟨[102].toArray⟩ := rfl
    clear e34 e92 e8 e9 e10 e12 e13 e32
    rcases hcs with rfl | rfl | rfl | rfl | rfl | rfl | rfl | rfl | rfl | rfl | rfl | rfl | rfl | rfl | rfl | rfl | rfl | rfl | rfl | rfl | rfl | rfl | rfl | rfl | rfl | rfl | rfl <;> (
     go_quiet (fail)
     go_wp2_with fail
     go_roundg (s.length - (j + 1))
     case measure => have := Hk.out; omega
     case rel => exact ⟨j + 1, rfl, by omega, by rw [HN.out]; first | rfl | (simp only [List.append_assoc, List.cons_append, List.nil_append]; rfl) | (simp [List.append_assoc]; rfl), by go_num, by have := below_drewN HB.out nq; exact this⟩)
   have t32 : ¬ (c.toNat : Int) < 32 := by omega
   have HQ : Hid (quoB c = [c]) := hid (by
    unfold quoB
    rw [if_neg (fun h => e34 (by rw [h]; rfl))]
    rw [if_neg (fun h => e92 (by rw [h]; rfl))]
    rw [if_neg (fun h => e8 (by rw [h]; rfl))]
    rw [if_neg (fun h => e12 (by rw [h]; rfl))]
    rw [if_neg (fun h => e10 (by rw [h]; rfl))]
    rw [if_neg (fun h => e13 (by rw [h]; rfl))]
    rw [if_neg (fun h => e9 (by rw [h]; rfl))]
    rw [if_neg (show ¬ c < 32 from fun h => e32 h)])
   have hcat := bytes_app out [c]
   have hsum : ¬ (9223372036854775807 < out.length + [c].length) := by have := HLO.out; simp only [List.length_cons, List.length_nil]; omega
   clear e34 e92 e8 e9 e10 e12 e13 e32
   go_wp2_with fail
   go_roundg (s.length - (j + 1))
   case measure => have := Hk.out; omega
   exact ⟨j + 1, rfl, by omega, by rw [HN.out, HQ.out]; try simp only [List.append_assoc, List.cons_append, List.nil_append], by go_num, HB.out⟩
  obtain rfl : j = s.length := by omega
  have hlt2 : ¬ (s.length : Int) < s.length := by omega
  have hqs := quoS_len s
  rw [List.take_length]
  have hcat := bytes_app (34 :: quoS s) [34]
  have HQ : Hid ((34 :: quoS s) ++ [34] = quoT s) := hid rfl
  have hsum : ¬ (9223372036854775807 < (34 :: quoS s).length + 1) := by simp only [List.length_cons]; omega
  rw [HQ.out] at hcat
  generalize 34 :: quoS s = out at *
  go_wp2_with fail
  go_ret
  exact ⟨rfl, HB.out⟩
end Go.Proofs.YtfclfaidmipjpaaGreatDoor
