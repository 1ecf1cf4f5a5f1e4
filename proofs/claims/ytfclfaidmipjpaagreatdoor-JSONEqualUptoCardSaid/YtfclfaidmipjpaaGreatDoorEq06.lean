/- Texts of this claim, joined: Qr1. -/
import Derived.Test.YtfclfaidmipjpaaGreatDoorEq02
namespace Go.Proofs.YtfclfaidmipjpaaGreatDoor
set_option maxRecDepth 100000
set_option maxHeartbeats 20000000
open Go.RowKit
theorem u8_of {c : UInt8} {n : Nat} (h : c.toNat = n) : c = UInt8.ofNat n := by rw [← h, UInt8.ofNat_toNat]
theorem quoteR_calls (w : World) (s : List UInt8) (hs : s.length ≤ 1000000000) :
  Calls Tryz.prog 33 #[.string ⟨s.toArray⟩] w fun e w' => e = .returned (.string ⟨(quoT s).toArray⟩) ∧ Below w.heap.size w w' := by
 go_enter Tryz.func33, Tryz.ntmps33
 go_wp2_with fail
 go_loopg [3, 4] s.length (fun k s3 s4 wr => ∃ j : Nat, k = s.length - j ∧ j ≤ s.length ∧ s3 = .string ⟨(34 :: quoS (s.take j)).toArray⟩ ∧ s4 = .int .i64 j ∧ Below w.heap.size w wr)
 case atStart => exact ⟨0, rfl, Nat.zero_le _, rfl, rfl, Below.refl _ _⟩
 case round =>
  obtain ⟨j, hk, hj, rfl, rfl, hbw⟩ := hrel
  have Hk := Lib.hid hk
  have HB := Lib.hid hbw
  clear hk hbw
  by_cases hlt : j < s.length
  ·
   have hlt2 : (j : Int) < s.length := by omega
   have hij := byte_at s j hlt
   have HT := Lib.hid (take_one s j hlt)
   have HN : Hid (34 :: quoS (s.take (j + 1)) = (34 :: quoS (s.take j)) ++ quoB (s.getD j 0)) := Lib.hid (by rw [HT.out, quoS_app]; show _ :: _ = _ :: _; congr 1; show _ = quoS (s.take j) ++ (quoB _); congr 1; show quoB _ ++ [] = _; rw [List.append_nil])
   have HLO : Hid ((34 :: quoS (s.take j)).length ≤ 6 * s.length + 1) := Lib.hid (by
    have h1 := quoS_len (s.take j)
    rw [List.length_take] at h1
    simp only [List.length_cons]
    omega)
   have hext : (⟨s.toArray⟩ : ByteArray).extract j (j + 1) = ⟨[s.getD j 0].toArray⟩ := by rw [Lib.extract_eq, Nat.add_sub_cancel_left, drop_at hlt]; rfl
   have hwr : IntKind.i64.wrap ((j : Int) + 1) = (j : Int) + 1 := IntWalk.i64_in _ (by omega)
   have hjs : (j : Int) + 1 ≤ s.length := by omega
   clear HT
   generalize 34 :: quoS (s.take j) = out at *
   generalize s.getD j 0 = c at *
   by_cases e34 : c.toNat = 34
   ·
    have t34 : ((c.toNat : Int) == 34) = true := by rw [beq_iff_eq]; omega
    have HQ : Hid (quoB c = [92, 34]) := Lib.hid (by rw [u8_of e34]; rfl)
    have hcc : [c] = [34] := by rw [u8_of e34]; rfl
    rw [hcc] at hext
    have hcat1 := bytes_app out [92]
    have hcat2 := bytes_app (out ++ [92]) [34]
    have hsum1 : ¬ (9223372036854775807 < out.length + 1) := by have := HLO.out; omega
    have hsum2 : ¬ (9223372036854775807 < out.length + 1 + 1) := by have := HLO.out; omega
    clear e34
    try simp only [List.append_assoc, List.cons_append, List.nil_append] at hcat2
    go_wp2_with fail
    go_roundg (s.length - (j + 1))
    case measure => have := Hk.out; omega
    exact ⟨j + 1, rfl, by omega, by rw [HN.out, HQ.out]; try simp only [List.append_assoc, List.cons_append, List.nil_append], by go_num, HB.out⟩
   have t34 : ((c.toNat : Int) == 34) = false := by rw [beq_eq_false_iff_ne]; omega
   by_cases e92 : c.toNat = 92
   ·
    have t92 : ((c.toNat : Int) == 92) = true := by rw [beq_iff_eq]; omega
    have HQ : Hid (quoB c = [92, 92]) := Lib.hid (by rw [u8_of e92]; rfl)
    have hcc : [c] = [92] := by rw [u8_of e92]; rfl
    rw [hcc] at hext
    have hcat1 := bytes_app out [92]
    have hcat2 := bytes_app (out ++ [92]) [92]
    have hsum1 : ¬ (9223372036854775807 < out.length + 1) := by have := HLO.out; omega
    have hsum2 : ¬ (9223372036854775807 < out.length + 1 + 1) := by have := HLO.out; omega
    clear e34
    clear e92
    try simp only [List.append_assoc, List.cons_append, List.nil_append] at hcat2
    go_wp2_with fail
    go_roundg (s.length - (j + 1))
    case measure => have := Hk.out; omega
    exact ⟨j + 1, rfl, by omega, by rw [HN.out, HQ.out]; try simp only [List.append_assoc, List.cons_append, List.nil_append], by go_num, HB.out⟩
   have t92 : ((c.toNat : Int) == 92) = false := by rw [beq_eq_false_iff_ne]; omega
   by_cases e8 : c.toNat = 8
   ·
    have t8 : ((c.toNat : Int) == 8) = true := by rw [beq_iff_eq]; omega
    have HQ : Hid (quoB c = [92, 98]) := Lib.hid (by rw [u8_of e8]; rfl)
    have hcat := bytes_app out [92, 98]
    have hsum : ¬ (9223372036854775807 < out.length + 2) := by have := HLO.out; omega
    clear e34
    clear e92
    clear e8
    go_wp2_with fail
    go_roundg (s.length - (j + 1))
    case measure => have := Hk.out; omega
    exact ⟨j + 1, rfl, by omega, by rw [HN.out, HQ.out]; try simp only [List.append_assoc, List.cons_append, List.nil_append], by go_num, HB.out⟩
   have t8 : ((c.toNat : Int) == 8) = false := by rw [beq_eq_false_iff_ne]; omega
   by_cases e9 : c.toNat = 9
   ·
    have t9 : ((c.toNat : Int) == 9) = true := by rw [beq_iff_eq]; omega
    have HQ : Hid (quoB c = [92, 116]) := Lib.hid (by rw [u8_of e9]; rfl)
    have hcat := bytes_app out [92, 116]
    have hsum : ¬ (9223372036854775807 < out.length + 2) := by have := HLO.out; omega
    clear e34
    clear e92
    clear e8
    clear e9
    go_wp2_with fail
    go_roundg (s.length - (j + 1))
    case measure => have := Hk.out; omega
    exact ⟨j + 1, rfl, by omega, by rw [HN.out, HQ.out]; try simp only [List.append_assoc, List.cons_append, List.nil_append], by go_num, HB.out⟩
   have t9 : ((c.toNat : Int) == 9) = false := by rw [beq_eq_false_iff_ne]; omega
   by_cases e10 : c.toNat = 10
   ·
    have t10 : ((c.toNat : Int) == 10) = true := by rw [beq_iff_eq]; omega
    have HQ : Hid (quoB c = [92, 110]) := Lib.hid (by rw [u8_of e10]; rfl)
    have hcat := bytes_app out [92, 110]
    have hsum : ¬ (9223372036854775807 < out.length + 2) := by have := HLO.out; omega
    clear e34
    clear e92
    clear e8
    clear e9
    clear e10
    go_wp2_with fail
    go_roundg (s.length - (j + 1))
    case measure => have := Hk.out; omega
    exact ⟨j + 1, rfl, by omega, by rw [HN.out, HQ.out]; try simp only [List.append_assoc, List.cons_append, List.nil_append], by go_num, HB.out⟩
   have t10 : ((c.toNat : Int) == 10) = false := by rw [beq_eq_false_iff_ne]; omega
   by_cases e12 : c.toNat = 12
   ·
    have t12 : ((c.toNat : Int) == 12) = true := by rw [beq_iff_eq]; omega
    have HQ : Hid (quoB c = [92, 102]) := Lib.hid (by rw [u8_of e12]; rfl)
    have hcat := bytes_app out [92, 102]
    have hsum : ¬ (9223372036854775807 < out.length + 2) := by have := HLO.out; omega
    clear e34
    clear e92
    clear e8
    clear e9
    clear e10
    clear e12
    go_wp2_with fail
    go_roundg (s.length - (j + 1))
    case measure => have := Hk.out; omega
    exact ⟨j + 1, rfl, by omega, by rw [HN.out, HQ.out]; try simp only [List.append_assoc, List.cons_append, List.nil_append], by go_num, HB.out⟩
   have t12 : ((c.toNat : Int) == 12) = false := by rw [beq_eq_false_iff_ne]; omega
   by_cases e13 : c.toNat = 13
   ·
    have t13 : ((c.toNat : Int) == 13) = true := by rw [beq_iff_eq]; omega
    have HQ : Hid (quoB c = [92, 114]) := Lib.hid (by rw [u8_of e13]; rfl)
    have hcat := bytes_app out [92, 114]
    have hsum : ¬ (9223372036854775807 < out.length + 2) := by have := HLO.out; omega
    clear e34
    clear e92
    clear e8
    clear e9
    clear e10
    clear e12
    clear e13
    go_wp2_with fail
    go_roundg (s.length - (j + 1))
    case measure => have := Hk.out; omega
    exact ⟨j + 1, rfl, by omega, by rw [HN.out, HQ.out]; try simp only [List.append_assoc, List.cons_append, List.nil_append], by go_num, HB.out⟩
   have t13 : ((c.toNat : Int) == 13) = false := by rw [beq_eq_false_iff_ne]; omega
   by_cases e32 : c.toNat < 32
   ·
    have t32 : (c.toNat : Int) < 32 := by omega
    go_upto_region 20 with fail
    clear t34 t92 t8 t9 t10 t12 t13 t32
    have hcat1 := bytes_app out [92, 117, 48, 48]
    have hsum1 : ¬ (9223372036854775807 < out.length + 4) := by have := HLO.out; omega
    have hsum2 : ¬ (9223372036854775807 < out.length + 5) := by have := HLO.out; omega
    have hsum3 : ¬ (9223372036854775807 < out.length + 6) := by have := HLO.out; omega
    have hsum2b : ¬ (9223372036854775807 < out.length + 4 + 1) := by have := HLO.out; omega
    have hsum3b : ¬ (9223372036854775807 < out.length + 5 + 1) := by have := HLO.out; omega
    clear e34 e92
    by_cases f0 : c.toNat = 0
    ·
     obtain rfl : c = 0 := u8_of f0
     clear e8 e9 e10 e12 e13 e32 f0
     have HQ : Hid (quoB 0 = [92, 117, 48, 48, 48, 48]) := Lib.hid rfl
     have hx1 : (⟨#[48, 49]⟩ : ByteArray).extract 0 1 = ⟨[48].toArray⟩ := rfl
     have hx2 : (⟨#[48, 49, 50, 51, 52, 53, 54, 55, 56, 57, 97, 98, 99, 100, 101, 102]⟩ : ByteArray).extract 0 1 = ⟨[48].toArray⟩ := rfl
     have hcat2 := bytes_app (out ++ [92, 117, 48, 48]) [48]
     have hcat3 := bytes_app (out ++ [92, 117, 48, 48] ++ [48]) [48]
     simp only [List.append_assoc, List.cons_append, List.nil_append] at hcat2 hcat3
     go_quiet (fail)
     go_wp2_with fail
     go_roundg (s.length - (j + 1))
     case measure => have := Hk.out; omega
     exact ⟨j + 1, rfl, by omega, by rw [HN.out, HQ.out]; try simp only [List.append_assoc, List.cons_append, List.nil_append], by go_num, by have := below_drewN HB.out nq; exact this⟩
    by_cases f1 : c.toNat = 1
    ·
     obtain rfl : c = 1 := u8_of f1
     clear e8 e9 e10 e12 e13 e32 f0 f1
     have HQ : Hid (quoB 1 = [92, 117, 48, 48, 48, 49]) := Lib.hid rfl
     have hx1 : (⟨#[48, 49]⟩ : ByteArray).extract 0 1 = ⟨[48].toArray⟩ := rfl
     have hx2 : (⟨#[48, 49, 50, 51, 52, 53, 54, 55, 56, 57, 97, 98, 99, 100, 101, 102]⟩ : ByteArray).extract 1 2 = ⟨[49].toArray⟩ := rfl
     have hcat2 := bytes_app (out ++ [92, 117, 48, 48]) [48]
     have hcat3 := bytes_app (out ++ [92, 117, 48, 48] ++ [48]) [49]
     simp only [List.append_assoc, List.cons_append, List.nil_append] at hcat2 hcat3
     go_quiet (fail)
     go_wp2_with fail
     go_roundg (s.length - (j + 1))
     case measure => have := Hk.out; omega
     exact ⟨j + 1, rfl, by omega, by rw [HN.out, HQ.out]; try simp only [List.append_assoc, List.cons_append, List.nil_append], by go_num, by have := below_drewN HB.out nq; exact this⟩
    by_cases f2 : c.toNat = 2
    ·
     obtain rfl : c = 2 := u8_of f2
     clear e8 e9 e10 e12 e13 e32 f0 f1 f2
     have HQ : Hid (quoB 2 = [92, 117, 48, 48, 48, 50]) := Lib.hid rfl
     have hx1 : (⟨#[48, 49]⟩ : ByteArray).extract 0 1 = ⟨[48].toArray⟩ := rfl
     have hx2 : (⟨#[48, 49, 50, 51, 52, 53, 54, 55, 56, 57, 97, 98, 99, 100, 101, 102]⟩ : ByteArray).extract 2 3 = ⟨[50].toArray⟩ := rfl
     have hcat2 := bytes_app (out ++ [92, 117, 48, 48]) [48]
     have hcat3 := bytes_app (out ++ [92, 117, 48, 48] ++ [48]) [50]
     simp only [List.append_assoc, List.cons_append, List.nil_append] at hcat2 hcat3
     go_quiet (fail)
     go_wp2_with fail
     go_roundg (s.length - (j + 1))
     case measure => have := Hk.out; omega
     exact ⟨j + 1, rfl, by omega, by rw [HN.out, HQ.out]; try simp only [List.append_assoc, List.cons_append, List.nil_append], by go_num, by have := below_drewN HB.out nq; exact this⟩
    by_cases f3 : c.toNat = 3
    ·
     obtain rfl : c = 3 := u8_of f3
     clear e8 e9 e10 e12 e13 e32 f0 f1 f2 f3
     have HQ : Hid (quoB 3 = [92, 117, 48, 48, 48, 51]) := Lib.hid rfl
     have hx1 : (⟨#[48, 49]⟩ : ByteArray).extract 0 1 = ⟨[48].toArray⟩ := rfl
     have hx2 : (⟨#[48, 49, 50, 51, 52, 53, 54, 55, 56, 57, 97, 98, 99, 100, 101, 102]⟩ : ByteArray).extract 3 4 = ⟨[51].toArray⟩ := rfl
     have hcat2 := bytes_app (out ++ [92, 117, 48, 48]) [48]
     have hcat3 := bytes_app (out ++ [92, 117, 48, 48] ++ [48]) [51]
     simp only [List.append_assoc, List.cons_append, List.nil_append] at hcat2 hcat3
     go_quiet (fail)
     go_wp2_with fail
     go_roundg (s.length - (j + 1))
     case measure => have := Hk.out; omega
     exact ⟨j + 1, rfl, by omega, by rw [HN.out, HQ.out]; try simp only [List.append_assoc, List.cons_append, List.nil_append], by go_num, by have := below_drewN HB.out nq; exact this⟩
    by_cases f4 : c.toNat = 4
    ·
     obtain rfl : c = 4 := u8_of f4
     clear e8 e9 e10 e12 e13 e32 f0 f1 f2 f3 f4
     have HQ : Hid (quoB 4 = [92, 117, 48, 48, 48, 52]) := Lib.hid rfl
     have hx1 : (⟨#[48, 49]⟩ : ByteArray).extract 0 1 = ⟨[48].toArray⟩ := rfl
     have hx2 : (⟨#[48, 49, 50, 51, 52, 53, 54, 55, 56, 57, 97, 98, 99, 100, 101, 102]⟩ : ByteArray).extract 4 5 = ⟨[52].toArray⟩ := rfl
     have hcat2 := bytes_app (out ++ [92, 117, 48, 48]) [48]
     have hcat3 := bytes_app (out ++ [92, 117, 48, 48] ++ [48]) [52]
     simp only [List.append_assoc, List.cons_append, List.nil_append] at hcat2 hcat3
     go_quiet (fail)
     go_wp2_with fail
     go_roundg (s.length - (j + 1))
     case measure => have := Hk.out; omega
     exact ⟨j + 1, rfl, by omega, by rw [HN.out, HQ.out]; try simp only [List.append_assoc, List.cons_append, List.nil_append], by go_num, by have := below_drewN HB.out nq; exact this⟩
    by_cases f5 : c.toNat = 5
    ·
     obtain rfl : c = 5 := u8_of f5
     clear e8 e9 e10 e12 e13 e32 f0 f1 f2 f3 f4 f5
     have HQ : Hid (quoB 5 = [92, 117, 48, 48, 48, 53]) := Lib.hid rfl
     have hx1 : (⟨#[48, 49]⟩ : ByteArray).extract 0 1 = ⟨[48].toArray⟩ := rfl
     have hx2 : (⟨#[48, 49, 50, 51, 52, 53, 54, 55, 56, 57, 97, 98, 99, 100, 101, 102]⟩ : ByteArray).extract 5 6 = ⟨[53].toArray⟩ := rfl
     have hcat2 := bytes_app (out ++ [92, 117, 48, 48]) [48]
     have hcat3 := bytes_app (out ++ [92, 117, 48, 48] ++ [48]) [53]
     simp only [List.append_assoc, List.cons_append, List.nil_append] at hcat2 hcat3
     go_quiet (fail)
     go_wp2_with fail
     go_roundg (s.length - (j + 1))
     case measure => have := Hk.out; omega
     exact ⟨j + 1, rfl, by omega, by rw [HN.out, HQ.out]; try simp only [List.append_assoc, List.cons_append, List.nil_append], by go_num, by have := below_drewN HB.out nq; exact this⟩
    by_cases f6 : c.toNat = 6
    ·
     obtain rfl : c = 6 := u8_of f6
     clear e8 e9 e10 e12 e13 e32 f0 f1 f2 f3 f4 f5 f6
     have HQ : Hid (quoB 6 = [92, 117, 48, 48, 48, 54]) := Lib.hid rfl
     have hx1 : (⟨#[48, 49]⟩ : ByteArray).extract 0 1 = ⟨[48].toArray⟩ := rfl
     have hx2 : (⟨#[48, 49, 50, 51, 52, 53, 54, 55, 56, 57, 97, 98, 99, 100, 101, 102]⟩ : ByteArray).extract 6 7 = ⟨[54].toArray⟩ := rfl
     have hcat2 := bytes_app (out ++ [92, 117, 48, 48]) [48]
     have hcat3 := bytes_app (out ++ [92, 117, 48, 48] ++ [48]) [54]
     simp only [List.append_assoc, List.cons_append, List.nil_append] at hcat2 hcat3
     go_quiet (fail)
     go_wp2_with fail
     go_roundg (s.length - (j + 1))
     case measure => have := Hk.out; omega
     exact ⟨j + 1, rfl, by omega, by rw [HN.out, HQ.out]; try simp only [List.append_assoc, List.cons_append, List.nil_append], by go_num, by have := below_drewN HB.out nq; exact this⟩
    by_cases f7 : c.toNat = 7
    ·
     obtain rfl : c = 7 := u8_of f7
     clear e8 e9 e10 e12 e13 e32 f0 f1 f2 f3 f4 f5 f6 f7
     have HQ : Hid (quoB 7 = [92, 117, 48, 48, 48, 55]) := Lib.hid rfl
     have hx1 : (⟨#[48, 49]⟩ : ByteArray).extract 0 1 = ⟨[48].toArray⟩ := rfl
     have hx2 : (⟨#[48, 49, 50, 51, 52, 53, 54, 55, 56, 57, 97, 98, 99, 100, 101, 102]⟩ : ByteArray).extract 7 8 = ⟨[55].toArray⟩ := rfl
     have hcat2 := bytes_app (out ++ [92, 117, 48, 48]) [48]
     have hcat3 := bytes_app (out ++ [92, 117, 48, 48] ++ [48]) [55]
     simp only [List.append_assoc, List.cons_append, List.nil_append] at hcat2 hcat3
     go_quiet (fail)
     go_wp2_with fail
     go_roundg (s.length - (j + 1))
     case measure => have := Hk.out; omega
     exact ⟨j + 1, rfl, by omega, by rw [HN.out, HQ.out]; try simp only [List.append_assoc, List.cons_append, List.nil_append], by go_num, by have := below_drewN HB.out nq; exact this⟩
    by_cases f11 : c.toNat = 11
    ·
     obtain rfl : c = 11 := u8_of f11
     clear e8 e9 e10 e12 e13 e32 f0 f1 f2 f3 f4 f5 f6 f7 f11
     have HQ : Hid (quoB 11 = [92, 117, 48, 48, 48, 98]) := Lib.hid rfl
     have hx1 : (⟨#[48, 49]⟩ : ByteArray).extract 0 1 = ⟨[48].toArray⟩ := rfl
     have hx2 : (⟨#[48, 49, 50, 51, 52, 53, 54, 55, 56, 57, 97, 98, 99, 100, 101, 102]⟩ : ByteArray).extract 11 12 = ⟨[98].toArray⟩ := rfl
     have hcat2 := bytes_app (out ++ [92, 117, 48, 48]) [48]
     have hcat3 := bytes_app (out ++ [92, 117, 48, 48] ++ [48]) [98]
     simp only [List.append_assoc, List.cons_append, List.nil_append] at hcat2 hcat3
     go_quiet (fail)
     go_wp2_with fail
     go_roundg (s.length - (j + 1))
     case measure => have := Hk.out; omega
     exact ⟨j + 1, rfl, by omega, by rw [HN.out, HQ.out]; try simp only [List.append_assoc, List.cons_append, List.nil_append], by go_num, by have := below_drewN HB.out nq; exact this⟩
    by_cases f14 : c.toNat = 14
    ·
     obtain rfl : c = 14 := u8_of f14
     clear e8 e9 e10 e12 e13 e32 f0 f1 f2 f3 f4 f5 f6 f7 f11 f14
     have HQ : Hid (quoB 14 = [92, 117, 48, 48, 48, 101]) := Lib.hid rfl
     have hx1 : (⟨#[48, 49]⟩ : ByteArray).extract 0 1 = ⟨[48].toArray⟩ := rfl
     have hx2 : (⟨#[48, 49, 50, 51, 52, 53, 54, 55, 56, 57, 97, 98, 99, 100, 101, 102]⟩ : ByteArray).extract 14 15 = ⟨[101].toArray⟩ := rfl
     have hcat2 := bytes_app (out ++ [92, 117, 48, 48]) [48]
     have hcat3 := bytes_app (out ++ [92, 117, 48, 48] ++ [48]) [101]
     simp only [List.append_assoc, List.cons_append, List.nil_append] at hcat2 hcat3
     go_quiet (fail)
     go_wp2_with fail
     go_roundg (s.length - (j + 1))
     case measure => have := Hk.out; omega
     exact ⟨j + 1, rfl, by omega, by rw [HN.out, HQ.out]; try simp only [List.append_assoc, List.cons_append, List.nil_append], by go_num, by have := below_drewN HB.out nq; exact this⟩
    by_cases f15 : c.toNat = 15
    ·
     obtain rfl : c = 15 := u8_of f15
     clear e8 e9 e10 e12 e13 e32 f0 f1 f2 f3 f4 f5 f6 f7 f11 f14 f15
     have HQ : Hid (quoB 15 = [92, 117, 48, 48, 48, 102]) := Lib.hid rfl
     have hx1 : (⟨#[48, 49]⟩ : ByteArray).extract 0 1 = ⟨[48].toArray⟩ := rfl
     have hx2 : (⟨#[48, 49, 50, 51, 52, 53, 54, 55, 56, 57, 97, 98, 99, 100, 101, 102]⟩ : ByteArray).extract 15 16 = ⟨[102].toArray⟩ := rfl
     have hcat2 := bytes_app (out ++ [92, 117, 48, 48]) [48]
     have hcat3 := bytes_app (out ++ [92, 117, 48, 48] ++ [48]) [102]
     simp only [List.append_assoc, List.cons_append, List.nil_append] at hcat2 hcat3
     go_quiet (fail)
     go_wp2_with fail
     go_roundg (s.length - (j + 1))
     case measure => have := Hk.out; omega
     exact ⟨j + 1, rfl, by omega, by rw [HN.out, HQ.out]; try simp only [List.append_assoc, List.cons_append, List.nil_append], by go_num, by have := below_drewN HB.out nq; exact this⟩
    by_cases f16 : c.toNat = 16
    ·
     obtain rfl : c = 16 := u8_of f16
     clear e8 e9 e10 e12 e13 e32 f0 f1 f2 f3 f4 f5 f6 f7 f11 f14 f15 f16
     have HQ : Hid (quoB 16 = [92, 117, 48, 48, 49, 48]) := Lib.hid rfl
     have hx1 : (⟨#[48, 49]⟩ : ByteArray).extract 1 2 = ⟨[49].toArray⟩ := rfl
     have hx2 : (⟨#[48, 49, 50, 51, 52, 53, 54, 55, 56, 57, 97, 98, 99, 100, 101, 102]⟩ : ByteArray).extract 0 1 = ⟨[48].toArray⟩ := rfl
     have hcat2 := bytes_app (out ++ [92, 117, 48, 48]) [49]
     have hcat3 := bytes_app (out ++ [92, 117, 48, 48] ++ [49]) [48]
     simp only [List.append_assoc, List.cons_append, List.nil_append] at hcat2 hcat3
     go_quiet (fail)
     go_wp2_with fail
     go_roundg (s.length - (j + 1))
     case measure => have := Hk.out; omega
     exact ⟨j + 1, rfl, by omega, by rw [HN.out, HQ.out]; try simp only [List.append_assoc, List.cons_append, List.nil_append], by go_num, by have := below_drewN HB.out nq; exact this⟩
    by_cases f17 : c.toNat = 17
    ·
     obtain rfl : c = 17 := u8_of f17
     clear e8 e9 e10 e12 e13 e32 f0 f1 f2 f3 f4 f5 f6 f7 f11 f14 f15 f16 f17
     have HQ : Hid (quoB 17 = [92, 117, 48, 48, 49, 49]) := Lib.hid rfl
     have hx1 : (⟨#[48, 49]⟩ : ByteArray).extract 1 2 = ⟨[49].toArray⟩ := rfl
     have hx2 : (⟨#[48, 49, 50, 51, 52, 53, 54, 55, 56, 57, 97, 98, 99, 100, 101, 102]⟩ : ByteArray).extract 1 2 = ⟨[49].toArray⟩ := rfl
     have hcat2 := bytes_app (out ++ [92, 117, 48, 48]) [49]
     have hcat3 := bytes_app (out ++ [92, 117, 48, 48] ++ [49]) [49]
     simp only [List.append_assoc, List.cons_append, List.nil_append] at hcat2 hcat3
     go_quiet (fail)
     go_wp2_with fail
     go_roundg (s.length - (j + 1))
     case measure => have := Hk.out; omega
     exact ⟨j + 1, rfl, by omega, by rw [HN.out, HQ.out]; try simp only [List.append_assoc, List.cons_append, List.nil_append], by go_num, by have := below_drewN HB.out nq; exact this⟩
    by_cases f18 : c.toNat = 18
    ·
     obtain rfl : c = 18 := u8_of f18
     clear e8 e9 e10 e12 e13 e32 f0 f1 f2 f3 f4 f5 f6 f7 f11 f14 f15 f16 f17 f18
     have HQ : Hid (quoB 18 = [92, 117, 48, 48, 49, 50]) := Lib.hid rfl
     have hx1 : (⟨#[48, 49]⟩ : ByteArray).extract 1 2 = ⟨[49].toArray⟩ := rfl
     have hx2 : (⟨#[48, 49, 50, 51, 52, 53, 54, 55, 56, 57, 97, 98, 99, 100, 101, 102]⟩ : ByteArray).extract 2 3 = ⟨[50].toArray⟩ := rfl
     have hcat2 := bytes_app (out ++ [92, 117, 48, 48]) [49]
     have hcat3 := bytes_app (out ++ [92, 117, 48, 48] ++ [49]) [50]
     simp only [List.append_assoc, List.cons_append, List.nil_append] at hcat2 hcat3
     go_quiet (fail)
     go_wp2_with fail
     go_roundg (s.length - (j + 1))
     case measure => have := Hk.out; omega
     exact ⟨j + 1, rfl, by omega, by rw [HN.out, HQ.out]; try simp only [List.append_assoc, List.cons_append, List.nil_append], by go_num, by have := below_drewN HB.out nq; exact this⟩
    by_cases f19 : c.toNat = 19
    ·
     obtain rfl : c = 19 := u8_of f19
     clear e8 e9 e10 e12 e13 e32 f0 f1 f2 f3 f4 f5 f6 f7 f11 f14 f15 f16 f17 f18 f19
     have HQ : Hid (quoB 19 = [92, 117, 48, 48, 49, 51]) := Lib.hid rfl
     have hx1 : (⟨#[48, 49]⟩ : ByteArray).extract 1 2 = ⟨[49].toArray⟩ := rfl
     have hx2 : (⟨#[48, 49, 50, 51, 52, 53, 54, 55, 56, 57, 97, 98, 99, 100, 101, 102]⟩ : ByteArray).extract 3 4 = ⟨[51].toArray⟩ := rfl
     have hcat2 := bytes_app (out ++ [92, 117, 48, 48]) [49]
     have hcat3 := bytes_app (out ++ [92, 117, 48, 48] ++ [49]) [51]
     simp only [List.append_assoc, List.cons_append, List.nil_append] at hcat2 hcat3
     go_quiet (fail)
     go_wp2_with fail
     go_roundg (s.length - (j + 1))
     case measure => have := Hk.out; omega
     exact ⟨j + 1, rfl, by omega, by rw [HN.out, HQ.out]; try simp only [List.append_assoc, List.cons_append, List.nil_append], by go_num, by have := below_drewN HB.out nq; exact this⟩
    by_cases f20 : c.toNat = 20
    ·
     obtain rfl : c = 20 := u8_of f20
     clear e8 e9 e10 e12 e13 e32 f0 f1 f2 f3 f4 f5 f6 f7 f11 f14 f15 f16 f17 f18 f19 f20
     have HQ : Hid (quoB 20 = [92, 117, 48, 48, 49, 52]) := Lib.hid rfl
     have hx1 : (⟨#[48, 49]⟩ : ByteArray).extract 1 2 = ⟨[49].toArray⟩ := rfl
     have hx2 : (⟨#[48, 49, 50, 51, 52, 53, 54, 55, 56, 57, 97, 98, 99, 100, 101, 102]⟩ : ByteArray).extract 4 5 = ⟨[52].toArray⟩ := rfl
     have hcat2 := bytes_app (out ++ [92, 117, 48, 48]) [49]
     have hcat3 := bytes_app (out ++ [92, 117, 48, 48] ++ [49]) [52]
     simp only [List.append_assoc, List.cons_append, List.nil_append] at hcat2 hcat3
     go_quiet (fail)
     go_wp2_with fail
     go_roundg (s.length - (j + 1))
     case measure => have := Hk.out; omega
     exact ⟨j + 1, rfl, by omega, by rw [HN.out, HQ.out]; try simp only [List.append_assoc, List.cons_append, List.nil_append], by go_num, by have := below_drewN HB.out nq; exact this⟩
    by_cases f21 : c.toNat = 21
    ·
     obtain rfl : c = 21 := u8_of f21
     clear e8 e9 e10 e12 e13 e32 f0 f1 f2 f3 f4 f5 f6 f7 f11 f14 f15 f16 f17 f18 f19 f20 f21
     have HQ : Hid (quoB 21 = [92, 117, 48, 48, 49, 53]) := Lib.hid rfl
     have hx1 : (⟨#[48, 49]⟩ : ByteArray).extract 1 2 = ⟨[49].toArray⟩ := rfl
     have hx2 : (⟨#[48, 49, 50, 51, 52, 53, 54, 55, 56, 57, 97, 98, 99, 100, 101, 102]⟩ : ByteArray).extract 5 6 = ⟨[53].toArray⟩ := rfl
     have hcat2 := bytes_app (out ++ [92, 117, 48, 48]) [49]
     have hcat3 := bytes_app (out ++ [92, 117, 48, 48] ++ [49]) [53]
     simp only [List.append_assoc, List.cons_append, List.nil_append] at hcat2 hcat3
     go_quiet (fail)
     go_wp2_with fail
     go_roundg (s.length - (j + 1))
     case measure => have := Hk.out; omega
     exact ⟨j + 1, rfl, by omega, by rw [HN.out, HQ.out]; try simp only [List.append_assoc, List.cons_append, List.nil_append], by go_num, by have := below_drewN HB.out nq; exact this⟩
    by_cases f22 : c.toNat = 22
    ·
     obtain rfl : c = 22 := u8_of f22
     clear e8 e9 e10 e12 e13 e32 f0 f1 f2 f3 f4 f5 f6 f7 f11 f14 f15 f16 f17 f18 f19 f20 f21 f22
     have HQ : Hid (quoB 22 = [92, 117, 48, 48, 49, 54]) := Lib.hid rfl
     have hx1 : (⟨#[48, 49]⟩ : ByteArray).extract 1 2 = ⟨[49].toArray⟩ := rfl
     have hx2 : (⟨#[48, 49, 50, 51, 52, 53, 54, 55, 56, 57, 97, 98, 99, 100, 101, 102]⟩ : ByteArray).extract 6 7 = ⟨[54].toArray⟩ := rfl
     have hcat2 := bytes_app (out ++ [92, 117, 48, 48]) [49]
     have hcat3 := bytes_app (out ++ [92, 117, 48, 48] ++ [49]) [54]
     simp only [List.append_assoc, List.cons_append, List.nil_append] at hcat2 hcat3
     go_quiet (fail)
     go_wp2_with fail
     go_roundg (s.length - (j + 1))
     case measure => have := Hk.out; omega
     exact ⟨j + 1, rfl, by omega, by rw [HN.out, HQ.out]; try simp only [List.append_assoc, List.cons_append, List.nil_append], by go_num, by have := below_drewN HB.out nq; exact this⟩
    by_cases f23 : c.toNat = 23
    ·
     obtain rfl : c = 23 := u8_of f23
     clear e8 e9 e10 e12 e13 e32 f0 f1 f2 f3 f4 f5 f6 f7 f11 f14 f15 f16 f17 f18 f19 f20 f21 f22 f23
     have HQ : Hid (quoB 23 = [92, 117, 48, 48, 49, 55]) := Lib.hid rfl
     have hx1 : (⟨#[48, 49]⟩ : ByteArray).extract 1 2 = ⟨[49].toArray⟩ := rfl
     have hx2 : (⟨#[48, 49, 50, 51, 52, 53, 54, 55, 56, 57, 97, 98, 99, 100, 101, 102]⟩ : ByteArray).extract 7 8 = ⟨[55].toArray⟩ := rfl
     have hcat2 := bytes_app (out ++ [92, 117, 48, 48]) [49]
     have hcat3 := bytes_app (out ++ [92, 117, 48, 48] ++ [49]) [55]
     simp only [List.append_assoc, List.cons_append, List.nil_append] at hcat2 hcat3
     go_quiet (fail)
     go_wp2_with fail
     go_roundg (s.length - (j + 1))
     case measure => have := Hk.out; omega
     exact ⟨j + 1, rfl, by omega, by rw [HN.out, HQ.out]; try simp only [List.append_assoc, List.cons_append, List.nil_append], by go_num, by have := below_drewN HB.out nq; exact this⟩
    by_cases f24 : c.toNat = 24
    ·
     obtain rfl : c = 24 := u8_of f24
     clear e8 e9 e10 e12 e13 e32 f0 f1 f2 f3 f4 f5 f6 f7 f11 f14 f15 f16 f17 f18 f19 f20 f21 f22 f23 f24
     have HQ : Hid (quoB 24 = [92, 117, 48, 48, 49, 56]) := Lib.hid rfl
     have hx1 : (⟨#[48, 49]⟩ : ByteArray).extract 1 2 = ⟨[49].toArray⟩ := rfl
     have hx2 : (⟨#[48, 49, 50, 51, 52, 53, 54, 55, 56, 57, 97, 98, 99, 100, 101, 102]⟩ : ByteArray).extract 8 9 = ⟨[56].toArray⟩ := rfl
     have hcat2 := bytes_app (out ++ [92, 117, 48, 48]) [49]
     have hcat3 := bytes_app (out ++ [92, 117, 48, 48] ++ [49]) [56]
     simp only [List.append_assoc, List.cons_append, List.nil_append] at hcat2 hcat3
     go_quiet (fail)
     go_wp2_with fail
     go_roundg (s.length - (j + 1))
     case measure => have := Hk.out; omega
     exact ⟨j + 1, rfl, by omega, by rw [HN.out, HQ.out]; try simp only [List.append_assoc, List.cons_append, List.nil_append], by go_num, by have := below_drewN HB.out nq; exact this⟩
    by_cases f25 : c.toNat = 25
    ·
     obtain rfl : c = 25 := u8_of f25
     clear e8 e9 e10 e12 e13 e32 f0 f1 f2 f3 f4 f5 f6 f7 f11 f14 f15 f16 f17 f18 f19 f20 f21 f22 f23 f24 f25
     have HQ : Hid (quoB 25 = [92, 117, 48, 48, 49, 57]) := Lib.hid rfl
     have hx1 : (⟨#[48, 49]⟩ : ByteArray).extract 1 2 = ⟨[49].toArray⟩ := rfl
     have hx2 : (⟨#[48, 49, 50, 51, 52, 53, 54, 55, 56, 57, 97, 98, 99, 100, 101, 102]⟩ : ByteArray).extract 9 10 = ⟨[57].toArray⟩ := rfl
     have hcat2 := bytes_app (out ++ [92, 117, 48, 48]) [49]
     have hcat3 := bytes_app (out ++ [92, 117, 48, 48] ++ [49]) [57]
     simp only [List.append_assoc, List.cons_append, List.nil_append] at hcat2 hcat3
     go_quiet (fail)
     go_wp2_with fail
     go_roundg (s.length - (j + 1))
     case measure => have := Hk.out; omega
     exact ⟨j + 1, rfl, by omega, by rw [HN.out, HQ.out]; try simp only [List.append_assoc, List.cons_append, List.nil_append], by go_num, by have := below_drewN HB.out nq; exact this⟩
    by_cases f26 : c.toNat = 26
    ·
     obtain rfl : c = 26 := u8_of f26
     clear e8 e9 e10 e12 e13 e32 f0 f1 f2 f3 f4 f5 f6 f7 f11 f14 f15 f16 f17 f18 f19 f20 f21 f22 f23 f24 f25 f26
     have HQ : Hid (quoB 26 = [92, 117, 48, 48, 49, 97]) := Lib.hid rfl
     have hx1 : (⟨#[48, 49]⟩ : ByteArray).extract 1 2 = ⟨[49].toArray⟩ := rfl
     have hx2 : (⟨#[48, 49, 50, 51, 52, 53, 54, 55, 56, 57, 97, 98, 99, 100, 101, 102]⟩ : ByteArray).extract 10 11 = ⟨[97].toArray⟩ := rfl
     have hcat2 := bytes_app (out ++ [92, 117, 48, 48]) [49]
     have hcat3 := bytes_app (out ++ [92, 117, 48, 48] ++ [49]) [97]
     simp only [List.append_assoc, List.cons_append, List.nil_append] at hcat2 hcat3
     go_quiet (fail)
     go_wp2_with fail
     go_roundg (s.length - (j + 1))
     case measure => have := Hk.out; omega
     exact ⟨j + 1, rfl, by omega, by rw [HN.out, HQ.out]; try simp only [List.append_assoc, List.cons_append, List.nil_append], by go_num, by have := below_drewN HB.out nq; exact this⟩
    by_cases f27 : c.toNat = 27
    ·
     obtain rfl : c = 27 := u8_of f27
     clear e8 e9 e10 e12 e13 e32 f0 f1 f2 f3 f4 f5 f6 f7 f11 f14 f15 f16 f17 f18 f19 f20 f21 f22 f23 f24 f25 f26 f27
     have HQ : Hid (quoB 27 = [92, 117, 48, 48, 49, 98]) := Lib.hid rfl
     have hx1 : (⟨#[48, 49]⟩ : ByteArray).extract 1 2 = ⟨[49].toArray⟩ := rfl
     have hx2 : (⟨#[48, 49, 50, 51, 52, 53, 54, 55, 56, 57, 97, 98, 99, 100, 101, 102]⟩ : ByteArray).extract 11 12 = ⟨[98].toArray⟩ := rfl
     have hcat2 := bytes_app (out ++ [92, 117, 48, 48]) [49]
     have hcat3 := bytes_app (out ++ [92, 117, 48, 48] ++ [49]) [98]
     simp only [List.append_assoc, List.cons_append, List.nil_append] at hcat2 hcat3
     go_quiet (fail)
     go_wp2_with fail
     go_roundg (s.length - (j + 1))
     case measure => have := Hk.out; omega
     exact ⟨j + 1, rfl, by omega, by rw [HN.out, HQ.out]; try simp only [List.append_assoc, List.cons_append, List.nil_append], by go_num, by have := below_drewN HB.out nq; exact this⟩
    by_cases f28 : c.toNat = 28
    ·
     obtain rfl : c = 28 := u8_of f28
     clear e8 e9 e10 e12 e13 e32 f0 f1 f2 f3 f4 f5 f6 f7 f11 f14 f15 f16 f17 f18 f19 f20 f21 f22 f23 f24 f25 f26 f27 f28
     have HQ : Hid (quoB 28 = [92, 117, 48, 48, 49, 99]) := Lib.hid rfl
     have hx1 : (⟨#[48, 49]⟩ : ByteArray).extract 1 2 = ⟨[49].toArray⟩ := rfl
     have hx2 : (⟨#[48, 49, 50, 51, 52, 53, 54, 55, 56, 57, 97, 98, 99, 100, 101, 102]⟩ : ByteArray).extract 12 13 = ⟨[99].toArray⟩ := rfl
     have hcat2 := bytes_app (out ++ [92, 117, 48, 48]) [49]
     have hcat3 := bytes_app (out ++ [92, 117, 48, 48] ++ [49]) [99]
     simp only [List.append_assoc, List.cons_append, List.nil_append] at hcat2 hcat3
     go_quiet (fail)
     go_wp2_with fail
     go_roundg (s.length - (j + 1))
     case measure => have := Hk.out; omega
     exact ⟨j + 1, rfl, by omega, by rw [HN.out, HQ.out]; try simp only [List.append_assoc, List.cons_append, List.nil_append], by go_num, by have := below_drewN HB.out nq; exact this⟩
    by_cases f29 : c.toNat = 29
    ·
     obtain rfl : c = 29 := u8_of f29
     clear e8 e9 e10 e12 e13 e32 f0 f1 f2 f3 f4 f5 f6 f7 f11 f14 f15 f16 f17 f18 f19 f20 f21 f22 f23 f24 f25 f26 f27 f28 f29
     have HQ : Hid (quoB 29 = [92, 117, 48, 48, 49, 100]) := Lib.hid rfl
     have hx1 : (⟨#[48, 49]⟩ : ByteArray).extract 1 2 = ⟨[49].toArray⟩ := rfl
     have hx2 : (⟨#[48, 49, 50, 51, 52, 53, 54, 55, 56, 57, 97, 98, 99, 100, 101, 102]⟩ : ByteArray).extract 13 14 = ⟨[100].toArray⟩ := rfl
     have hcat2 := bytes_app (out ++ [92, 117, 48, 48]) [49]
     have hcat3 := bytes_app (out ++ [92, 117, 48, 48] ++ [49]) [100]
     simp only [List.append_assoc, List.cons_append, List.nil_append] at hcat2 hcat3
     go_quiet (fail)
     go_wp2_with fail
     go_roundg (s.length - (j + 1))
     case measure => have := Hk.out; omega
     exact ⟨j + 1, rfl, by omega, by rw [HN.out, HQ.out]; try simp only [List.append_assoc, List.cons_append, List.nil_append], by go_num, by have := below_drewN HB.out nq; exact this⟩
    by_cases f30 : c.toNat = 30
    ·
     obtain rfl : c = 30 := u8_of f30
     clear e8 e9 e10 e12 e13 e32 f0 f1 f2 f3 f4 f5 f6 f7 f11 f14 f15 f16 f17 f18 f19 f20 f21 f22 f23 f24 f25 f26 f27 f28 f29 f30
     have HQ : Hid (quoB 30 = [92, 117, 48, 48, 49, 101]) := Lib.hid rfl
     have hx1 : (⟨#[48, 49]⟩ : ByteArray).extract 1 2 = ⟨[49].toArray⟩ := rfl
     have hx2 : (⟨#[48, 49, 50, 51, 52, 53, 54, 55, 56, 57, 97, 98, 99, 100, 101, 102]⟩ : ByteArray).extract 14 15 = ⟨[101].toArray⟩ := rfl
     have hcat2 := bytes_app (out ++ [92, 117, 48, 48]) [49]
     have hcat3 := bytes_app (out ++ [92, 117, 48, 48] ++ [49]) [101]
     simp only [List.append_assoc, List.cons_append, List.nil_append] at hcat2 hcat3
     go_quiet (fail)
     go_wp2_with fail
     go_roundg (s.length - (j + 1))
     case measure => have := Hk.out; omega
     exact ⟨j + 1, rfl, by omega, by rw [HN.out, HQ.out]; try simp only [List.append_assoc, List.cons_append, List.nil_append], by go_num, by have := below_drewN HB.out nq; exact this⟩
    by_cases f31 : c.toNat = 31
    ·
     obtain rfl : c = 31 := u8_of f31
     clear e8 e9 e10 e12 e13 e32 f0 f1 f2 f3 f4 f5 f6 f7 f11 f14 f15 f16 f17 f18 f19 f20 f21 f22 f23 f24 f25 f26 f27 f28 f29 f30 f31
     have HQ : Hid (quoB 31 = [92, 117, 48, 48, 49, 102]) := Lib.hid rfl
     have hx1 : (⟨#[48, 49]⟩ : ByteArray).extract 1 2 = ⟨[49].toArray⟩ := rfl
     have hx2 : (⟨#[48, 49, 50, 51, 52, 53, 54, 55, 56, 57, 97, 98, 99, 100, 101, 102]⟩ : ByteArray).extract 15 16 = ⟨[102].toArray⟩ := rfl
     have hcat2 := bytes_app (out ++ [92, 117, 48, 48]) [49]
     have hcat3 := bytes_app (out ++ [92, 117, 48, 48] ++ [49]) [102]
     simp only [List.append_assoc, List.cons_append, List.nil_append] at hcat2 hcat3
     go_quiet (fail)
     go_wp2_with fail
     go_roundg (s.length - (j + 1))
     case measure => have := Hk.out; omega
     exact ⟨j + 1, rfl, by omega, by rw [HN.out, HQ.out]; try simp only [List.append_assoc, List.cons_append, List.nil_append], by go_num, by have := below_drewN HB.out nq; exact this⟩
    omega
   have t32 : ¬ (c.toNat : Int) < 32 := by omega
   have HQ : Hid (quoB c = [c]) := Lib.hid (by
    unfold quoB
    rw [if_neg (fun h => e34 (by rw [h]; rfl))]
    rw [if_neg (fun h => e92 (by rw [h]; rfl))]
    rw [if_neg (fun h => e8 (by rw [h]; rfl))]
    rw [if_neg (fun h => e12 (by rw [h]; rfl))]
    rw [if_neg (fun h => e10 (by rw [h]; rfl))]
    rw [if_neg (fun h => e13 (by rw [h]; rfl))]
    rw [if_neg (fun h => e9 (by rw [h]; rfl))]
    rw [if_neg (show ¬ c < 32 from fun h => e32 h)])
   have hcat := bytes_app out [c]
   have hsum : ¬ (9223372036854775807 < out.length + [c].length) := by have := HLO.out; simp only [List.length_cons, List.length_nil]; omega
   clear e34 e92 e8 e9 e10 e12 e13 e32
   go_wp2_with fail
   go_roundg (s.length - (j + 1))
   case measure => have := Hk.out; omega
   exact ⟨j + 1, rfl, by omega, by rw [HN.out, HQ.out]; try simp only [List.append_assoc, List.cons_append, List.nil_append], by go_num, HB.out⟩
  obtain rfl : j = s.length := by omega
  have hlt2 : ¬ (s.length : Int) < s.length := by omega
  have hqs := quoS_len s
  rw [List.take_length]
  have hcat := bytes_app (34 :: quoS s) [34]
  have HQ : Hid ((34 :: quoS s) ++ [34] = quoT s) := Lib.hid rfl
  have hsum : ¬ (9223372036854775807 < (34 :: quoS s).length + 1) := by simp only [List.length_cons]; omega
  rw [HQ.out] at hcat
  generalize 34 :: quoS s = out at *
  go_wp2_with fail
  go_ret
  exact ⟨rfl, HB.out⟩
end Go.Proofs.YtfclfaidmipjpaaGreatDoor
