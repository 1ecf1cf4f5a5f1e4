/- Texts of this claim, joined: Jp8, Jp9, Jp10, Jp11, Jp12. -/
import Derived.Test.YtfclfaidmipjpaaGreatDoorCo23
namespace Go.Proofs.YtfclfaidmipjpaaGreatDoor
set_option maxRecDepth 100000
set_option maxHeartbeats 20000000
open Go.Lib (hid)
open Go.RowKit
def PdAt (w : World) (R : Nat) (s : List UInt8) (al tw gr : Bool) : Prop := RowAt w R [.string ⟨s.toArray⟩, .bool al, .bool tw, .bool gr]
theorem PdAt.below {w w' : World} {R : Nat} {s : List UInt8} {al tw gr : Bool} (h : PdAt w R s al tw gr) (hb : Below w.heap.size w w') : PdAt w' R s al tw gr := RowAt.below h hb
theorem PdAt.text {w : World} {R : Nat} {s : List UInt8} {al tw gr : Bool} (h : PdAt w R s al tw gr) (t : List UInt8) : PdAt (w.setCell ⟨R, 0, none⟩ (.string ⟨t.toArray⟩)) R t al tw gr := RowAt.set h 0 _ (by simp)
theorem nextP_calls (w : World) {R : Nat} {s : List UInt8} {al tw gr : Bool} (h : PdAt w R s al tw gr) (tk : List UInt8) {c : UInt8} {t : List UInt8} (hs : skipS s = c :: t) :
  Calls Tryz.prog 81 #[.pointer (some ⟨R, 0, none⟩), .string ⟨tk.toArray⟩] w fun e w' =>
   e = .returned (.int .u8 (c.toNat : Int)) ∧ OnlyR R w w' ∧ PdAt w' R (if tk.contains c then t else c :: t) al tw gr := by
 obtain ⟨r, hr⟩ : ∃ r, (if tk.contains c then t else c :: t) = r := ⟨_, rfl⟩
 rw [hr]
 have HR := hid hr
 have c0 := h.cell 0 _ rfl
 have f0 := h.free 0
 have H := hid h
 clear hr
 clear h
 have hul : 0 < (skipS s).length := by rw [hs]; simp
 have hc : (skipS s).getD 0 0 = c := by rw [hs]; rfl
 have HT := hid (show (skipS s).tail = t by rw [hs]; rfl)
 have HC := hid hs
 clear hs
 go_enter Tryz.func81, Tryz.ntmps81
 go_wp2_with fail
 refine (skip_calls w s).mono ?_
 rintro e w1 ⟨rfl, rfl⟩
 generalize skipS s = u at *
 have hul0 : (0 : Int) < (u.length : Int) := by omega
 have hul1 : (1 : Int) ≤ (u.length : Int) := by omega
 have hij := byte_at u 0 hul
 have hext : (⟨u.toArray⟩ : ByteArray).extract 1 u.length = ⟨u.tail.toArray⟩ := by rw [Lib.extract_eq]; rw [List.take_of_length_le (by simp), List.drop_one]
 have hue : u.isEmpty = false := by cases u with | nil => simp at hul | cons => rfl
 rw [hc] at hij
 have HS := hid (H.out.text u)
 have HO := hid ((OnlyR.refl R w).set 0 (.string ⟨u.toArray⟩))
 go_upto_region 2 with fail
 generalize w.setCell ⟨R, 0, none⟩ (.string ⟨u.toArray⟩) = w1 at *
 clear c0 f0
 have c0 := HS.out.cell 0 _ rfl
 have f0 := HS.out.free 0
 go_wp2_with fail
 refine (same (Tryz.strings_IndexByte ⟨tk.toArray⟩ _ _)).mono ?_
 rintro e w2 ⟨rfl, rfl⟩
 have hcl : (c.toNat : Int).toNat.toUInt8 = c := by simp
 have hix : Lib.indexByte (⟨tk.toArray⟩ : ByteArray).data.toList c = Lib.indexByte tk c := rfl
 rw [hcl, hix]
 have hin := index_in tk c
 generalize Lib.indexByte tk c = ix at *
 clear hcl hix
 cases hk : tk.contains c with
 | true =>
  rw [hk] at hin
  have hx : (0 : Int) ≤ ix := by have : ¬ ix < 0 := by simpa using hin
                                 omega
  have HS2 := hid (HS.out.text u.tail)
  have HO2 := hid (HO.out.set 0 (.string ⟨u.tail.toArray⟩))
  have HK := hid hk
  clear hin hk
  go_wp2_with fail
  go_ret
  refine ⟨rfl, HO2.out, ?_⟩
  have h9 := HS2.out
  rw [HT.out] at h9 ⊢
  rw [← HR.out, HK.out]
  exact h9
 | false =>
  rw [hk] at hin
  have hx : decide ((0 : Int) ≤ ix) = false := by
   rw [decide_eq_false_iff_not]
   have : ix < 0 := by simpa using hin
   omega
  have HK := hid hk
  clear hin hk
  go_wp2_with fail
  go_ret
  refine ⟨rfl, HO.out, ?_⟩
  have h9 := HS.out
  rw [HC.out] at h9
  rw [← HR.out, HK.out]
  exact h9
open Go.RowKit
def worstS (al tw gr : Bool) : Int := if al then 183 else if tw then 184 else if gr then 4 else 0
theorem worst_calls (w : World) {R : Nat} {s : List UInt8} {al tw gr : Bool} (h : PdAt w R s al tw gr) :
  Calls Tryz.prog 49 #[.pointer (some ⟨R, 0, none⟩)] w fun e w' => e = .returned (.int .i64 (worstS al tw gr)) ∧ w = w' := by
 cases al with
 | true =>
  have c1 : w.cell? ⟨R, 1, none⟩ = some (.bool true) := h.cell 1 _ rfl
  clear h
  go_enter Tryz.func49, Tryz.ntmps49
  go_wp2_with fail
  go_ret
  exact ⟨rfl, rfl⟩
 | false =>
  have c1 : w.cell? ⟨R, 1, none⟩ = some (.bool false) := h.cell 1 _ rfl
  cases tw with
  | true =>
   have c2 : w.cell? ⟨R, 2, none⟩ = some (.bool true) := h.cell 2 _ rfl
   clear h
   go_enter Tryz.func49, Tryz.ntmps49
   go_wp2_with fail
   go_ret
   exact ⟨rfl, rfl⟩
  | false =>
   have c2 : w.cell? ⟨R, 2, none⟩ = some (.bool false) := h.cell 2 _ rfl
   cases gr with
   | true =>
    have c3 : w.cell? ⟨R, 3, none⟩ = some (.bool true) := h.cell 3 _ rfl
    clear h
    go_enter Tryz.func49, Tryz.ntmps49
    go_wp2_with fail
    go_ret
    exact ⟨rfl, rfl⟩
   | false =>
    have c3 : w.cell? ⟨R, 3, none⟩ = some (.bool false) := h.cell 3 _ rfl
    clear h
    go_enter Tryz.func49, Tryz.ntmps49
    go_wp2_with fail
    go_ret
    exact ⟨rfl, rfl⟩
open Go.RowKit
def EscP (w : World) (R : Nat) (s0 : List UInt8) (al tw gr : Bool) (bs rest : List UInt8) (a : Bool) (e : Ending) (w' : World) : Prop :=
 OnlyR R w w' ∧ PdAt w' R s0 (al || a) tw gr ∧ ∃ x : Nat, e = .returned (.tuple #[.int .i32 (x : Int), .string ⟨rest.toArray⟩]) ∧ bs = letS x ∧ x ≤ 1114111 ∧ ¬ (55296 ≤ x ∧ x < 57344)
def escL8 : List UInt8 := [34, 92, 47, 98, 102, 110, 114, 116]
theorem plain_in {c m : UInt8} (h : plainS c = some m) : (c = 34 ∧ m = 34) ∨ (c = 92 ∧ m = 92) ∨ (c = 47 ∧ m = 47) ∨ (c = 98 ∧ m = 8) ∨ (c = 102 ∧ m = 12) ∨ (c = 110 ∧ m = 10) ∨ (c = 114 ∧ m = 13) ∨ (c = 116 ∧ m = 9) := by
 unfold plainS at h
 by_cases h1 : c = 34
 ·rw [if_pos h1] at h; cases h; exact .inl ⟨h1, rfl⟩
 rw [if_neg h1] at h
 by_cases h2 : c = 92
 ·rw [if_pos h2] at h; cases h; exact .inr (.inl ⟨h2, rfl⟩)
 rw [if_neg h2] at h
 by_cases h3 : c = 47
 ·rw [if_pos h3] at h; cases h; exact .inr (.inr (.inl ⟨h3, rfl⟩))
 rw [if_neg h3] at h
 by_cases h4 : c = 98
 ·rw [if_pos h4] at h; cases h; exact .inr (.inr (.inr (.inl ⟨h4, rfl⟩)))
 rw [if_neg h4] at h
 by_cases h5 : c = 102
 ·rw [if_pos h5] at h; cases h; exact .inr (.inr (.inr (.inr (.inl ⟨h5, rfl⟩))))
 rw [if_neg h5] at h
 by_cases h6 : c = 110
 ·rw [if_pos h6] at h; cases h; exact .inr (.inr (.inr (.inr (.inr (.inl ⟨h6, rfl⟩)))))
 rw [if_neg h6] at h
 by_cases h7 : c = 114
 ·rw [if_pos h7] at h; cases h; exact .inr (.inr (.inr (.inr (.inr (.inr (.inl ⟨h7, rfl⟩))))))
 rw [if_neg h7] at h
 by_cases h8 : c = 116
 ·rw [if_pos h8] at h; cases h; exact .inr (.inr (.inr (.inr (.inr (.inr (.inr ⟨h8, rfl⟩))))))
 rw [if_neg h8] at h
 cases h
theorem escP_plain (w : World) {R : Nat} {s0 : List UInt8} {al tw gr : Bool} (h : PdAt w R s0 al tw gr) {c m : UInt8} {t : List UInt8} (hp : plainS c = some m) :
  Calls Tryz.prog 117 #[.pointer (some ⟨R, 0, none⟩), .string ⟨(c :: t).toArray⟩] w (EscP w R s0 al tw gr [m] t false) := by
 have HP := hid (plain_in hp)
 have H := hid h
 clear hp h
 obtain ⟨u, hu⟩ : ∃ u, c :: t = u := ⟨_, rfl⟩
 have hul : 0 < u.length := by rw [← hu]; simp
 have hul0 : (0 : Int) < (u.length : Int) := by omega
 have hul1 : (1 : Int) ≤ (u.length : Int) := by omega
 have hij := byte_at u 0 hul
 rw [show u.getD 0 0 = c by rw [← hu]; rfl] at hij
 have hext : (⟨u.toArray⟩ : ByteArray).extract 1 u.length = ⟨u.tail.toArray⟩ := by rw [Lib.extract_eq]; rw [List.take_of_length_le (by simp), List.drop_one]
 rw [show u.tail = t by rw [← hu]; rfl] at hext
 rw [hu]
 clear hu
 go_enter Tryz.func117, Tryz.ntmps117
 rcases HP.out with ⟨rfl, rfl⟩ | ⟨rfl, rfl⟩ | ⟨rfl, rfl⟩ | ⟨rfl, rfl⟩ | ⟨rfl, rfl⟩ | ⟨rfl, rfl⟩ | ⟨rfl, rfl⟩ | ⟨rfl, rfl⟩
 ·
  go_wp2_with fail
  refine (same (Tryz.strings_IndexByte ⟨escL8.toArray⟩ _ _)).mono ?_
  rintro e w2 ⟨rfl, rfl⟩
  rw [show Lib.indexByte (⟨escL8.toArray⟩ : ByteArray).data.toList ((34 : Int).toNat.toUInt8) = 0 from by decide]
  have hm : (⟨#[34, 92, 47, 8, 12, 10, 13, 9]⟩ : ByteArray)[0]'(by decide) = 34 := rfl
  go_wp2_with fail
  refine wp_region_quiet_fast (by kernel_rfl) (by kernel_rfl) ?_
  repeat (go_big_quiet_step (fail))
  refine wpQuiet_nil ?_
  intro _ hw'
  obtain ⟨nq, hw''⟩ := hw'
  subst hw''
  go_wp2_with fail
  first | go_ret | go_ret2
  exact ⟨OnlyR.ofBelow (drewN_b _ _), by rw [Bool.or_false]; exact H.out.below (drewN_b _ _), 34, rfl, rfl, by decide, by decide⟩
 ·
  go_wp2_with fail
  refine (same (Tryz.strings_IndexByte ⟨escL8.toArray⟩ _ _)).mono ?_
  rintro e w2 ⟨rfl, rfl⟩
  rw [show Lib.indexByte (⟨escL8.toArray⟩ : ByteArray).data.toList ((92 : Int).toNat.toUInt8) = 1 from by decide]
  have hm : (⟨#[34, 92, 47, 8, 12, 10, 13, 9]⟩ : ByteArray)[1]'(by decide) = 92 := rfl
  go_wp2_with fail
  refine wp_region_quiet_fast (by kernel_rfl) (by kernel_rfl) ?_
  repeat (go_big_quiet_step (fail))
  refine wpQuiet_nil ?_
  intro _ hw'
  obtain ⟨nq, hw''⟩ := hw'
  subst hw''
  go_wp2_with fail
  first | go_ret | go_ret2
  exact ⟨OnlyR.ofBelow (drewN_b _ _), by rw [Bool.or_false]; exact H.out.below (drewN_b _ _), 92, rfl, rfl, by decide, by decide⟩
 ·
  go_wp2_with fail
  refine (same (Tryz.strings_IndexByte ⟨escL8.toArray⟩ _ _)).mono ?_
  rintro e w2 ⟨rfl, rfl⟩
  rw [show Lib.indexByte (⟨escL8.toArray⟩ : ByteArray).data.toList ((47 : Int).toNat.toUInt8) = 2 from by decide]
  have hm : (⟨#[34, 92, 47, 8, 12, 10, 13, 9]⟩ : ByteArray)[2]'(by decide) = 47 := rfl
  go_wp2_with fail
  refine wp_region_quiet_fast (by kernel_rfl) (by kernel_rfl) ?_
  repeat (go_big_quiet_step (fail))
  refine wpQuiet_nil ?_
  intro _ hw'
  obtain ⟨nq, hw''⟩ := hw'
  subst hw''
  go_wp2_with fail
  first | go_ret | go_ret2
  exact ⟨OnlyR.ofBelow (drewN_b _ _), by rw [Bool.or_false]; exact H.out.below (drewN_b _ _), 47, rfl, rfl, by decide, by decide⟩
 ·
  go_wp2_with fail
  refine (same (Tryz.strings_IndexByte ⟨escL8.toArray⟩ _ _)).mono ?_
  rintro e w2 ⟨rfl, rfl⟩
  rw [show Lib.indexByte (⟨escL8.toArray⟩ : ByteArray).data.toList ((98 : Int).toNat.toUInt8) = 3 from by decide]
  have hm : (⟨#[34, 92, 47, 8, 12, 10, 13, 9]⟩ : ByteArray)[3]'(by decide) = 8 := rfl
  go_wp2_with fail
  refine wp_region_quiet_fast (by kernel_rfl) (by kernel_rfl) ?_
  repeat (go_big_quiet_step (fail))
  refine wpQuiet_nil ?_
  intro _ hw'
  obtain ⟨nq, hw''⟩ := hw'
  subst hw''
  go_wp2_with fail
  first | go_ret | go_ret2
  exact ⟨OnlyR.ofBelow (drewN_b _ _), by rw [Bool.or_false]; exact H.out.below (drewN_b _ _), 8, rfl, rfl, by decide, by decide⟩
 ·
  go_wp2_with fail
  refine (same (Tryz.strings_IndexByte ⟨escL8.toArray⟩ _ _)).mono ?_
  rintro e w2 ⟨rfl, rfl⟩
  rw [show Lib.indexByte (⟨escL8.toArray⟩ : ByteArray).data.toList ((102 : Int).toNat.toUInt8) = 4 from by decide]
  have hm : (⟨#[34, 92, 47, 8, 12, 10, 13, 9]⟩ : ByteArray)[4]'(by decide) = 12 := rfl
  go_wp2_with fail
  refine wp_region_quiet_fast (by kernel_rfl) (by kernel_rfl) ?_
  repeat (go_big_quiet_step (fail))
  refine wpQuiet_nil ?_
  intro _ hw'
  obtain ⟨nq, hw''⟩ := hw'
  subst hw''
  go_wp2_with fail
  first | go_ret | go_ret2
  exact ⟨OnlyR.ofBelow (drewN_b _ _), by rw [Bool.or_false]; exact H.out.below (drewN_b _ _), 12, rfl, rfl, by decide, by decide⟩
 ·
  go_wp2_with fail
  refine (same (Tryz.strings_IndexByte ⟨escL8.toArray⟩ _ _)).mono ?_
  rintro e w2 ⟨rfl, rfl⟩
  rw [show Lib.indexByte (⟨escL8.toArray⟩ : ByteArray).data.toList ((110 : Int).toNat.toUInt8) = 5 from by decide]
  have hm : (⟨#[34, 92, 47, 8, 12, 10, 13, 9]⟩ : ByteArray)[5]'(by decide) = 10 := rfl
  go_wp2_with fail
  refine wp_region_quiet_fast (by kernel_rfl) (by kernel_rfl) ?_
  repeat (go_big_quiet_step (fail))
  refine wpQuiet_nil ?_
  intro _ hw'
  obtain ⟨nq, hw''⟩ := hw'
  subst hw''
  go_wp2_with fail
  first | go_ret | go_ret2
  exact ⟨OnlyR.ofBelow (drewN_b _ _), by rw [Bool.or_false]; exact H.out.below (drewN_b _ _), 10, rfl, rfl, by decide, by decide⟩
 ·
  go_wp2_with fail
  refine (same (Tryz.strings_IndexByte ⟨escL8.toArray⟩ _ _)).mono ?_
  rintro e w2 ⟨rfl, rfl⟩
  rw [show Lib.indexByte (⟨escL8.toArray⟩ : ByteArray).data.toList ((114 : Int).toNat.toUInt8) = 6 from by decide]
  have hm : (⟨#[34, 92, 47, 8, 12, 10, 13, 9]⟩ : ByteArray)[6]'(by decide) = 13 := rfl
  go_wp2_with fail
  refine wp_region_quiet_fast (by kernel_rfl) (by kernel_rfl) ?_
  repeat (go_big_quiet_step (fail))
  refine wpQuiet_nil ?_
  intro _ hw'
  obtain ⟨nq, hw''⟩ := hw'
  subst hw''
  go_wp2_with fail
  first | go_ret | go_ret2
  exact ⟨OnlyR.ofBelow (drewN_b _ _), by rw [Bool.or_false]; exact H.out.below (drewN_b _ _), 13, rfl, rfl, by decide, by decide⟩
 ·
  go_wp2_with fail
  refine (same (Tryz.strings_IndexByte ⟨escL8.toArray⟩ _ _)).mono ?_
  rintro e w2 ⟨rfl, rfl⟩
  rw [show Lib.indexByte (⟨escL8.toArray⟩ : ByteArray).data.toList ((116 : Int).toNat.toUInt8) = 7 from by decide]
  have hm : (⟨#[34, 92, 47, 8, 12, 10, 13, 9]⟩ : ByteArray)[7]'(by decide) = 9 := rfl
  go_wp2_with fail
  refine wp_region_quiet_fast (by kernel_rfl) (by kernel_rfl) ?_
  repeat (go_big_quiet_step (fail))
  refine wpQuiet_nil ?_
  intro _ hw'
  obtain ⟨nq, hw''⟩ := hw'
  subst hw''
  go_wp2_with fail
  first | go_ret | go_ret2
  exact ⟨OnlyR.ofBelow (drewN_b _ _), by rw [Bool.or_false]; exact H.out.below (drewN_b _ _), 9, rfl, rfl, by decide, by decide⟩
open Go.RowKit
theorem esc_u {z t : List UInt8} {x : Nat} {t2 : List UInt8} (hx : hexN 4 0 t = some (x, t2)) : escS z (117 :: t) = if 55296 ≤ x ∧ x < 57344 then match pairS x t2 with
  | some (bs, t4) => some (bs, t4, false)
  | none => some (z, t2, true)
 else some (letS x, t2, false) := by
 unfold escS
 simp only [plain_u]
 rw [if_pos trivial, hx]
 rfl
theorem pair_at {x : Nat} (hx : x < 56320) (l : List UInt8) : pairS x l = if l.take 2 = [92, 117] then (match hexN 4 0 (l.drop 2) with
  | some (y, t4) => if 56320 ≤ y ∧ y < 57344 then some (letS (65536 + 1024 * (x - 55296) + y - 56320), t4) else none
  | none => none) else none := by
 unfold pairS
 rw [if_pos hx]
 match l with
 | [] => rfl
 | [a] => simp
 | a :: b :: t =>
  by_cases h : a = 92 ∧ b = 117
  ·obtain ⟨rfl, rfl⟩ := h
   rw [if_pos (show (92 :: 117 :: t).take 2 = [92, 117] from rfl)]
   rfl
  rw [if_neg (by simp only [List.take_succ_cons, List.take_zero, List.cons.injEq, and_true]; exact h)]
  split
  ·rename_i h2
   cases h2
   exact absurd ⟨rfl, rfl⟩ h
  rfl
theorem escP_u (w : World) {R : Nat} {s0 : List UInt8} {al tw gr : Bool} (h : PdAt w R s0 al tw gr) {t : List UInt8} (hl : t.length ≤ 100000000) {x : Nat} {t2 : List UInt8} (hx : hexN 4 0 t = some (x, t2)) {bs rest : List UInt8} {a : Bool} (he : escS [0] (117 :: t) = some (bs, rest, a)) :
  Calls Tryz.prog 117 #[.pointer (some ⟨R, 0, none⟩), .string ⟨(117 :: t).toArray⟩] w (EscP w R s0 al tw gr bs rest a) := by
 rw [esc_u hx] at he
 have HE := hid he
 have HX := hid hx
 have H := hid h
 have hxl := hexN_len _ _ _ _ _ hx
 clear he hx h
 obtain ⟨u, hu⟩ : ∃ u, (117 : UInt8) :: t = u := ⟨_, rfl⟩
 have hul : u.length = t.length + 1 := by rw [← hu]; simp
 have hu0 : 0 < u.length := by omega
 have hul0 : (0 : Int) < (u.length : Int) := by omega
 have hul1 : (1 : Int) ≤ (u.length : Int) := by omega
 have hul5 : (5 : Int) ≤ (u.length : Int) := by omega
 have hij := byte_at u 0 hu0
 rw [show u.getD 0 0 = 117 by rw [← hu]; rfl] at hij
 have hext := ext_drop u 1
 rw [show u.drop 1 = t by rw [← hu]; rfl] at hext
 have hext5 := ext_drop u 5
 rw [show u.drop 5 = t.drop 4 by rw [← hu]; rfl] at hext5
 rw [hu]
 have HXL := hid hxl
 clear hu hul hxl
 go_enter Tryz.func117, Tryz.ntmps117
 go_wp2_with fail
 refine (hexP_calls w t (by omega)).mono ?_
 rintro e w2 ⟨hb2, hh⟩
 rcases hh with ⟨h1, _⟩ | ⟨y, hy, h1, rfl⟩
 ·have h9 := HX.out; rw [h1] at h9; cases h9
 have h9 := HX.out
 rw [h1] at h9
 obtain ⟨rfl, rfl⟩ : y = x ∧ t.drop 4 = t2 := by
  simp only [Option.some.injEq, Prod.mk.injEq] at h9
  exact h9
 have HB := hid hb2
 have HR := hid (H.out.below hb2)
 clear h9 h1 hb2 HX
 generalize t.drop 4 = q at *
 have HQL : Hid (q.length ≤ 100000000) := hid (by have := HXL.out; omega)
 by_cases hlo : y < 55296
 ·
  have hloi : (y : Int) < 55296 := by omega
  have he := HE.out
  rw [if_neg (by omega)] at he
  simp only [Option.some.injEq, Prod.mk.injEq] at he
  obtain ⟨rfl, rfl, rfl⟩ := he
  have HLO := hid hlo
  clear HE
  go_wp2_with fail
  first | go_ret | go_ret2
  exact ⟨OnlyR.ofBelow HB.out, by rw [Bool.or_false]; exact HR.out, y, rfl, rfl, by omega, by have := HLO.out; omega⟩
 have hloi : decide ((y : Int) < 55296) = false := by rw [decide_eq_false_iff_not]; omega
 by_cases hhi : 57343 < y
 ·
  have hhii : (57343 : Int) < (y : Int) := by omega
  have he := HE.out
  rw [if_neg (by omega)] at he
  simp only [Option.some.injEq, Prod.mk.injEq] at he
  obtain ⟨rfl, rfl, rfl⟩ := he
  have HLO := hid hhi
  clear HE
  go_wp2_with fail
  first | go_ret | go_ret2
  exact ⟨OnlyR.ofBelow HB.out, by rw [Bool.or_false]; exact HR.out, y, rfl, rfl, by omega, by have := HLO.out; omega⟩
 have hhii : decide ((57343 : Int) < (y : Int)) = false := by rw [decide_eq_false_iff_not]; omega
 have he := HE.out
 rw [if_pos (by omega)] at he
 have HE2 := hid he
 clear he HE
 by_cases hmid : y < 56320
 ·
  have hmidi : (y : Int) < 56320 := by omega
  have he := HE2.out
  rw [pair_at hmid] at he
  have HE3 := hid he
  clear he HE2
  go_wp2_with fail
  refine (same (Tryz.strings_HasPrefix ⟨q.toArray⟩ ⟨#[92, 117]⟩ _)).mono ?_
  rintro e w3 ⟨rfl, rfl⟩
  rw [show Lib.hasPrefix (⟨q.toArray⟩ : ByteArray).data.toList (⟨#[92, 117]⟩ : ByteArray).data.toList = (q.take 2 == [92, 117]) from pre_take q [92, 117]]
  cases hp : (q.take 2 == [92, 117]) with
  | false =>
   have he := HE3.out
   rw [if_neg (by rw [beq_eq_false_iff_ne] at hp; exact hp)] at he
   simp only [Option.some.injEq, Prod.mk.injEq] at he
   obtain ⟨rfl, rfl, rfl⟩ := he
   clear HE3 hp
   have g1 := HR.out.free 1
   have k1 := HR.out.cell 1 _ rfl
   go_wp2_with fail
   first | go_ret | go_ret2
   exact ⟨(OnlyR.ofBelow HB.out).set 1 _, by rw [Bool.or_true]; exact RowAt.set HR.out 1 (.bool true) (by simp), 0, rfl, rfl, by decide, by decide⟩
  | true =>
   have hq2 := take_le (l := q) (p := [92, 117]) (beq_iff_eq.1 hp)
   simp only [List.length_cons, List.length_nil] at hq2
   have he := HE3.out
   rw [if_pos (by rw [beq_iff_eq] at hp; exact hp)] at he
   have HE4 := hid he
   clear he HE3 hp
   have hq2i : (2 : Int) ≤ (q.length : Int) := by omega
   have hext2 := ext_drop q 2
   have HD6 : Hid ((q.drop 2).length + 2 = q.length) := hid (by rw [List.length_drop]; omega)
   go_wp2_with fail
   refine (hexP_calls w2 (q.drop 2) (by rw [List.length_drop]; have := HQL.out; omega)).mono ?_
   rintro e w3 ⟨hb3, hh⟩
   have HB3 := hid (HB.out.trans (hb3.mono HB.out.size))
   have HR3 := hid (HR.out.below hb3)
   clear hb3
   rcases hh with ⟨h1, rfl⟩ | ⟨y2, hy2, h1, rfl⟩
   ·
    have he := HE4.out
    rw [h1] at he
    simp only [Option.some.injEq, Prod.mk.injEq] at he
    obtain ⟨rfl, rfl, rfl⟩ := he
    clear HE4 h1
    have g1 := HR3.out.free 1
    have k1 := HR3.out.cell 1 _ rfl
    go_wp2_with fail
    first | go_ret | go_ret2
    exact ⟨(OnlyR.ofBelow HB3.out).set 1 _, by rw [Bool.or_true]; exact RowAt.set HR3.out 1 (.bool true) (by simp), 0, rfl, rfl, by decide, by decide⟩
   have he := HE4.out
   rw [h1] at he
   simp only at he
   have HE5 := hid he
   have HL6 := hid (hexN_len _ _ _ _ _ h1)
   clear he HE4 h1
   by_cases hy : 56320 ≤ y2 ∧ y2 < 57344
   ·
    have hy1 : (56320 : Int) ≤ (y2 : Int) := by omega
    have hy3 : (y2 : Int) ≤ 57343 := by omega
    have he := HE5.out
    rw [if_pos hy] at he
    simp only [Option.some.injEq, Prod.mk.injEq, List.drop_drop] at he
    obtain ⟨rfl, rfl, rfl⟩ := he
    clear HE5 hy
    have hq6 : (6 : Int) ≤ (q.length : Int) := by have h9 := HL6.out; have := HD6.out; omega
    have hext6 := ext_drop q 6
    go_wp2_with fail
    refine wp_region_quiet_fast (by kernel_rfl) (by kernel_rfl) ?_
    repeat (go_big_quiet_step (fail))
    refine wpQuiet_nil ?_
    intro _ hw'
    obtain ⟨nq, hw''⟩ := hw'
    subst hw''
    go_wp2_with fail
    first | go_ret | go_ret2
    exact ⟨OnlyR.ofBelow (HB3.out.trans ((drewN_b _ nq).mono HB3.out.size)), by rw [Bool.or_false]; exact HR3.out.below (drewN_b _ nq), 65536 + 1024 * (y - 55296) + y2 - 56320, by go_num, rfl, by omega, by omega⟩
   have he := HE5.out
   rw [if_neg hy] at he
   simp only [Option.some.injEq, Prod.mk.injEq] at he
   obtain ⟨rfl, rfl, rfl⟩ := he
   clear HE5
   rcases (show y2 < 56320 ∨ 57343 < y2 by omega) with hz | hz
   ·
    have hz1 : decide ((56320 : Int) ≤ (y2 : Int)) = false := by rw [decide_eq_false_iff_not]; omega
    have g1 := HR3.out.free 1
    have k1 := HR3.out.cell 1 _ rfl
    go_wp2_with fail
    first | go_ret | go_ret2
    exact ⟨(OnlyR.ofBelow HB3.out).set 1 _, by rw [Bool.or_true]; exact RowAt.set HR3.out 1 (.bool true) (by simp), 0, rfl, rfl, by decide, by decide⟩
   have hz1 : (56320 : Int) ≤ (y2 : Int) := by omega
   have hz2 : decide ((y2 : Int) ≤ 57343) = false := by rw [decide_eq_false_iff_not]; omega
   have g1 := HR3.out.free 1
   have k1 := HR3.out.cell 1 _ rfl
   go_wp2_with fail
   first | go_ret | go_ret2
   exact ⟨(OnlyR.ofBelow HB3.out).set 1 _, by rw [Bool.or_true]; exact RowAt.set HR3.out 1 (.bool true) (by simp), 0, rfl, rfl, by decide, by decide⟩
 have hmidi : decide ((y : Int) < 56320) = false := by rw [decide_eq_false_iff_not]; omega
 have he := HE2.out
 rw [show pairS y q = none by unfold pairS; rw [if_neg hmid]] at he
 simp only [Option.some.injEq, Prod.mk.injEq] at he
 obtain ⟨rfl, rfl, rfl⟩ := he
 clear HE2
 have g1 := HR.out.free 1
 have k1 := HR.out.cell 1 _ rfl
 go_wp2_with fail
 first | go_ret | go_ret2
 exact ⟨(OnlyR.ofBelow HB.out).set 1 _, by rw [Bool.or_true]; exact RowAt.set HR.out 1 (.bool true) (by simp), 0, rfl, rfl, by decide, by decide⟩
open Go.RowKit
theorem escP_calls (w : World) {R : Nat} {s0 : List UInt8} {al tw gr : Bool} (h : PdAt w R s0 al tw gr) {s : List UInt8} (hl : s.length ≤ 100000000) {bs rest : List UInt8} {a : Bool} (he : escS [0] s = some (bs, rest, a)) :
  Calls Tryz.prog 117 #[.pointer (some ⟨R, 0, none⟩), .string ⟨s.toArray⟩] w (EscP w R s0 al tw gr bs rest a) := by
 cases s with
 | nil => cases he
 | cons c t =>
  cases hp : plainS c with
  | some m =>
   have h9 : escS [0] (c :: t) = some ([m], t, false) := by unfold escS; simp only [hp]
   rw [h9] at he
   simp only [Option.some.injEq, Prod.mk.injEq] at he
   obtain ⟨rfl, rfl, rfl⟩ := he
   exact escP_plain w h hp
  | none =>
   by_cases hc : c = 117
   ·subst hc
    cases hx : hexN 4 0 t with
    | none =>
     have h9 : escS [0] (117 :: t) = none := by unfold escS; simp only [plain_u, hx]; rfl
     rw [h9] at he; cases he
    | some y =>
     obtain ⟨x, t2⟩ := y
     exact escP_u w h (by simp only [List.length_cons] at hl; omega) hx he
   have h9 : escS [0] (c :: t) = none := by unfold escS; simp only [hp]; rw [if_neg hc]
   rw [h9] at he; cases he
end Go.Proofs.YtfclfaidmipjpaaGreatDoor
