/- Texts of this claim, joined: Jr3, Jr4. -/
import Derived.Test.YtfclfaidmipjpaaGreatDoorTx00
namespace Go.Proofs.YtfclfaidmipjpaaGreatDoor
set_option maxRecDepth 100000
set_option maxHeartbeats 20000000
open Go.RowKit
def RdAt (w : World) (R : Nat) (b : List UInt8) (n : Nat) (bad : Bool) (f : Fl) : Prop := RowAt w R [.string ⟨b.toArray⟩, .int .i64 (n : Int), .bool bad, .bool f.deep, .bool f.alone, .bool f.twice, .bool f.great]
theorem RdAt.below {w w' : World} {R : Nat} {b : List UInt8} {n : Nat} {bad : Bool} {f : Fl} (h : RdAt w R b n bad f) (hb : Below w.heap.size w w') : RdAt w' R b n bad f := RowAt.below h hb
theorem RdAt.go {w : World} {R : Nat} {b : List UInt8} {n : Nat} {bad : Bool} {f : Fl} (h : RdAt w R b n bad f) (m : Nat) : RdAt (w.setCell ⟨R, 1, none⟩ (.int .i64 (m : Int))) R b m bad f := RowAt.set h 1 _ (by simp)
theorem OnlyR.below {R B : Nat} {w w' : World} (h : OnlyR R w w') (hB : B ≤ w.heap.size) (hR : B ≤ R) : Below B w w' := Apart.below h hB (fun i hi e => by omega)
theorem next_calls (w : World) {R : Nat} {b : List UInt8} {n : Nat} {bad : Bool} {f : Fl} (h : RdAt w R b n bad f) :
  Calls Tryz.prog 86 #[.pointer (some ⟨R, 0, none⟩)] w fun e w' => e = .returned (.int .u8 ((b.getD n 0).toNat : Int)) ∧ Below w.heap.size w w' := by
 have c0 := h.cell 0 _ rfl
 have c1 := h.cell 1 _ rfl
 clear h
 by_cases hlt : n < b.length
 ·have hlt2 : (n : Int) < b.length := by omega
  have hij := byte_at b n hlt
  generalize b.getD n 0 = c at *
  go_enter Tryz.func86, Tryz.ntmps86
  go_wp2_with fail
  go_quiet (fail)
  go_wp2_with fail
  go_quiet (fail)
  go_wp2_with fail
  go_ret
  exact ⟨rfl, below_drewN (drewN_b _ _) _⟩
 ·have hlt2 : ¬ (n : Int) < b.length := by omega
  have e : b.getD n 0 = 0 := by simp [List.getElem?_eq_none (show b.length ≤ n by omega)]
  rw [e]
  clear e
  go_enter Tryz.func86, Tryz.ntmps86
  go_wp2_with fail
  go_quiet (fail)
  go_wp2_with fail
  go_ret
  exact ⟨rfl, drewN_b _ _⟩
theorem skip_end (b : List UInt8) (n : Nat) (h : b.length ≤ n) : skipS (b.drop n) = [] := by rw [List.drop_of_length_le h]; rfl
def BlankTo (w : World) (R : Nat) (b : List UInt8) (n : Nat) (bad : Bool) (f : Fl) (e : Ending) (w' : World) : Prop :=
 ∃ m : Nat, e = .returned (.tuple #[]) ∧ n ≤ m ∧ m ≤ b.length ∧ skipS (b.drop n) = b.drop m ∧ RdAt w' R b m bad f ∧ OnlyR R w w'
theorem blanks_calls (w : World) {R : Nat} {b : List UInt8} {n : Nat} {bad : Bool} {f : Fl} (h : RdAt w R b n bad f) (hn : n ≤ b.length) (hl : b.length ≤ 1000000000) :
  Calls Tryz.prog 51 #[.pointer (some ⟨R, 0, none⟩)] w (BlankTo w R b n bad f) := by
 have H := Lib.hid h
 clear h
 go_enter Tryz.func51, Tryz.ntmps51
 go_wp2_with fail
 go_loopg [] (b.length - n) (fun k wr => ∃ m : Nat, k = b.length - m ∧ n ≤ m ∧ m ≤ b.length ∧ skipS (b.drop n) = skipS (b.drop m) ∧ RdAt wr R b m bad f ∧ OnlyR R w wr)
 case atStart => exact ⟨n, rfl, Nat.le_refl _, hn, rfl, H.out, OnlyR.refl _ _⟩
 case round =>
  obtain ⟨m, hk, hnm, hm, hs, hr, hw⟩ := hrel
  have c0 := hr.cell 0 _ rfl
  have c1 := hr.cell 1 _ rfl
  have f1 := hr.free 1
  have Hk := Lib.hid hk
  have HS := Lib.hid hs
  have HR := Lib.hid hr
  have HW := Lib.hid hw
  clear hk hs hr hw
  by_cases hlt : m < b.length
  ·have hlt2 : (m : Int) < b.length := by omega
   have hij := byte_at b m hlt
   have HSK := Lib.hid (skip_at b m hlt)
   have hc := (b.getD m 0).toNat_lt
   generalize b.getD m 0 = c at *
   have hwr : IntKind.i64.wrap ((m : Int) + 1) = (m : Int) + 1 := IntWalk.i64_in _ (by omega)
   by_cases e32 : c.toNat = 32
   ·
    have h32 : ((c.toNat : Int) == 32) = true := by rw [beq_iff_eq]; omega
    have HB : Hid (blankB c = true) := Lib.hid (by have : c = 32 := UInt8.toNat_inj.1 (by rw [e32]; rfl); subst this; decide)
    go_wp2_with fail
    go_quiet (fail)
    go_wp2_with fail
    go_roundg (b.length - (m + 1))
    case measure => have := Hk.out; omega
    case rel =>
     refine ⟨m + 1, rfl, by omega, by omega, by rw [HS.out, HSK.out, HB.out]; rfl, ?_, ?_⟩
     ·have h9 := (HR.out.below (drewN_b _ nq)).go (m + 1)
      rw [Int.natCast_add] at h9
      exact h9
     ·exact (HW.out.trans (OnlyR.ofBelow (drewN_b _ _))).set 1 _
   by_cases e9 : c.toNat = 9
   ·
    have h32 : ((c.toNat : Int) == 32) = false := by rw [beq_eq_false_iff_ne]; omega
    have h9 : ((c.toNat : Int) == 9) = true := by rw [beq_iff_eq]; omega
    have HB : Hid (blankB c = true) := Lib.hid (by have : c = 9 := UInt8.toNat_inj.1 (by rw [e9]; rfl); subst this; decide)
    go_wp2_with fail
    go_quiet (fail)
    go_wp2_with fail
    go_roundg (b.length - (m + 1))
    case measure => have := Hk.out; omega
    case rel =>
     refine ⟨m + 1, rfl, by omega, by omega, by rw [HS.out, HSK.out, HB.out]; rfl, ?_, ?_⟩
     ·have h9 := (HR.out.below (drewN_b _ nq)).go (m + 1)
      rw [Int.natCast_add] at h9
      exact h9
     ·exact (HW.out.trans (OnlyR.ofBelow (drewN_b _ _))).set 1 _
   by_cases e10 : c.toNat = 10
   ·
    have h32 : ((c.toNat : Int) == 32) = false := by rw [beq_eq_false_iff_ne]; omega
    have h9 : ((c.toNat : Int) == 9) = false := by rw [beq_eq_false_iff_ne]; omega
    have h10 : ((c.toNat : Int) == 10) = true := by rw [beq_iff_eq]; omega
    have HB : Hid (blankB c = true) := Lib.hid (by have : c = 10 := UInt8.toNat_inj.1 (by rw [e10]; rfl); subst this; decide)
    go_wp2_with fail
    go_quiet (fail)
    go_wp2_with fail
    go_roundg (b.length - (m + 1))
    case measure => have := Hk.out; omega
    case rel =>
     refine ⟨m + 1, rfl, by omega, by omega, by rw [HS.out, HSK.out, HB.out]; rfl, ?_, ?_⟩
     ·have h9 := (HR.out.below (drewN_b _ nq)).go (m + 1)
      rw [Int.natCast_add] at h9
      exact h9
     ·exact (HW.out.trans (OnlyR.ofBelow (drewN_b _ _))).set 1 _
   by_cases e13 : c.toNat = 13
   ·
    have h32 : ((c.toNat : Int) == 32) = false := by rw [beq_eq_false_iff_ne]; omega
    have h9 : ((c.toNat : Int) == 9) = false := by rw [beq_eq_false_iff_ne]; omega
    have h10 : ((c.toNat : Int) == 10) = false := by rw [beq_eq_false_iff_ne]; omega
    have h13 : ((c.toNat : Int) == 13) = true := by rw [beq_iff_eq]; omega
    have HB : Hid (blankB c = true) := Lib.hid (by have : c = 13 := UInt8.toNat_inj.1 (by rw [e13]; rfl); subst this; decide)
    go_wp2_with fail
    go_quiet (fail)
    go_wp2_with fail
    go_roundg (b.length - (m + 1))
    case measure => have := Hk.out; omega
    case rel =>
     refine ⟨m + 1, rfl, by omega, by omega, by rw [HS.out, HSK.out, HB.out]; rfl, ?_, ?_⟩
     ·have h9 := (HR.out.below (drewN_b _ nq)).go (m + 1)
      rw [Int.natCast_add] at h9
      exact h9
     ·exact (HW.out.trans (OnlyR.ofBelow (drewN_b _ _))).set 1 _
   have HB : Hid (blankB c = false) := by
    refine Lib.hid ?_
    unfold blankB
    simp only [Bool.or_eq_false_iff, beq_eq_false_iff_ne]
    refine ⟨⟨⟨?_, ?_⟩, ?_⟩, ?_⟩ <;> (intro e9; subst e9; simp at e32 e9 e10 e13)
   have h32 : ((c.toNat : Int) == 32) = false := by rw [beq_eq_false_iff_ne]; omega
   have h9 : ((c.toNat : Int) == 9) = false := by rw [beq_eq_false_iff_ne]; omega
   have h10 : ((c.toNat : Int) == 10) = false := by rw [beq_eq_false_iff_ne]; omega
   have h13 : ((c.toNat : Int) == 13) = false := by rw [beq_eq_false_iff_ne]; omega
   go_wp2_with fail
   go_quiet (fail)
   go_wp2_with fail
   go_end0
   exact ⟨m, rfl, hnm, hm, by rw [HS.out, HSK.out, HB.out]; rfl, HR.out.below (drewN_b _ _), HW.out.trans (OnlyR.ofBelow (drewN_b _ _))⟩
  ·have hlt2 : ¬ (m : Int) < b.length := by omega
   have hd : decide ((m : Int) < b.length) = false := by simp; omega
   go_wp2_with fail
   go_quiet (fail)
   go_wp2_with fail
   go_end0
   exact ⟨m, rfl, hnm, hm, by rw [HS.out, skip_end b m (by omega), List.drop_of_length_le (by omega)], HR.out.below (drewN_b _ _), HW.out.trans (OnlyR.ofBelow (drewN_b _ _))⟩
open Go.RowKit
def takeB (b : List UInt8) (n : Nat) (s : List UInt8) : Bool := (b.drop n).take s.length == s
def TakeTo (w : World) (R : Nat) (b : List UInt8) (n : Nat) (s : List UInt8) (bad : Bool) (f : Fl) (e : Ending) (w' : World) : Prop :=
 e = .returned (.bool (takeB b n s)) ∧ RdAt w' R b (if takeB b n s then n + s.length else n) bad f ∧ OnlyR R w w'
theorem takeB_len {b : List UInt8} {n : Nat} {s : List UInt8} (h : takeB b n s = true) : n + s.length ≤ b.length ∨ s = [] := by
 unfold takeB at h
 rw [beq_iff_eq] at h
 have h1 := congrArg List.length h
 simp only [List.length_take, List.length_drop] at h1
 cases s with
 | nil => exact .inr rfl
 | cons c t => simp only [List.length_cons] at h1 ⊢; omega
theorem takeR_calls (w : World) {R : Nat} {b : List UInt8} {n : Nat} {bad : Bool} {f : Fl} (h : RdAt w R b n bad f) (hn : n ≤ b.length) (hl : b.length ≤ 1000000000) (s : List UInt8) (hs : s.length ≤ 1000000000) :
  Calls Tryz.prog 90 #[.pointer (some ⟨R, 0, none⟩), .string ⟨s.toArray⟩] w (TakeTo w R b n s bad f) := by
 have c0 := h.cell 0 _ rfl
 have c1 := h.cell 1 _ rfl
 have f1 := h.free 1
 have H := Lib.hid h
 clear h
 have hw1 : IntKind.i64.wrap ((b.length : Int) - n) = (b.length : Int) - n := IntWalk.i64_in _ (by omega)
 have hw2 : IntKind.i64.wrap ((n : Int) + s.length) = (n : Int) + s.length := IntWalk.i64_in _ (by omega)
 go_enter Tryz.func90, Tryz.ntmps90
 by_cases hlt : b.length - n < s.length
 ·have hlt2 : (b.length : Int) - n < s.length := by omega
  have HB : Hid (takeB b n s = false) := by
   refine Lib.hid ?_
   cases hh : takeB b n s with
   | false => rfl
   | true => rcases takeB_len hh with h9 | h9
             ·omega
             ·rw [h9] at hlt; simp at hlt
  go_wp2_with fail
  go_quiet (fail)
  go_wp2_with fail
  go_ret
  unfold TakeTo
  rw [HB.out]
  exact ⟨rfl, H.out.below (drewN_b _ _), OnlyR.ofBelow (drewN_b _ _)⟩
 ·have hlt2 : ¬ (b.length : Int) - n < s.length := by omega
  have hd : decide ((b.length : Int) - n < s.length) = false := decide_eq_false hlt2
  have hle : n + s.length ≤ b.length := by omega
  have hle2 : (n : Int) + s.length ≤ b.length := by omega
  have hext : (⟨b.toArray⟩ : ByteArray).extract n (n + s.length) = ⟨((b.drop n).take s.length).toArray⟩ := by rw [Lib.extract_eq, Nat.add_sub_cancel_left]
  obtain ⟨p, hp⟩ : ∃ p, (b.drop n).take s.length = p := ⟨_, rfl⟩
  rw [hp] at hext
  have HP := Lib.hid hp
  clear hp
  by_cases he : p = s
  ·have he' : (p == s) = true := beq_iff_eq.2 he
   have HB : Hid (takeB b n s = true) := Lib.hid (by unfold takeB; rw [HP.out]; exact he')
   clear he
   go_wp2_with fail
   go_quiet (fail)
   go_wp2_with fail
   go_ret
   unfold TakeTo
   rw [HB.out, if_pos rfl]
   refine ⟨rfl, ?_, (OnlyR.ofBelow (drewN_b _ _)).set 1 _⟩
   have h9 := (H.out.below (drewN_b _ nq)).go (n + s.length)
   rw [Int.natCast_add] at h9
   exact h9
  ·have he' : (p == s) = false := by rw [beq_eq_false_iff_ne]; exact he
   have HB : Hid (takeB b n s = false) := Lib.hid (by unfold takeB; rw [HP.out]; exact he')
   clear he
   go_wp2_with fail
   go_quiet (fail)
   go_wp2_with fail
   go_ret
   unfold TakeTo
   rw [HB.out]
   exact ⟨rfl, H.out.below (drewN_b _ _), OnlyR.ofBelow (drewN_b _ _)⟩
def HexTo (w : World) (R : Nat) (b : List UInt8) (n : Nat) (bad : Bool) (f : Fl) (e : Ending) (w' : World) : Prop :=
 OnlyR R w w' ∧ ((hexN 4 0 (b.drop n) = none ∧ e = .returned (.int .i64 (-1)) ∧ ∃ m, m ≤ b.length ∧ RdAt w' R b m bad f) ∨
  ∃ x : Nat, hexN 4 0 (b.drop n) = some (x, b.drop (n + 4)) ∧ x ≤ 65535 ∧ n + 4 ≤ b.length ∧ e = .returned (.int .i64 (x : Int)) ∧ RdAt w' R b (n + 4) bad f)
theorem hexR_calls (w : World) {R : Nat} {b : List UInt8} {n : Nat} {bad : Bool} {f : Fl} (h : RdAt w R b n bad f) (hn : n ≤ b.length) (hl : b.length ≤ 1000000000) :
  Calls Tryz.prog 156 #[.pointer (some ⟨R, 0, none⟩)] w (HexTo w R b n bad f) := by
 have H := Lib.hid h
 clear h
 go_enter Tryz.func156, Tryz.ntmps156
 go_wp2_with fail
 go_loopg [3, 4] 4 (fun k s3 s4 wr => ∃ (j x : Nat), k = 4 - j ∧ j ≤ 4 ∧ s3 = .int .i64 (x : Int) ∧ s4 = .int .i64 (j : Int) ∧ n + j ≤ b.length ∧ x < 16 ^ j ∧ hexN 4 0 (b.drop n) = hexN (4 - j) x (b.drop (n + j)) ∧ RdAt wr R b (n + j) bad f ∧ OnlyR R w wr)
 case atStart => exact ⟨0, 0, rfl, by omega, rfl, rfl, hn, by decide, rfl, H.out, OnlyR.refl _ _⟩
 case round =>
  obtain ⟨j, x, hk, hj, rfl, rfl, hnj, hx, hh, hr, hw⟩ := hrel
  have Hk := Lib.hid hk
  have HH := Lib.hid hh
  have HR := Lib.hid hr
  have HW := Lib.hid hw
  clear hk hh hr hw
  by_cases hlt : j < 4
  ·have hlt2 : (j : Int) < 4 := by omega
   have hx4 : x ≤ 4095 := by
    have h9 : (16 : Nat) ^ j ≤ 16 ^ 3 := Nat.pow_le_pow_right (by omega) (by omega)
    omega
   have HX := Lib.hid hx
   clear hx
   have HN := Lib.hid (hexN_at b (n + j) (4 - (j + 1)) x)
   rw [show 4 - (j + 1) + 1 = 4 - j by omega] at HN
   go_wp2_with fail
   refine (next_calls wr HR.out).mono ?_
   rintro e w2 ⟨rfl, hb2⟩
   have HR2 := Lib.hid (HR.out.below hb2)
   have HW2 := Lib.hid (HW.out.trans (OnlyR.ofBelow hb2))
   have c1 := HR2.out.cell 1 _ rfl
   have f1 := HR2.out.free 1
   have HE : Hid (b.length ≤ n + j → b.getD (n + j) 0 = 0) := Lib.hid (fun h9 => by simp [List.getElem?_eq_none h9])
   have hc := (b.getD (n + j) 0).toNat_lt
   generalize b.getD (n + j) 0 = c at *
   have HC := Lib.hid (show hexV c = if 48 ≤ c.toNat ∧ c.toNat ≤ 57 then some (c.toNat - 48) else if 97 ≤ c.toNat ∧ c.toNat ≤ 102 then some (c.toNat - 97 + 10) else if 65 ≤ c.toNat ∧ c.toNat ≤ 70 then some (c.toNat - 65 + 10) else none from rfl)
   have hnz : 48 ≤ c.toNat → n + j < b.length := fun h9 => by
    rcases Nat.lt_or_ge (n + j) b.length with h8 | h8
    ·exact h8
    ·have := HE.out h8; subst this; simp at h9
   have HNZ := Lib.hid hnz
   clear hb2 HR HW hnz
   by_cases g48 : 48 ≤ c.toNat ∧ c.toNat ≤ 57
   ·obtain ⟨d, hd⟩ : ∃ d, c.toNat - 48 = d := ⟨_, rfl⟩
    have HD := Lib.hid (show hexV c = some d by rw [HC.out, if_pos g48, hd])
    have hd15 : d ≤ 15 := by omega
    have hnj2 := HNZ.out (by omega)
    obtain ⟨g1, g2⟩ := g48
    have HD2 := Lib.hid hd
    clear hd HC
    go_wp2_with fail
    go_roundg (4 - (j + 1))
    case measure => have := Hk.out; omega
    case rel =>
     have h7 := HD2.out
     refine ⟨j + 1, 16 * x + d, rfl, by omega, congrArg (Value.int .i64) (by omega), by go_num, by omega, ?_, by rw [HH.out, HN.out, HD.out]; rfl, ?_, HW2.out.set 1 _⟩
     ·have := HX.out; rw [Nat.pow_succ]; omega
     ·have h9 := HR2.out.go (n + j + 1)
      simp only [Int.natCast_add] at h9
      exact h9
   by_cases g97 : 97 ≤ c.toNat ∧ c.toNat ≤ 102
   ·obtain ⟨d, hd⟩ : ∃ d, c.toNat - 97 + 10 = d := ⟨_, rfl⟩
    have HD := Lib.hid (show hexV c = some d by rw [HC.out, if_neg g48, if_pos g97, hd])
    have hd15 : d ≤ 15 := by omega
    have hnj2 := HNZ.out (by omega)
    obtain ⟨g1, g2⟩ := g97
    have HD2 := Lib.hid hd
    clear hd HC
    go_wp2_with fail
    go_roundg (4 - (j + 1))
    case measure => have := Hk.out; omega
    case rel =>
     have h7 := HD2.out
     refine ⟨j + 1, 16 * x + d, rfl, by omega, congrArg (Value.int .i64) (by omega), by go_num, by omega, ?_, by rw [HH.out, HN.out, HD.out]; rfl, ?_, HW2.out.set 1 _⟩
     ·have := HX.out; rw [Nat.pow_succ]; omega
     ·have h9 := HR2.out.go (n + j + 1)
      simp only [Int.natCast_add] at h9
      exact h9
   by_cases g65 : 65 ≤ c.toNat ∧ c.toNat ≤ 70
   ·obtain ⟨d, hd⟩ : ∃ d, c.toNat - 65 + 10 = d := ⟨_, rfl⟩
    have HD := Lib.hid (show hexV c = some d by rw [HC.out, if_neg g48, if_neg g97, if_pos g65, hd])
    have hd15 : d ≤ 15 := by omega
    have hnj2 := HNZ.out (by omega)
    obtain ⟨g1, g2⟩ := g65
    have HD2 := Lib.hid hd
    clear hd HC
    go_wp2_with fail
    go_roundg (4 - (j + 1))
    case measure => have := Hk.out; omega
    case rel =>
     have h7 := HD2.out
     refine ⟨j + 1, 16 * x + d, rfl, by omega, congrArg (Value.int .i64) (by omega), by go_num, by omega, ?_, by rw [HH.out, HN.out, HD.out]; rfl, ?_, HW2.out.set 1 _⟩
     ·have := HX.out; rw [Nat.pow_succ]; omega
     ·have h9 := HR2.out.go (n + j + 1)
      simp only [Int.natCast_add] at h9
      exact h9
   have HD := Lib.hid (show hexV c = none by rw [HC.out, if_neg g48, if_neg g97, if_neg g65])
   have hcs : c.toNat < 48 ∨ (57 < c.toNat ∧ c.toNat < 65) ∨ (70 < c.toNat ∧ c.toNat < 97) ∨ 102 < c.toNat := by omega
   have HNO : Hid (hexN 4 0 (b.drop n) = none) := Lib.hid (by rw [HH.out, HN.out, HD.out])
   clear HC g48 g97 g65 HN HD HH
   rcases hcs with g1 | ⟨g1, g2⟩ | ⟨g1, g2⟩ | g1
   ·have g3 : ¬ 48 ≤ c.toNat := by omega
    have g4 : ¬ 97 ≤ c.toNat := by omega
    have g5 : ¬ 65 ≤ c.toNat := by omega
    go_wp2_with fail
    go_ret
    exact ⟨HW2.out, .inl ⟨HNO.out, rfl, n + j, hnj, HR2.out⟩⟩
   ·have g3 : 48 ≤ c.toNat := by omega
    have g6 : ¬ c.toNat ≤ 57 := by omega
    have g4 : ¬ 97 ≤ c.toNat := by omega
    have g5 : ¬ 65 ≤ c.toNat := by omega
    go_wp2_with fail
    go_ret
    exact ⟨HW2.out, .inl ⟨HNO.out, rfl, n + j, hnj, HR2.out⟩⟩
   ·have g3 : 48 ≤ c.toNat := by omega
    have g6 : ¬ c.toNat ≤ 57 := by omega
    have g4 : ¬ 97 ≤ c.toNat := by omega
    have g5 : 65 ≤ c.toNat := by omega
    have g7 : ¬ c.toNat ≤ 70 := by omega
    go_wp2_with fail
    go_ret
    exact ⟨HW2.out, .inl ⟨HNO.out, rfl, n + j, hnj, HR2.out⟩⟩
   ·have g3 : 48 ≤ c.toNat := by omega
    have g6 : ¬ c.toNat ≤ 57 := by omega
    have g4 : 97 ≤ c.toNat := by omega
    have g8 : ¬ c.toNat ≤ 102 := by omega
    have g5 : 65 ≤ c.toNat := by omega
    have g7 : ¬ c.toNat ≤ 70 := by omega
    go_wp2_with fail
    go_ret
    exact ⟨HW2.out, .inl ⟨HNO.out, rfl, n + j, hnj, HR2.out⟩⟩
  ·obtain rfl : j = 4 := by omega
   have hlt2 : ¬ ((4 : Nat) : Int) < 4 := by omega
   have HF := Lib.hid (HH.out.trans (by rw [Nat.sub_self]; rfl : hexN (4 - 4) x (b.drop (n + 4)) = some (x, b.drop (n + 4))))
   have hx5 : x ≤ 65535 := by omega
   clear hx
   go_wp2_with fail
   go_ret
   exact ⟨HW.out, .inr ⟨x, HF.out, hx5, hnj, rfl, HR.out⟩⟩
end Go.Proofs.YtfclfaidmipjpaaGreatDoor
