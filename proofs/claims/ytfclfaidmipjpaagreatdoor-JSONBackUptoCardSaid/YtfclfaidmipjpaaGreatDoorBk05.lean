/- JSONBack returns true at any value and any bytes whose bulk is 1048576 at most, and leaves them as they were, in every world whose listed variables hold what the program text lays (the tied card). -/
import Derived.Test.YtfclfaidmipjpaaGreatDoorBk02
import Derived.Test.YtfclfaidmipjpaaGreatDoorBk04
namespace Go.Proofs.YtfclfaidmipjpaaGreatDoor
set_option maxRecDepth 100000
set_option maxHeartbeats 20000000
open Go.RowKit
theorem FB.byts {w : World} {B : Nat} {v : Value} {l : List UInt8} (h : FB w B v l) : BytS w v l := by
 rcases h.2 with ⟨hv, h0⟩ | ⟨g, cap, cur, fz, hv, hbg, hg, _, hc, hm, rest⟩
 ·exact .inl ⟨hv, List.length_eq_zero_iff.1 h0⟩
 ·have hob : v.ownBlock = some g := by rw [hv]; rfl
  refine .inr ⟨g, 0, cap, hv, hc, by omega, (Array.getElem?_eq_some_iff.1 hg).1, fun j hj => ?_⟩
  have h9 := World.ownsRowF.cells h hob j (.int .u8 (((l.getD j 0).toNat : Nat) : Int)) (u8s_at l j hj)
  rw [addr_off rfl] at h9
  exact h9
theorem exec_conv {w : World} {a : Act} {o : Oper} (x : Operand) (ho : o.op = .convert 22 9 x) {B : Nat} {v : Value} {l : List UInt8} (h : FB w B v l) (hx : a.eval x = v) : (execOp a.eval o).run Tryz.prog w = .ok (.value (.string ⟨l.toArray⟩)) w := by
 simp [execOp, ho, hx, h.string]
open Go.RowKit
theorem jback_calls (w : World) (he : EnvJ w) (r0 : JR) (v : Value) (l : List UInt8) (hj : JV w (fun _ => True) r0) (hsz : szJ r0.1 ≤ 20000000) (hx : BytS w v l) : Calls Tryz.prog 9 #[jval r0, v] w fun e w' => e = .returned (.bool true) ∧ Below w.heap.size w w' := by
 have HE := Lib.hid he
 have HJ0 := Lib.hid hj
 have HE0 := HE
 have HX := Lib.hid hx
 have HX0 := HX
 obtain ⟨p0, cap, rfl, hcap, hml, hp0⟩ := hx.open
 clear he hx hp0 hj
 go_enter Tryz.func9, Tryz.ntmps9
 have HB : Hid (Below w.heap.size w w) := Lib.hid (Below.refl _ _)
 have HSZ := Lib.hid hsz
 clear hsz
 go_upto_region 1 with (refine wpList_boxJ rfl _ rfl r0 rfl ?_; intro wb1 hBx)
 have hb : Below w.heap.size w wb1 := hBx.be
 have hrow := hBx.row
 obtain ⟨g0, hg⟩ : ∃ g, w.heap.size = g := ⟨_, rfl⟩
 rw [hg] at hrow ⊢
 have HV0 := Lib.hid hrow
 clear hBx hg hrow
 replace HE := Lib.hid (HE.out.below hb (Nat.le_refl _))
 replace HJ0 := Lib.hid (HJ0.out.bel hb)
 replace HX := Lib.hid (HX.out.below hb)
 replace HB := Lib.hid (HB.out.trans (hb.mono HB.out.size))
 clear hb
 go_wp2_with (first | refine wpList_loadJ rfl _ rfl r0 HV0.out rfl ?_ | (refine wpList_buildJ rfl _ rfl r0 rfl ?_; intro w2 hBx))
 have hb : Below wb1.heap.size wb1 w2 := hBx.be
 have hrs := RowsJ.one hBx
 clear hBx
 replace HE := Lib.hid (HE.out.below hb (Nat.le_refl _))
 replace HJ0 := Lib.hid (HJ0.out.bel hb)
 replace HX := Lib.hid (HX.out.below hb)
 replace HV0 := Lib.hid (HV0.out.below hb)
 replace HB := Lib.hid (HB.out.trans (hb.mono HB.out.size))
 clear hb
 refine (small_calls w2 _ [r0] hrs (fun r hr => by rw [List.mem_singleton.1 hr]; exact ⟨_, HJ0.out⟩) (fun r hr => by rw [List.mem_singleton.1 hr]; exact HSZ.out) (by simp)).mono ?_
 rintro e w3 ⟨bs, rfl, hb⟩
 clear hrs
 replace HE := Lib.hid (HE.out.below hb (Nat.le_refl _))
 replace HJ0 := Lib.hid (HJ0.out.bel hb)
 replace HX := Lib.hid (HX.out.below hb)
 replace HV0 := Lib.hid (HV0.out.below hb)
 replace HB := Lib.hid (HB.out.trans (hb.mono HB.out.size))
 clear hb
 cases bs with
 | false =>
  go_wp2_with fail
  refine (works_calls w3 HE.out).mono ?_
  rintro e w2 ⟨rfl, hb⟩
  replace HE := Lib.hid (HE.out.below hb (Nat.le_refl _))
  replace HJ0 := Lib.hid (HJ0.out.bel hb)
  replace HX := Lib.hid (HX.out.below hb)
  replace HV0 := Lib.hid (HV0.out.below hb)
  replace HB := Lib.hid (HB.out.trans (hb.mono HB.out.size))
  clear hb
  go_wp2_with fail
  go_ret
  exact ⟨rfl, HB.out⟩
 | true =>
  by_cases hl : 20000 < l.length
  ·
   have hli : (20000 : Int) < (l.length : Int) := by omega
   go_wp2_with fail
   refine (works_calls w3 HE.out).mono ?_
   rintro e w3 ⟨rfl, hb⟩
   replace HE := Lib.hid (HE.out.below hb (Nat.le_refl _))
   replace HJ0 := Lib.hid (HJ0.out.bel hb)
   replace HX := Lib.hid (HX.out.below hb)
   replace HV0 := Lib.hid (HV0.out.below hb)
   replace HB := Lib.hid (HB.out.trans (hb.mono HB.out.size))
   clear hb
   go_wp2_with fail
   go_ret
   exact ⟨rfl, HB.out⟩
  ·
   have hli : ¬ (20000 : Int) < (l.length : Int) := by omega
   have HL : Hid (l.length ≤ 20000) := Lib.hid (by omega)
   go_wp2_with (refine wpList_loadJ rfl _ rfl r0 HV0.out rfl ?_)
   refine (checkJ_calls (r1 := r0) HJ0.out HE.out.tab HE.out.utf w3 (Below.refl _ _) HSZ.out).mono ?_
   rintro e w4 ⟨rfl, hb⟩
   obtain ⟨c0, hc0⟩ : ∃ c, checkJ r0.1 = c := ⟨_, rfl⟩
   have HC0 := Lib.hid hc0
   rw [hc0]
   clear hc0
   replace HE := Lib.hid (HE.out.below hb (Nat.le_refl _))
   replace HJ0 := Lib.hid (HJ0.out.bel hb)
   replace HX := Lib.hid (HX.out.below hb)
   replace HV0 := Lib.hid (HV0.out.below hb)
   replace HB := Lib.hid (HB.out.trans (hb.mono HB.out.size))
   clear hb
   go_wp2_with fail
   refine (num_calls _ w4).mono ?_
   rintro e wq9 ⟨rfl, rfl⟩
   go_upto_if 25 with fail
   go_cut [5, 6] from 25 to 50 (fun s5 s6 wc => Below w.heap.size w wc)
   case first =>
    by_cases hc : c0 = 0
    rotate_left
    ·
     have n0 : ((c0 : Int) == 0) = false := by rw [beq_eq_false_iff_ne]; exact hc
     go_wp2_with (refine wpList_loadJ rfl _ rfl r0 HV0.out rfl ?_)
     refine (printJ_calls (r1 := r0) HJ0.out HE.out.tab HE.out.utf w4 (Below.refl _ _) HSZ.out).mono ?_
     rintro e w5 ⟨pv, rfl, hF, hb⟩
     rw [show printJ r0.1 = [] by rw [printJ, if_neg (by rw [HC0.out]; exact hc)]] at hF
     obtain ⟨ps, cs, rfl⟩ := hF.slice
     clear hF
     replace HE := Lib.hid (HE.out.below hb (Nat.le_refl _))
     replace HJ0 := Lib.hid (HJ0.out.bel hb)
     replace HX := Lib.hid (HX.out.below hb)
     replace HV0 := Lib.hid (HV0.out.below hb)
     replace HB := Lib.hid (HB.out.trans (hb.mono HB.out.size))
     clear hb
     go_wp2_with fail
     go_meet
     exact HB.out
    ·
     subst hc
     have HCZ := Lib.hid (checkJ_zero.1 HC0.out)
     have HTB : Hid (parseJ [] (toldJ r0.1) = (r0.1, 0)) := Lib.hid (told_back r0.1 HCZ.out.1 HCZ.out.2.1 HCZ.out.2.2 [])
     go_wp2_with (refine wpList_loadJ rfl _ rfl r0 HV0.out rfl ?_)
     refine (printJ_calls (r1 := r0) HJ0.out HE.out.tab HE.out.utf w4 (Below.refl _ _) HSZ.out).mono ?_
     rintro e w6 ⟨pv, rfl, hF, hb⟩
     rw [show printJ r0.1 = toldJ r0.1 by rw [printJ, if_pos HC0.out]] at hF
     have HP := Lib.hid hF.byts
     clear hF
     replace HE := Lib.hid (HE.out.below hb (Nat.le_refl _))
     replace HJ0 := Lib.hid (HJ0.out.bel hb)
     replace HX := Lib.hid (HX.out.below hb)
     replace HV0 := Lib.hid (HV0.out.below hb)
     replace HB := Lib.hid (HB.out.trans (hb.mono HB.out.size))
     clear hb
     go_wp2_with fail
     refine (parseP_calls w6 _ (toldJ r0.1) HP.out HE.out.utf).mono ?_
     rintro e w7 ⟨r5, rfl, hr, hj, hb⟩
     rw [HTB.out] at hr ⊢
     have HR5 : Hid (r5.1 = r0.1) := Lib.hid hr
     have HJ5 := Lib.hid hj
     have HSL := Lib.hid hj.slJ
     clear hr hj
     clear HP
     replace HE := Lib.hid (HE.out.below hb (Nat.le_refl _))
     replace HJ0 := Lib.hid (HJ0.out.bel hb)
     replace HX := Lib.hid (HX.out.below hb)
     replace HV0 := Lib.hid (HV0.out.below hb)
     replace HB := Lib.hid (HB.out.trans (hb.mono HB.out.size))
     clear hb
     go_upto_region 5 with (first | (refine wpList_allocJ rfl rfl ?_; intro wa8 hBx) | (refine wpList_storeJ rfl _ _ rfl rfl hBx.row rfl r5 HSL.out rfl rfl ?_; intro wS8 hSx))
     have hb : Below w7.heap.size w7 wS8 := hSx.below hBx.be (Nat.le_refl _) hBx.be.size
     have hrow := hSx.row
     obtain ⟨g5, hg⟩ : ∃ g, w7.heap.size = g := ⟨_, rfl⟩
     rw [hg] at hrow ⊢
     have HV5 := Lib.hid hrow
     clear hSx hBx hg hrow
     replace HE := Lib.hid (HE.out.below hb (Nat.le_refl _))
     replace HJ0 := Lib.hid (HJ0.out.bel hb)
     replace HX := Lib.hid (HX.out.below hb)
     replace HV0 := Lib.hid (HV0.out.below hb)
     replace HJ5 := Lib.hid (HJ5.out.bel hb)
     replace HB := Lib.hid (HB.out.trans (hb.mono HB.out.size))
     clear hb
     go_wp2_with fail
     refine (num_calls _ wS8).mono ?_
     rintro e wq9 ⟨rfl, rfl⟩
     have k0 : wS8.cell? ⟨g0, 0, none⟩ = some (.int .i64 r0.1.kind) := HV0.out.cell 0 _ rfl
     have k1 : wS8.cell? ⟨g0, 1, none⟩ = some (.bool r0.1.b) := HV0.out.cell 1 _ rfl
     have k2 : wS8.cell? ⟨g0, 2, none⟩ = some (.bool r0.1.n.neg) := HV0.out.cell 2 _ rfl
     have k3 : wS8.cell? ⟨g0, 3, none⟩ = some (.string ⟨r0.1.n.digits.toArray⟩) := HV0.out.cell 3 _ rfl
     have k4 : wS8.cell? ⟨g0, 4, none⟩ = some (.int .i64 r0.1.n.exp) := HV0.out.cell 4 _ rfl
     have k5 : wS8.cell? ⟨g0, 5, none⟩ = some (.string ⟨r0.1.t.toArray⟩) := HV0.out.cell 5 _ rfl
     have k6 : wS8.cell? ⟨g0, 6, none⟩ = some (r0.2.1) := HV0.out.cell 6 _ rfl
     have k7 : wS8.cell? ⟨g0, 7, none⟩ = some (r0.2.2) := HV0.out.cell 7 _ rfl
     have q0 : wS8.cell? ⟨g5, 0, none⟩ = some (.int .i64 r5.1.kind) := HV5.out.cell 0 _ rfl
     have q1 : wS8.cell? ⟨g5, 1, none⟩ = some (.bool r5.1.b) := HV5.out.cell 1 _ rfl
     have q2 : wS8.cell? ⟨g5, 2, none⟩ = some (.bool r5.1.n.neg) := HV5.out.cell 2 _ rfl
     have q3 : wS8.cell? ⟨g5, 3, none⟩ = some (.string ⟨r5.1.n.digits.toArray⟩) := HV5.out.cell 3 _ rfl
     have q4 : wS8.cell? ⟨g5, 4, none⟩ = some (.int .i64 r5.1.n.exp) := HV5.out.cell 4 _ rfl
     have q5 : wS8.cell? ⟨g5, 5, none⟩ = some (.string ⟨r5.1.t.toArray⟩) := HV5.out.cell 5 _ rfl
     have q6 : wS8.cell? ⟨g5, 6, none⟩ = some (r5.2.1) := HV5.out.cell 6 _ rfl
     have q7 : wS8.cell? ⟨g5, 7, none⟩ = some (r5.2.2) := HV5.out.cell 7 _ rfl
     go_wp2_with fail
     refine (sameL_calls HJ0.out _ r5 wS8 (Below.refl _ _) HJ5.out).mono ?_
     rintro e w9 ⟨bb, rfl, hbb, hb⟩
     obtain rfl : bb = true := hbb.2 HR5.out.symm
     clear hbb
     clear k0 k1 k2 k3 k4 k5 k6 k7 q0 q1 q2 q3 q4 q5 q6 q7
     replace HE := Lib.hid (HE.out.below hb (Nat.le_refl _))
     replace HJ0 := Lib.hid (HJ0.out.bel hb)
     replace HX := Lib.hid (HX.out.below hb)
     replace HV0 := Lib.hid (HV0.out.below hb)
     replace HJ5 := Lib.hid (HJ5.out.bel hb)
     replace HV5 := Lib.hid (HV5.out.below hb)
     replace HB := Lib.hid (HB.out.trans (hb.mono HB.out.size))
     clear hb
     have k0 : w9.cell? ⟨g0, 0, none⟩ = some (.int .i64 r0.1.kind) := HV0.out.cell 0 _ rfl
     have k1 : w9.cell? ⟨g0, 1, none⟩ = some (.bool r0.1.b) := HV0.out.cell 1 _ rfl
     have k2 : w9.cell? ⟨g0, 2, none⟩ = some (.bool r0.1.n.neg) := HV0.out.cell 2 _ rfl
     have k3 : w9.cell? ⟨g0, 3, none⟩ = some (.string ⟨r0.1.n.digits.toArray⟩) := HV0.out.cell 3 _ rfl
     have k4 : w9.cell? ⟨g0, 4, none⟩ = some (.int .i64 r0.1.n.exp) := HV0.out.cell 4 _ rfl
     have k5 : w9.cell? ⟨g0, 5, none⟩ = some (.string ⟨r0.1.t.toArray⟩) := HV0.out.cell 5 _ rfl
     have k6 : w9.cell? ⟨g0, 6, none⟩ = some (r0.2.1) := HV0.out.cell 6 _ rfl
     have k7 : w9.cell? ⟨g0, 7, none⟩ = some (r0.2.2) := HV0.out.cell 7 _ rfl
     have q0 : w9.cell? ⟨g5, 0, none⟩ = some (.int .i64 r5.1.kind) := HV5.out.cell 0 _ rfl
     have q1 : w9.cell? ⟨g5, 1, none⟩ = some (.bool r5.1.b) := HV5.out.cell 1 _ rfl
     have q2 : w9.cell? ⟨g5, 2, none⟩ = some (.bool r5.1.n.neg) := HV5.out.cell 2 _ rfl
     have q3 : w9.cell? ⟨g5, 3, none⟩ = some (.string ⟨r5.1.n.digits.toArray⟩) := HV5.out.cell 3 _ rfl
     have q4 : w9.cell? ⟨g5, 4, none⟩ = some (.int .i64 r5.1.n.exp) := HV5.out.cell 4 _ rfl
     have q5 : w9.cell? ⟨g5, 5, none⟩ = some (.string ⟨r5.1.t.toArray⟩) := HV5.out.cell 5 _ rfl
     have q6 : w9.cell? ⟨g5, 6, none⟩ = some (r5.2.1) := HV5.out.cell 6 _ rfl
     have q7 : w9.cell? ⟨g5, 7, none⟩ = some (r5.2.2) := HV5.out.cell 7 _ rfl
     go_wp2_with fail
     refine (equalJ_calls (r1 := r0) (r2 := r5) HJ0.out HJ5.out HE.out.tab HE.out.utf w9 (Below.refl _ _) HSZ.out (by rw [HR5.out]; exact HSZ.out)).mono ?_
     rintro e w10 ⟨⟨bb, rfl, hbb⟩, hb⟩
     obtain rfl : bb = true := hbb.2 ⟨HC0.out, by rw [HR5.out]; exact HC0.out, by rw [HR5.out]⟩
     clear hbb
     clear k0 k1 k2 k3 k4 k5 k6 k7 q0 q1 q2 q3 q4 q5 q6 q7
     replace HE := Lib.hid (HE.out.below hb (Nat.le_refl _))
     replace HJ0 := Lib.hid (HJ0.out.bel hb)
     replace HX := Lib.hid (HX.out.below hb)
     replace HV0 := Lib.hid (HV0.out.below hb)
     replace HJ5 := Lib.hid (HJ5.out.bel hb)
     replace HV5 := Lib.hid (HV5.out.below hb)
     replace HB := Lib.hid (HB.out.trans (hb.mono HB.out.size))
     clear hb
     go_wp2_with fail
     go_meet
     exact HB.out
   case rest =>
    have HBC := Lib.hid hcut
    clear hcut HV0 HJ0 HSZ HC0
    have HEC : Hid (EnvJ wc) := Lib.hid (HE0.out.below HBC.out (Nat.le_refl _))
    have HXC := Lib.hid (HX0.out.below HBC.out)
    clear HE HX HB
    have HE := HEC
    have HX := HXC
    have HB := HBC
    clear HEC HXC HBC
    go_wp2_with fail
    refine (parseP_calls wc _ l HX.out HE.out.utf).mono ?_
    rintro e w11 ⟨r7, rfl, hr, hj, hb⟩
    obtain ⟨⟨x7, c7⟩, hpe⟩ : ∃ x, parseJ [] l = x := ⟨_, rfl⟩
    rw [hpe] at hr ⊢
    have HPE := Lib.hid hpe
    have HR7 : Hid (r7.1 = x7) := Lib.hid hr
    have HJ7 := Lib.hid hj
    have HSL7 := Lib.hid hj.slJ
    clear hr hj hpe
    clear HX
    replace HE := Lib.hid (HE.out.below hb (Nat.le_refl _))
    replace HB := Lib.hid (HB.out.trans (hb.mono HB.out.size))
    clear hb
    go_upto_region 10 with (first | (refine wpList_allocJ rfl rfl ?_; intro wa12 hBx) | (refine wpList_storeJ rfl _ _ rfl rfl hBx.row rfl r7 HSL7.out rfl rfl ?_; intro wS12 hSx))
    have hb : Below w11.heap.size w11 wS12 := hSx.below hBx.be (Nat.le_refl _) hBx.be.size
    have hrow := hSx.row
    obtain ⟨g7, hg⟩ : ∃ g, w11.heap.size = g := ⟨_, rfl⟩
    rw [hg] at hrow ⊢
    have HV7 := Lib.hid hrow
    clear hSx hBx hg hrow
    replace HE := Lib.hid (HE.out.below hb (Nat.le_refl _))
    replace HJ7 := Lib.hid (HJ7.out.bel hb)
    replace HB := Lib.hid (HB.out.trans (hb.mono HB.out.size))
    clear hb
    by_cases hc7 : c7 = 0
    rotate_left
    ·
     have n0 : ((c7 : Int) == 0) = false := by rw [beq_eq_false_iff_ne]; exact hc7
     have n1 : ((c7 : Int) != 0) = true := by rw [bne_iff_ne]; exact hc7
     go_wp2_with fail
     refine (num_calls _ wS12).mono ?_
     rintro e wq9 ⟨rfl, rfl⟩
     go_wp2_with fail
     refine (works_calls wS12 HE.out).mono ?_
     rintro e w13 ⟨rfl, hb⟩
     replace HE := Lib.hid (HE.out.below hb (Nat.le_refl _))
     replace HJ7 := Lib.hid (HJ7.out.bel hb)
     replace HV7 := Lib.hid (HV7.out.below hb)
     replace HB := Lib.hid (HB.out.trans (hb.mono HB.out.size))
     clear hb
     go_wp2_with fail
     go_ret
     exact ⟨rfl, HB.out⟩
    ·
     subst hc7
     have HGD : Hid (goodJ x7 = true ∧ deepJ x7 ≤ 64 ∧ (toldJ x7).length ≤ 1048576) := Lib.hid (parse_good HPE.out (by have := HL.out; omega))
     have HC7 : Hid (checkJ r7.1 = 0) := Lib.hid (by rw [HR7.out]; exact checkJ_zero.2 HGD.out)
     have HT7 : Hid (parseJ [] (toldJ x7) = (x7, 0)) := Lib.hid (told_back x7 HGD.out.1 HGD.out.2.1 HGD.out.2.2 [])
     have HS7 : Hid (szJ r7.1 ≤ 20000000) := Lib.hid (by rw [HR7.out]; exact parse_sz HPE.out (by have := HL.out; omega))
     have HP7 : Hid (printJ r7.1 = toldJ x7) := Lib.hid (by rw [printJ, if_pos HC7.out, HR7.out])
     go_wp2_with fail
     refine (num_calls _ wS12).mono ?_
     rintro e wq9 ⟨rfl, rfl⟩
     go_wp2_with (refine wpList_loadJ rfl _ rfl r7 HV7.out rfl ?_)
     refine (printJ_calls (r1 := r7) HJ7.out HE.out.tab HE.out.utf wS12 (Below.refl _ _) HS7.out).mono ?_
     rintro e w14 ⟨pv, rfl, hF, hb⟩
     rw [HP7.out] at hF
     obtain ⟨TX, hTX⟩ : ∃ t, toldJ x7 = t := ⟨_, rfl⟩
     rw [hTX] at hF HT7 HP7
     clear hTX
     obtain ⟨ps, cs, rfl⟩ := hF.slice
     have HF := Lib.hid hF
     clear hF
     replace HE := Lib.hid (HE.out.below hb (Nat.le_refl _))
     replace HJ7 := Lib.hid (HJ7.out.bel hb)
     replace HV7 := Lib.hid (HV7.out.below hb)
     replace HB := Lib.hid (HB.out.trans (hb.mono HB.out.size))
     clear hb
     go_wp2_with fail
     refine (parseP_calls w14 _ TX HF.out.byts HE.out.utf).mono ?_
     rintro e w15 ⟨r10, rfl, hr, hj, hb⟩
     rw [HT7.out] at hr ⊢
     have HR10 : Hid (r10.1 = r7.1) := Lib.hid (hr.trans HR7.out.symm)
     have HJ10 := Lib.hid hj
     have HSL10 := Lib.hid hj.slJ
     clear hr hj
     replace HE := Lib.hid (HE.out.below hb (Nat.le_refl _))
     replace HJ7 := Lib.hid (HJ7.out.bel hb)
     replace HV7 := Lib.hid (HV7.out.below hb)
     replace HF := Lib.hid (HF.out.below hb)
     replace HB := Lib.hid (HB.out.trans (hb.mono HB.out.size))
     clear hb
     go_upto_region 14 with (first | (refine wpList_allocJ rfl rfl ?_; intro wa16 hBx) | (refine wpList_storeJ rfl _ _ rfl rfl hBx.row rfl r10 HSL10.out rfl rfl ?_; intro wS16 hSx))
     have hb : Below w15.heap.size w15 wS16 := hSx.below hBx.be (Nat.le_refl _) hBx.be.size
     have hrow := hSx.row
     obtain ⟨g10, hg⟩ : ∃ g, w15.heap.size = g := ⟨_, rfl⟩
     rw [hg] at hrow ⊢
     have HV10 := Lib.hid hrow
     clear hSx hBx hg hrow
     replace HE := Lib.hid (HE.out.below hb (Nat.le_refl _))
     replace HJ7 := Lib.hid (HJ7.out.bel hb)
     replace HV7 := Lib.hid (HV7.out.below hb)
     replace HF := Lib.hid (HF.out.below hb)
     replace HJ10 := Lib.hid (HJ10.out.bel hb)
     replace HB := Lib.hid (HB.out.trans (hb.mono HB.out.size))
     clear hb
     obtain ⟨BF, hBF⟩ : ∃ B, FB wS16 B (.slice ps TX.length cs) TX := ⟨_, HF.out⟩
     have HF := Lib.hid hBF
     clear hBF
     have hS0 : (fun wq => RowAt wq g7 (jcells r7) ∧ RowAt wq g10 (jcells r10) ∧ FB wq BF (.slice ps TX.length cs) TX) wS16.drew := ⟨HV7.out.below (Below.refl _ _).drew, HV10.out.below (Below.refl _ _).drew, HF.out.below (Below.refl _ _).drew⟩
     have hb : Below wS16.heap.size wS16 wS16.drew := (Below.refl _ _).drew
     refine wp_region_held_drew (S := (fun wq => RowAt wq g7 (jcells r7) ∧ RowAt wq g10 (jcells r10) ∧ FB wq BF (.slice ps TX.length cs) TX)) (by kernel_rfl) hS0 (fun hHeld0 => ?_)
     generalize wS16.drew = wd at *
     replace HE := Lib.hid (HE.out.below hb (Nat.le_refl _))
     replace HJ7 := Lib.hid (HJ7.out.bel hb)
     replace HV7 := Lib.hid (HV7.out.below hb)
     replace HF := Lib.hid (HF.out.below hb)
     replace HJ10 := Lib.hid (HJ10.out.bel hb)
     replace HV10 := Lib.hid (HV10.out.below hb)
     replace HB := Lib.hid (HB.out.trans (hb.mono HB.out.size))
     clear hb
     refine held_take (i := 0) (v := jval r7) rfl (by kernel_rfl) (by kernel_rfl) (by kernel_rfl) (fun _ _ _ h => h) (by rfl) (fun wq hSq => exec_loadJ _ rfl rfl r7 hSq.1) hHeld0 ?_
     simp only [Act.put, sbA, sbB, sbC]
     refine held_step (i := 1) (by kernel_rfl) rfl (by rfl) (fun K hK => ?_)
     go_simp
     refine (checkJ_calls (r1 := r7) HJ7.out HE.out.tab HE.out.utf wd (Below.refl _ _) HS7.out).mono ?_
     rintro e w17 ⟨rfl, hb⟩
     rw [HC7.out]
     replace HE := Lib.hid (HE.out.below hb (Nat.le_refl _))
     replace HJ7 := Lib.hid (HJ7.out.bel hb)
     replace HV7 := Lib.hid (HV7.out.below hb)
     replace HF := Lib.hid (HF.out.below hb)
     replace HJ10 := Lib.hid (HJ10.out.bel hb)
     replace HV10 := Lib.hid (HV10.out.below hb)
     replace HB := Lib.hid (HB.out.trans (hb.mono HB.out.size))
     clear hb
     have hS17 : (fun wq => RowAt wq g7 (jcells r7) ∧ RowAt wq g10 (jcells r10) ∧ FB wq BF (.slice ps TX.length cs) TX) w17 := ⟨HV7.out, HV10.out, HF.out⟩
     refine hK.out _ _ hS17 (fun hHeld1 => ?_)
     clear hK K hHeld0
     refine held_step (i := 2) (by kernel_rfl) rfl (by rfl) (fun K hK => ?_)
     go_simp
     refine (num_calls _ w17).mono ?_
     rintro e wq9 ⟨rfl, rfl⟩
     have hS18 : (fun wq => RowAt wq g7 (jcells r7) ∧ RowAt wq g10 (jcells r10) ∧ FB wq BF (.slice ps TX.length cs) TX) w17 := ⟨HV7.out, HV10.out, HF.out⟩
     refine hK.out _ _ hS18 (fun hHeld2 => ?_)
     clear hK K hHeld1
     refine held_tk 3 ?_ (fun wq hSq => ?_) hHeld2 ?_
     rotate_left
     ·(try dsimp only at hSq); go_simp; try with_reducible rfl
     simp only [Act.put, sbA, sbB, sbC]
     refine held_tk 4 ?_ (fun wq hSq => ?_) hHeld2 ?_
     rotate_left
     ·(try dsimp only at hSq); go_simp; try with_reducible rfl
     simp only [Act.put, sbA, sbB, sbC]
     refine held_tk 5 ?_ (fun wq hSq => ?_) hHeld2 ?_
     rotate_left
     ·(try dsimp only at hSq); go_simp; try with_reducible rfl
     simp only [Act.put, sbA, sbB, sbC]
     refine held_step (i := 6) (by kernel_rfl) rfl (by rfl) (fun K hK => ?_)
     go_simp
     refine (num_calls _ w17).mono ?_
     rintro e wq9 ⟨rfl, rfl⟩
     have hS19 : (fun wq => RowAt wq g7 (jcells r7) ∧ RowAt wq g10 (jcells r10) ∧ FB wq BF (.slice ps TX.length cs) TX) w17 := ⟨HV7.out, HV10.out, HF.out⟩
     refine hK.out _ _ hS19 (fun hHeld3 => ?_)
     clear hK K hHeld2
     refine held_tk 7 ?_ (fun wq hSq => ?_) hHeld3 ?_
     rotate_left
     ·(try dsimp only at hSq); go_simp; try with_reducible rfl
     simp only [Act.put, sbA, sbB, sbC]
     refine held_tk 8 ?_ (fun wq hSq => ?_) hHeld3 ?_
     rotate_left
     ·(try dsimp only at hSq); go_simp; try with_reducible rfl
     simp only [Act.put, sbA, sbB, sbC]
     refine held_tk 9 ?_ (fun wq hSq => ?_) hHeld3 ?_
     rotate_left
     ·(try dsimp only at hSq); go_simp; try with_reducible rfl
     simp only [Act.put, sbA, sbB, sbC]
     refine held_take (i := 10) (v := jval r7) rfl (by kernel_rfl) (by kernel_rfl) (by kernel_rfl) (fun _ _ _ h => h) (by rfl) (fun wq hSq => exec_loadJ _ rfl rfl r7 hSq.1) hHeld3 ?_
     simp only [Act.put, sbA, sbB, sbC]
     refine held_take (i := 11) (v := jval r10) rfl (by kernel_rfl) (by kernel_rfl) (by kernel_rfl) (fun _ _ _ h => h) (by rfl) (fun wq hSq => exec_loadJ _ rfl rfl r10 hSq.2.1) hHeld3 ?_
     simp only [Act.put, sbA, sbB, sbC]
     refine held_step (i := 12) (by kernel_rfl) rfl (by rfl) (fun K hK => ?_)
     go_simp
     refine (sameL_calls HJ7.out _ r10 w17 (Below.refl _ _) HJ10.out).mono ?_
     rintro e w20 ⟨bb, rfl, hbb, hb⟩
     obtain rfl : bb = true := hbb.2 HR10.out.symm
     clear hbb
     replace HE := Lib.hid (HE.out.below hb (Nat.le_refl _))
     replace HJ7 := Lib.hid (HJ7.out.bel hb)
     replace HV7 := Lib.hid (HV7.out.below hb)
     replace HF := Lib.hid (HF.out.below hb)
     replace HJ10 := Lib.hid (HJ10.out.bel hb)
     replace HV10 := Lib.hid (HV10.out.below hb)
     replace HB := Lib.hid (HB.out.trans (hb.mono HB.out.size))
     clear hb
     have hS20 : (fun wq => RowAt wq g7 (jcells r7) ∧ RowAt wq g10 (jcells r10) ∧ FB wq BF (.slice ps TX.length cs) TX) w20 := ⟨HV7.out, HV10.out, HF.out⟩
     refine hK.out _ _ hS20 (fun hHeld4 => ?_)
     clear hK K hHeld3
     refine held_tk 13 ?_ (fun wq hSq => ?_) hHeld4 ?_
     rotate_left
     ·(try dsimp only at hSq); go_simp; try with_reducible rfl
     simp only [Act.put, sbA, sbB, sbC]
     refine held_tk 14 ?_ (fun wq hSq => ?_) hHeld4 ?_
     rotate_left
     ·(try dsimp only at hSq); go_simp; try with_reducible rfl
     simp only [Act.put, sbA, sbB, sbC]
     refine held_take (i := 15) (v := jval r10) rfl (by kernel_rfl) (by kernel_rfl) (by kernel_rfl) (fun _ _ _ h => h) (by rfl) (fun wq hSq => exec_loadJ _ rfl rfl r10 hSq.2.1) hHeld4 ?_
     simp only [Act.put, sbA, sbB, sbC]
     refine held_tk 18 ?_ (fun wq hSq => ?_) hHeld4 ?_
     rotate_left
     ·(try dsimp only at hSq); go_simp; try with_reducible rfl
     simp only [Act.put, sbA, sbB, sbC]
     refine held_take (i := 19) (v := .string ⟨TX.toArray⟩) rfl (by kernel_rfl) (by kernel_rfl) (by kernel_rfl) (fun _ _ _ h => h) (by rfl) (fun wq hSq => exec_conv _ rfl hSq.2.2 rfl) hHeld4 ?_
     simp only [Act.put, sbA, sbB, sbC]
     refine held_step (i := 16) (by kernel_rfl) rfl (by rfl) (fun K hK => ?_)
     go_simp
     refine (printJ_calls (r1 := r10) HJ10.out HE.out.tab HE.out.utf w20 (Below.refl _ _) (by rw [HR10.out]; exact HS7.out)).mono ?_
     rintro e w21 ⟨pv, rfl, hF, hb⟩
     rw [HR10.out, HP7.out] at hF
     obtain ⟨pt, ct, rfl⟩ := hF.slice
     have hcv := hF.string
     clear hF
     replace HE := Lib.hid (HE.out.below hb (Nat.le_refl _))
     replace HJ7 := Lib.hid (HJ7.out.bel hb)
     replace HV7 := Lib.hid (HV7.out.below hb)
     replace HF := Lib.hid (HF.out.below hb)
     replace HJ10 := Lib.hid (HJ10.out.bel hb)
     replace HV10 := Lib.hid (HV10.out.below hb)
     replace HB := Lib.hid (HB.out.trans (hb.mono HB.out.size))
     clear hb
     have hS21 : (fun wq => RowAt wq g7 (jcells r7) ∧ RowAt wq g10 (jcells r10) ∧ FB wq BF (.slice ps TX.length cs) TX) w21 := ⟨HV7.out, HV10.out, HF.out⟩
     refine hK.out _ _ hS21 (fun hHeld5 => ?_)
     clear hK K hHeld4
     refine held_step (i := 17) (by kernel_rfl) rfl (by rfl) (fun K hK => ?_)
     go_simp
     have hS22 : (fun wq => RowAt wq g7 (jcells r7) ∧ RowAt wq g10 (jcells r10) ∧ FB wq BF (.slice ps TX.length cs) TX) w21 := ⟨HV7.out, HV10.out, HF.out⟩
     refine hK.out _ _ hS22 (fun hHeld6 => ?_)
     clear hK K hHeld5
     refine held_tk 20 ?_ (fun wq hSq => ?_) hHeld6 ?_
     rotate_left
     ·(try dsimp only at hSq); go_simp; try with_reducible rfl
     simp only [Act.put, sbA, sbB, sbC]
     refine held_tk 21 ?_ (fun wq hSq => ?_) hHeld6 ?_
     rotate_left
     ·(try dsimp only at hSq); go_simp; try with_reducible rfl
     simp only [Act.put, sbA, sbB, sbC]
     refine held_tk 22 ?_ (fun wq hSq => ?_) hHeld6 ?_
     rotate_left
     ·(try dsimp only at hSq); go_simp; try with_reducible rfl
     simp only [Act.put, sbA, sbB, sbC]
     refine held_step (i := 23) (by kernel_rfl) rfl (by rfl) (fun K hK => ?_)
     go_simp
     clear hcv
     refine (works_calls w21 HE.out).mono ?_
     rintro e w23 ⟨rfl, hb⟩
     replace HE := Lib.hid (HE.out.below hb (Nat.le_refl _))
     replace HJ7 := Lib.hid (HJ7.out.bel hb)
     replace HV7 := Lib.hid (HV7.out.below hb)
     replace HF := Lib.hid (HF.out.below hb)
     replace HJ10 := Lib.hid (HJ10.out.bel hb)
     replace HV10 := Lib.hid (HV10.out.below hb)
     replace HB := Lib.hid (HB.out.trans (hb.mono HB.out.size))
     clear hb
     have hS23 : (fun wq => RowAt wq g7 (jcells r7) ∧ RowAt wq g10 (jcells r10) ∧ FB wq BF (.slice ps TX.length cs) TX) w23 := ⟨HV7.out, HV10.out, HF.out⟩
     refine hK.out _ _ hS23 (fun hHeld7 => ?_)
     clear hK K hHeld6
     refine held_tk 24 ?_ (fun wq hSq => ?_) hHeld7 ?_
     rotate_left
     ·(try dsimp only at hSq); go_simp; try with_reducible rfl
     simp only [Act.put, sbA, sbB, sbC]
     refine held_tk 25 ?_ (fun wq hSq => ?_) hHeld7 ?_
     rotate_left
     ·(try dsimp only at hSq); go_simp; try with_reducible rfl
     simp only [Act.put, sbA, sbB, sbC]
     refine wpAnyH_done (by kernel_rfl) ?_ _
     clear hHeld7
     go_wp2_with fail
     go_ret
     exact ⟨rfl, HB.out⟩
open Go.ChangeShapes Go.WideShapes Go.ChangeAt Go.RowKit
open Go.ChangeMaps (open_string shut_string)
theorem jback_laid : Rows.jSONBackUptoRow.laid = laidAll := by rfl
theorem jback_contract (H : Type) (enc : TypeId × Value → H) (W : World) (base : Nat) (args : Array Value) (ds gs : List (DataW H)) (before : List MemPlace)
  (hval : ∀ (j : Nat) t v, Tryz.f9.params[j]? = some t → args[j]? = some v → Value.okWide Tryz.prog W .any base t v)
  (hW : DataW.Whole enc Tryz.prog Tryz.f9.params.toList Rows.jSONBackSpec.vars false W args.toList ds gs before) (hL : laidMetH Tryz.prog laidAll W) (hsh : W.ShapedOpen Tryz.prog) (hk : Rows.uptoSmall H (ds ++ gs) = true) :
  Calls Tryz.prog 9 args W fun e W' => ∃ v, e = .returned v ∧ Rows.jSONBackSpec.post enc Tryz.prog Tryz.f9 false true false false W args v W' := by
 have hW' := hW
 obtain ⟨p, q, hA0, hV, rfl, hfz, hnd⟩ := hW
 have hA : DataW.TrodAll enc Tryz.prog W 0 (fun _ => true) true Tryz.f9.params.toList args.toList ds p := hA0
 rw [Tryz.params9] at hA hval
 obtain ⟨v0, vs0, d0, ds0, p0, q0, hargs, rfl, rfl, h0, r0⟩ := trodAll_cons hA
 obtain ⟨v1, vs1, d1, ds1, p1, q1, rfl, rfl, rfl, h1, r1⟩ := trodAll_cons r0
 obtain ⟨rfl, rfl, rfl⟩ := trodAll_nil r1
 obtain rfl : args = #[v0, v1] := by cases args; simp_all
 obtain ⟨rfl, rfl⟩ := trodVars_none hV
 have hlt0 : ∀ x ∈ p0, x.block < W.heap.size := fun x hx => by have h9 := hW'.lt x (by simp [hx]); simpa using h9
 obtain ⟨q0j, rfl, hx0, hn0⟩ := open_json (hval 0 30 v0 rfl rfl) h0
 have hk1 := of_decide_eq_true hk
 simp only [Rows.uptoBulkAll, List.append_nil] at hk1
 have hlt1 : ∀ x ∈ p1, x.block < W.heap.size := fun x hx => by have h9 := hW'.lt x (by simp [hx]); simpa using h9
 obtain ⟨l1, hx1⟩ := open_byts (hval 1 22 v1 rfl rfl) h1
 clear hA0
 refine (jback_calls W (env_of hL hsh) q0j v1 l1 hx0 (by omega) hx1).mono fun e W' ⟨he, hb⟩ => ?_
 subst he
 exact ⟨_, rfl, _, _, _, [], _, [], hW', trodAll_cons_mk (shut_bool Tryz.underlying4 _) trodAll_mk0, trodAll_cons_mk (Below.trod laid_out (by kernel_rfl) (of_decide_eq_true (by kernel_rfl)) h0 hb hlt0) (trodAll_cons_mk (Below.trod laid_out (by kernel_rfl) (of_decide_eq_true (by kernel_rfl)) h1 hb hlt1) (trodAll_mk0)), rfl, hb.frame _, fun h => by cases h⟩
def jbackArgs : Array Value := #[.agg #[.int .i64 0, .bool false, .bool false, .string ⟨#[]⟩, .int .i64 0, .string ⟨#[]⟩, .slice none 0 0, .slice none 0 0], .slice none 0 0]
theorem jback_reads (os : Os) {H : Type} (enc : TypeId × Value → H) : ∃ places, DataW.whole enc Tryz.prog ((laidWorld os).forCall (fun _ _ => 0) ⟨#[], jbackArgs, []⟩).memory Tryz.f9.params.toList Rows.jSONBackSpec.vars false jbackArgs.toList 8 = some ([.agg [.lit (.int .i64 0), .lit (.bool false), .agg [.lit (.bool false), .lit (.string []), .lit (.int .i64 0)], .lit (.string []), .nil, .nil], .nil], [], places) :=
 ⟨[], by kernel_rfl⟩
theorem jback_lifted (os : Os) (started : os.Started) (H : Type) (enc : TypeId × Value → H) (F : Stop.Interp) :
  ReturnsInHanded {} Tryz.checked os 9 .any ((Rows.OpenSpec.upto Rows.jSONBackSpec).preRow enc Tryz.prog Tryz.f9 Rows.jSONBackUptoRow.domain false Rows.jSONBackUptoRow.laid) (((Rows.OpenSpec.upto Rows.jSONBackSpec).at F).post enc Tryz.prog Tryz.f9 false true false false) := by
 obtain ⟨places, hx⟩ := jback_reads os enc
 refine returnsInHanded_of_row (C := Tryz.checked) (s := Rows.OpenSpec.upto Rows.jSONBackSpec) frmOwn started (by kernel_rfl) Tryz.func9
  (witness_zip (enc := enc) (C := Tryz.checked) false (laidWorld os) jbackArgs (laid_os os) (laid_shaped os _) (by kernel_rfl)
   (OpenSpec.preRow_of_cond 8 hx (by kernel_rfl) (fun k hk => by cases hk; kernel_rfl) (by kernel_rfl) (laid_met os _))) ?_
 intro W base args ds gs before hval hW _ hcond _ hL hsh _
 exact jback_contract H enc W base args ds gs before hval hW hL hsh (hcond _ rfl)
theorem jback_in : (Rows.jSONBackUptoRow.inPlace == Tryz.pinned.checked.prog.inPlace 9) = true := by kernel_rfl
theorem jback_un : (Rows.jSONBackUptoRow.unfollowed == Tryz.pinned.checked.prog.unfollowed 9) = true := by kernel_rfl
theorem jback_re : (Rows.jSONBackUptoRow.recurses == Tryz.pinned.checked.prog.recurses 9) = true := by kernel_rfl
theorem jback_na : (Rows.jSONBackUptoRow.named == Tryz.pinned.checked.prog.varsNamed 9) = true := by kernel_rfl
theorem jback_facts : joinedFacts Tryz.pinned.checked.prog 9 Tryz.f9 (Rows.OpenSpec.upto Rows.jSONBackSpec).bare Rows.jSONBackUptoRow = true := by
 unfold joinedFacts
 rw [jback_in, jback_un, jback_re, jback_na]
 kernel_rfl
theorem jback_said : Rows.JSONBackUptoSaid :=
 OpenClaim.holds_of_cond 9 Tryz.f9 rfl rfl rfl rfl rfl rfl rfl ⟨rfl, rfl, rfl, rfl, rfl⟩ rfl rfl rfl rfl rfl (by kernel_rfl) Tryz.func9 jback_facts
  (of_decide_eq_true (by as_aux_lemma => kernel_rfl)) (by unfold Func.isWrapper; first | (rw [if_pos (by decide +kernel)]; kernel_rfl) | (rw [if_neg (by decide +kernel)]; exact ⟨rfl, rfl⟩))
  (fun os started H enc _ F => by rw [OpenClaim.pre_eq_preRow]; exact jback_lifted os started H enc F)
theorem jback_plain (f : FuncId) (fn : Func) (hf : Tryz.pinned.checked.prog.funcNamed "lexicon/lexiconlaw08.JSONBack" = some f) (hfn : Tryz.pinned.checked.prog.funcs[f]? = some fn) :
  true = Tryz.pinned.checked.prog.looks [] ∧ ∀ (j : Nat) t, fn.params[j]? = some t → Tryz.pinned.checked.prog.wantsStandIn t = false := by
 obtain rfl : f = 9 := Option.some.inj ((show Tryz.prog.funcNamed "lexicon/lexiconlaw08.JSONBack" = some 9 by kernel_rfl).symm.trans hf) |>.symm
 obtain rfl : fn = Tryz.f9 := (Option.some.inj (Tryz.func9.symm.trans hfn)).symm
 refine ⟨by kernel_rfl, fun j t ht => ?_⟩
 rw [Tryz.params9] at ht
 have : t = 30 ∨ t = 22 := by simpa using Array.mem_of_getElem? ht
 rcases this with rfl | rfl
 ·exact (show Tryz.prog.wantsStandIn 30 = false by kernel_rfl)
 ·exact (show Tryz.prog.wantsStandIn 22 = false by kernel_rfl)
theorem jSONBack_proved : Rows.JSONBackUptoCardSaid :=
 Claim7.holds_tied_plain_at .later [] _ _ _ _ jback_said (fun _ h => by cases h) (by kernel_rfl) (fun _ h => by cases h) jSONBackUpto_row_tie rfl ⟨rfl, rfl⟩ (by kernel_rfl) rfl jback_plain (by kernel_rfl)
end Go.Proofs.YtfclfaidmipjpaaGreatDoor
