/- JSONValues returns true at any value whose bulk is 1048576 at most, and leaves it as it was, in every world whose listed variables hold what the program text lays (the tied card). -/
import Derived.Test.YtfclfaidmipjpaaGreatDoorVl07
import Derived.Test.YtfclfaidmipjpaaGreatDoorVl09
import Derived.Test.YtfclfaidmipjpaaGreatDoorVl12
import Derived.Test.YtfclfaidmipjpaaGreatDoorVl13
namespace Go.Proofs.YtfclfaidmipjpaaGreatDoor
set_option maxRecDepth 100000
set_option maxHeartbeats 20000000
open Go.Lib (hid)
open Go.RowKit
def intV (v : J) : Int × Bool := if v.kind = 2 ∧ checkJ v = 0 then intR v.n else (0, false)
theorem digits_sz {v : J} (h : szJ v ≤ 20000000) : v.n.digits.length ≤ 10000000000 := by
 obtain ⟨k, b, n, t, l, ns⟩ := v
 simp only [szJ] at h
 show n.digits.length ≤ _
 omega
theorem intJ_calls {w0 : World} {S1 : Nat → Prop} {r1 : JR} (h1 : JV w0 S1 r1) (hTab : Tab w0) (hT : Lib.Utf8Tabs 0 1 w0) (hR : RangeV w0) (w : World) (hb : Below w0.heap.size w0 w) (hsz : szJ r1.1 ≤ 20000000) :
  Calls Tryz.prog 40 #[jval r1] w fun e w' => e = .returned (.tuple #[.int .i64 (intV r1.1).1, .bool (intV r1.1).2]) ∧ Below w.heap.size w w' := by
 have HB := hid hb
 have HSZ := hid hsz
 have HRV := hid hR
 clear hb hsz hR
 go_enter Tryz.func40, Tryz.ntmps40
 go_upto_region 1 with (refine wpList_boxJ rfl _ rfl r1 rfl ?_; intro w1 hBx)
 have HV1 := hid hBx.row
 have HB1 := hid hBx.be
 have HW1 : Hid (Below w0.heap.size w0 w1) := hid (hBx.below HB.out HB.out.size)
 obtain ⟨g1, hg1⟩ : ∃ g, w.heap.size = g := ⟨_, rfl⟩
 rw [hg1] at HV1 ⊢
 clear hBx hg1
 by_cases h2 : r1.1.kind = 2
 ·have n0 : (r1.1.kind == 2) = true := by rw [beq_iff_eq]; exact h2
  have n1 : (r1.1.kind != 2) = false := by rw [bne_eq_false_iff_eq]; exact h2
  have k0 : w1.cell? ⟨g1, 0, none⟩ = some (.int .i64 r1.1.kind) := HV1.out.cell 0 _ rfl
  have k1 : w1.cell? ⟨g1, 1, none⟩ = some (.bool r1.1.b) := HV1.out.cell 1 _ rfl
  have k2 : w1.cell? ⟨g1, 2, none⟩ = some (.bool r1.1.n.neg) := HV1.out.cell 2 _ rfl
  have k3 : w1.cell? ⟨g1, 3, none⟩ = some (.string ⟨r1.1.n.digits.toArray⟩) := HV1.out.cell 3 _ rfl
  have k4 : w1.cell? ⟨g1, 4, none⟩ = some (.int .i64 r1.1.n.exp) := HV1.out.cell 4 _ rfl
  have k5 : w1.cell? ⟨g1, 5, none⟩ = some (.string ⟨r1.1.t.toArray⟩) := HV1.out.cell 5 _ rfl
  have k6 : w1.cell? ⟨g1, 6, none⟩ = some (r1.2.1) := HV1.out.cell 6 _ rfl
  have k7 : w1.cell? ⟨g1, 7, none⟩ = some (r1.2.2) := HV1.out.cell 7 _ rfl
  have H2 := hid h2
  clear h2
  go_wp2_with fail
  refine (checkJ_calls h1 hTab hT w1 HW1.out HSZ.out).mono ?_
  rintro e w2 ⟨rfl, hb2⟩
  have HV2 := hid (HV1.out.below hb2)
  have HB2 := hid (HB1.out.trans (hb2.mono HB1.out.size))
  have HW2 := hid (HW1.out.trans (hb2.mono HW1.out.size))
  clear hb2 HV1 HB1 HW1 k0 k1 k2 k3 k4 k5 k6 k7
  obtain ⟨c, hc⟩ : ∃ c, checkJ r1.1 = c := ⟨_, rfl⟩
  have HC := hid hc
  rw [hc]
  clear hc
  by_cases hc0 : c = 0
  ·subst hc0
   have k2 : w2.cell? ⟨g1, 2, none⟩ = some (.bool r1.1.n.neg) := HV2.out.cell 2 _ rfl
   have k3 : w2.cell? ⟨g1, 3, none⟩ = some (.string ⟨r1.1.n.digits.toArray⟩) := HV2.out.cell 3 _ rfl
   have k4 : w2.cell? ⟨g1, 4, none⟩ = some (.int .i64 r1.1.n.exp) := HV2.out.cell 4 _ rfl
   go_wp2_with fail
   refine (int_calls w2 r1.1.n (digits_sz HSZ.out) (HRV.out.below HW2.out)).mono ?_
   rintro e w3 ⟨rfl, hb3⟩
   have HB3 := hid (HB2.out.trans (hb3.mono HB2.out.size))
   clear hb3 HV2 k2 k3 k4
   go_wp2_with fail
   go_ret2
   exact ⟨by rw [intV, if_pos ⟨H2.out, HC.out⟩]; rfl, HB3.out⟩
  have m1 : ((c : Int) != 0) = true := by rw [bne_iff_ne]; exact hc0
  have m0 : ((c : Int) == 0) = false := by rw [beq_eq_false_iff_ne]; exact hc0
  go_wp2_with fail
  go_ret2
  exact ⟨by rw [intV, if_neg (fun h => hc0 (by rw [← HC.out]; exact h.2))]; rfl, HB2.out⟩
 ·have n0 : (r1.1.kind == 2) = false := by rw [beq_eq_false_iff_ne]; exact h2
  have n1 : (r1.1.kind != 2) = true := by rw [bne_iff_ne]; exact h2
  have k0 : w1.cell? ⟨g1, 0, none⟩ = some (.int .i64 r1.1.kind) := HV1.out.cell 0 _ rfl
  go_wp2_with fail
  go_ret2
  exact ⟨by rw [intV, if_neg (fun h => h2 h.1)]; rfl, HB1.out⟩
theorem wholeL_calls (r1 : JR) (w : World) (hk : checkJ r1.1 = 0) (hsz : szJ r1.1 ≤ 20000000) :
  Calls Tryz.prog 43 #[jval r1, .int .i64 (intV r1.1).1, .bool (intV r1.1).2] w fun e w' => e = .returned (.bool false) ∧ Below w.heap.size w w' := by
 have HSZ := hid hsz
 have HKK := hid hk
 clear hsz hk
 obtain ⟨⟨z, q⟩, hzq⟩ : ∃ p : Int × Bool, intV r1.1 = p := ⟨_, rfl⟩
 have HI := hid hzq
 rw [hzq]
 clear hzq
 go_enter Tryz.func43, Tryz.ntmps43
 go_upto_region 1 with (refine wpList_boxJ rfl _ rfl r1 rfl ?_; intro w1 hBx)
 have HV1 := hid hBx.row
 have HB1 := hid hBx.be
 obtain ⟨g1, hg1⟩ : ∃ g, w.heap.size = g := ⟨_, rfl⟩
 rw [hg1] at HV1 ⊢
 clear hBx hg1
 have k0 : w1.cell? ⟨g1, 0, none⟩ = some (.int .i64 r1.1.kind) := HV1.out.cell 0 _ rfl
 by_cases h2 : r1.1.kind = 2
 ·have n0 : (r1.1.kind == 2) = true := by rw [beq_iff_eq]; exact h2
  have n1 : (r1.1.kind != 2) = false := by rw [bne_eq_false_iff_eq]; exact h2
  have HN : Hid (intR r1.1.n = (z, q)) := hid (by have h9 := HI.out; rw [intV, if_pos ⟨h2, HKK.out⟩] at h9; exact h9)
  clear h2
  have k2 : w1.cell? ⟨g1, 2, none⟩ = some (.bool r1.1.n.neg) := HV1.out.cell 2 _ rfl
  have k3 : w1.cell? ⟨g1, 3, none⟩ = some (.string ⟨r1.1.n.digits.toArray⟩) := HV1.out.cell 3 _ rfl
  have k4 : w1.cell? ⟨g1, 4, none⟩ = some (.int .i64 r1.1.n.exp) := HV1.out.cell 4 _ rfl
  go_wp2_with fail
  refine (intR_calls w1 r1.1.n (digits_sz HSZ.out)).mono ?_
  rintro e w3 ⟨rfl, hb3⟩
  rw [HN.out]
  have HB3 := hid (HB1.out.trans (hb3.mono HB1.out.size))
  clear hb3 HV1 k0 k2 k3 k4
  have m0 : (z != z) = false := by simp
  have m1 : (q != q) = false := by simp
  go_wp2_with fail
  go_ret
  exact ⟨by simp, HB3.out⟩
 ·have n0 : (r1.1.kind == 2) = false := by rw [beq_eq_false_iff_ne]; exact h2
  have n1 : (r1.1.kind != 2) = true := by rw [bne_iff_ne]; exact h2
  have hz : (z, q) = (0, false) := by rw [← HI.out, intV, if_neg (fun h => h2 h.1)]
  cases hz
  go_wp2_with fail
  go_ret
  exact ⟨by simp, HB1.out⟩
open Go.RowKit
structure VlF (w wr : World) (g : Nat) (r : JR) : Prop where
 env : EnvJ wr
 rng : RangeV wr
 j : JV wr (fun _ => True) r
 v : RowAt wr g (jcells r)
 be : Below w.heap.size w wr
theorem VlF.step {w wr w' : World} {g : Nat} {r : JR} (h : VlF w wr g r) (hb : Below wr.heap.size wr w') : VlF w w' g r :=
 ⟨h.env.below hb (Nat.le_refl _), h.rng.below hb, h.j.bel hb, h.v.below hb, h.be.trans (hb.mono h.be.size)⟩
theorem no_check {v : J} (h : ¬ checkJ v = 0) : printJ v = [] ∧ sortedV v = J.zero ∧ depthV v = 0 ∧ intV v = (0, false) :=
 ⟨by rw [printJ, if_neg h], by rw [sortedV, if_neg h], by rw [depthV, if_neg h], by rw [intV, if_neg (fun e => h e.2)]⟩
theorem jvalues_calls (w : World) (he : EnvJ w) (hrg : RangeV w) (r0 : JR) (hj0 : JV w (fun _ => True) r0) (hsz0 : szJ r0.1 ≤ 20000000) : Calls Tryz.prog 11 #[jval r0] w fun e w' => e = .returned (.bool true) ∧ Below w.heap.size w w' := by
 have HE := hid he
 have HRG := hid hrg
 have HJ0 := hid hj0
 have HZ0 := hid hsz0
 clear he hj0 hsz0 hrg
 go_enter Tryz.func11, Tryz.ntmps11
 go_upto_region 1 with (refine wpList_boxJ rfl _ rfl r0 rfl ?_; intro wb hBx)
 have hF : VlF w wb w.heap.size r0 := ⟨HE.out.below hBx.be (Nat.le_refl _), HRG.out.below hBx.be, HJ0.out.bel hBx.be, hBx.row, hBx.be⟩
 obtain ⟨g0, hg0⟩ : ∃ g, w.heap.size = g := ⟨_, rfl⟩
 have HF : Hid (VlF w wb g0 r0) := hid (by rw [← hg0]; exact hF)
 rw [hg0]
 clear hF hBx hg0 HE HRG HJ0
 go_wp2_with (first | refine wpList_loadJ rfl _ rfl r0 HF.out.v rfl ?_ | (refine wpList_buildJ rfl _ rfl r0 rfl ?_; intro wq hBx))
 have hrs := RowsJ.one hBx
 have hb := hBx.be
 clear hBx
 replace HF := hid (HF.out.step hb)
 clear hb
 refine (small_calls wq _ [r0] hrs (fun r hr => by rw [List.mem_singleton.1 hr]; exact ⟨_, HF.out.j⟩) (fun r hr => by rw [List.mem_singleton.1 hr]; exact HZ0.out) (by simp)).mono ?_
 rintro e w1 ⟨bs, rfl, hb⟩
 clear hrs
 replace HF := hid (HF.out.step hb)
 clear hb
 cases bs with
 | false =>
  go_wp2_with fail
  refine (works_calls w1 HF.out.env).mono ?_
  rintro e w2 ⟨rfl, hb⟩
  replace HF := hid (HF.out.step hb)
  clear hb
  go_wp2_with fail
  go_ret
  exact ⟨rfl, HF.out.be⟩
 | true =>
  go_wp2_with (refine wpList_loadJ rfl _ rfl r0 HF.out.v rfl ?_)
  refine (copiedL_calls HF.out.j w1 (Below.refl _ _) HZ0.out).mono ?_
  rintro e w3 ⟨lm, nm, rfl, hk, hb⟩
  obtain ⟨rm, hrm⟩ : ∃ r : JR, (r0.1, lm, nm) = r := ⟨_, rfl⟩
  have HRM : Hid (rm.1 = r0.1) := hid (by rw [← hrm])
  rw [hrm] at hk ⊢
  have HKM := hid hk
  have HZM : Hid (szJ rm.1 ≤ 20000000) := hid (by rw [HRM.out]; exact HZ0.out)
  clear hrm hk
  replace HF := hid (HF.out.step hb)
  clear hb
  go_upto_region 4 with (first | (refine wpList_allocJ rfl rfl ?_; intro wa hBx) | (refine wpList_storeJ rfl _ _ rfl rfl hBx.row rfl rm HKM.out.jv.slJ rfl rfl ?_; intro w4 hSx))
  have hb : Below w3.heap.size w3 w4 := hSx.below hBx.be (Nat.le_refl _) hBx.be.size
  have hrow := hSx.row
  obtain ⟨gm, hg⟩ : ∃ g, w3.heap.size = g := ⟨_, rfl⟩
  rw [hg] at hrow ⊢
  have HVM := hid hrow
  clear hSx hBx hg hrow
  replace HF := hid (HF.out.step hb)
  replace HKM := hid (HKM.out.bel hb)
  clear hb
  obtain ⟨c, hc⟩ : ∃ c, checkJ r0.1 = c := ⟨_, rfl⟩
  have HC := hid hc
  clear hc
  go_wp2_with (refine wpList_loadJ rfl _ rfl rm HVM.out rfl ?_)
  refine (checkJ_calls (r1 := rm) HKM.out.jv HF.out.env.tab HF.out.env.utf w4 (Below.refl _ _) HZM.out).mono ?_
  rintro e w5 ⟨rfl, hb⟩
  rw [HRM.out, HC.out]
  replace HF := hid (HF.out.step hb)
  replace HKM := hid (HKM.out.bel hb)
  replace HVM := hid (HVM.out.below hb)
  clear hb
  go_wp2_with fail
  refine (num_calls _ w5).mono ?_
  rintro e wq9 ⟨rfl, rfl⟩
  go_wp2_with (refine wpList_loadJ rfl _ rfl rm HVM.out rfl ?_)
  refine (printJ_calls (r1 := rm) HKM.out.jv HF.out.env.tab HF.out.env.utf w5 (Below.refl _ _) HZM.out).mono ?_
  rintro e w6 ⟨pb, rfl, hF, hb⟩
  rw [HRM.out] at hF
  obtain ⟨TB, hTB⟩ : ∃ T, printJ r0.1 = T := ⟨_, rfl⟩
  rw [hTB] at hF
  have HTB := hid hTB
  obtain ⟨ps, cs, rfl⟩ := hF.slice
  obtain ⟨nb, hnb⟩ : ∃ n, TB.length = n := ⟨_, rfl⟩
  have hF2 : FB w6 w5.heap.size (.slice ps nb cs) TB := by rw [← hnb]; exact hF
  obtain ⟨BF, hBF⟩ : ∃ B, FB w6 B (.slice ps nb cs) TB := ⟨_, hF2⟩
  have HFB := hid hBF
  rw [hnb]
  have HNB := hid hnb
  clear hF hTB hF2 hBF hnb
  replace HF := hid (HF.out.step hb)
  replace HKM := hid (HKM.out.bel hb)
  replace HVM := hid (HVM.out.below hb)
  clear hb
  go_wp2_with (refine wpList_loadJ rfl _ rfl rm HVM.out rfl ?_)
  refine (sortedJ_calls (r1 := rm) HKM.out.jv HF.out.env.tab HF.out.env.utf w6 (Below.refl _ _) HZM.out).mono ?_
  rintro e w7 ⟨ls, nvs, rfl, hj, hb⟩
  rw [HRM.out] at hj ⊢
  obtain ⟨rs, hrs⟩ : ∃ r : JR, (sortedV r0.1, ls, nvs) = r := ⟨_, rfl⟩
  have HRS : Hid (rs.1 = sortedV r0.1) := hid (by rw [← hrs])
  rw [hrs] at hj ⊢
  have HJS := hid hj
  have HF0 := HF
  have HKM0 := HKM
  have HVM0 := HVM
  have HBS : Hid (Below w6.heap.size w6 w7) := hid hb
  clear hj hrs
  replace HF := hid (HF.out.step hb)
  replace HKM := hid (HKM.out.bel hb)
  replace HVM := hid (HVM.out.below hb)
  replace HFB := hid (HFB.out.below hb)
  clear hb
  go_upto_region 7 with (first | (refine wpList_allocJ rfl rfl ?_; intro wa hBx) | (refine wpList_storeJ rfl _ _ rfl rfl hBx.row rfl rs HJS.out.slJ rfl rfl ?_; intro w8 hSx))
  have hb : Below w7.heap.size w7 w8 := hSx.below hBx.be (Nat.le_refl _) hBx.be.size
  have hrow := hSx.row
  obtain ⟨gs, hg⟩ : ∃ g, w7.heap.size = g := ⟨_, rfl⟩
  rw [hg] at hrow ⊢
  have HVS := hid hrow
  clear hSx hBx hg hrow
  replace HF := hid (HF.out.step hb)
  replace HKM := hid (HKM.out.bel hb)
  replace HVM := hid (HVM.out.below hb)
  replace HFB := hid (HFB.out.below hb)
  replace HJS := hid (HJS.out.bel hb)
  replace HBS := hid (HBS.out.trans (hb.mono HBS.out.size))
  clear hb
  go_wp2_with (refine wpList_loadJ rfl _ rfl rm HVM.out rfl ?_)
  refine (depthJ_calls (r1 := rm) HKM.out.jv HF.out.env.tab HF.out.env.utf w8 (Below.refl _ _) HZM.out).mono ?_
  rintro e w9 ⟨rfl, hb⟩
  rw [HRM.out]
  obtain ⟨dv, hdv⟩ : ∃ d, depthV r0.1 = d := ⟨_, rfl⟩
  rw [hdv]
  have HDV := hid hdv
  clear hdv
  replace HF := hid (HF.out.step hb)
  replace HKM := hid (HKM.out.bel hb)
  replace HVM := hid (HVM.out.below hb)
  replace HFB := hid (HFB.out.below hb)
  replace HJS := hid (HJS.out.bel hb)
  replace HBS := hid (HBS.out.trans (hb.mono HBS.out.size))
  replace HVS := hid (HVS.out.below hb)
  clear hb
  go_wp2_with (refine wpList_loadJ rfl _ rfl rm HVM.out rfl ?_)
  refine (intJ_calls (r1 := rm) HKM.out.jv HF.out.env.tab HF.out.env.utf HF.out.rng w9 (Below.refl _ _) HZM.out).mono ?_
  rintro e w10 ⟨rfl, hb⟩
  rw [HRM.out]
  obtain ⟨⟨z, q⟩, hzq⟩ : ∃ p : Int × Bool, intV r0.1 = p := ⟨_, rfl⟩
  rw [hzq]
  have HI := hid hzq
  clear hzq
  replace HF := hid (HF.out.step hb)
  replace HKM := hid (HKM.out.bel hb)
  replace HVM := hid (HVM.out.below hb)
  replace HFB := hid (HFB.out.below hb)
  replace HJS := hid (HJS.out.bel hb)
  replace HBS := hid (HBS.out.trans (hb.mono HBS.out.size))
  replace HVS := hid (HVS.out.below hb)
  clear hb
  go_wp2_with (first | refine wpList_loadJ rfl _ rfl rm HVM.out rfl ?_ | refine wpList_loadJ rfl _ rfl r0 HF.out.v rfl ?_)
  refine (kept_calls HKM.out _ r0 w10 (Below.refl _ _) HF.out.j HRM.out HZM.out).mono ?_
  rintro e w11 ⟨rfl, hb⟩
  replace HF := hid (HF.out.step hb)
  replace HKM := hid (HKM.out.bel hb)
  replace HVM := hid (HVM.out.below hb)
  replace HFB := hid (HFB.out.below hb)
  replace HJS := hid (HJS.out.bel hb)
  replace HBS := hid (HBS.out.trans (hb.mono HBS.out.size))
  replace HVS := hid (HVS.out.below hb)
  clear hb
  have k0 : w11.cell? ⟨g0, 0, none⟩ = some (.int .i64 r0.1.kind) := HF.out.v.cell 0 _ rfl
  have k1 : w11.cell? ⟨g0, 1, none⟩ = some (.bool r0.1.b) := HF.out.v.cell 1 _ rfl
  have k2 : w11.cell? ⟨g0, 2, none⟩ = some (.bool r0.1.n.neg) := HF.out.v.cell 2 _ rfl
  have k3 : w11.cell? ⟨g0, 3, none⟩ = some (.string ⟨r0.1.n.digits.toArray⟩) := HF.out.v.cell 3 _ rfl
  have k4 : w11.cell? ⟨g0, 4, none⟩ = some (.int .i64 r0.1.n.exp) := HF.out.v.cell 4 _ rfl
  have k5 : w11.cell? ⟨g0, 5, none⟩ = some (.string ⟨r0.1.t.toArray⟩) := HF.out.v.cell 5 _ rfl
  have k6 : w11.cell? ⟨g0, 6, none⟩ = some (r0.2.1) := HF.out.v.cell 6 _ rfl
  have k7 : w11.cell? ⟨g0, 7, none⟩ = some (r0.2.2) := HF.out.v.cell 7 _ rfl
  go_wp2_with fail
  refine (checkR_calls (r1 := r0) HF.out.j HF.out.env.tab w11 (Below.refl _ _) HZ0.out).mono ?_
  rintro e w12 ⟨rfl, hb⟩
  rw [HC.out]
  replace HF := hid (HF.out.step hb)
  replace HKM := hid (HKM.out.bel hb)
  replace HVM := hid (HVM.out.below hb)
  replace HFB := hid (HFB.out.below hb)
  replace HJS := hid (HJS.out.bel hb)
  replace HBS := hid (HBS.out.trans (hb.mono HBS.out.size))
  replace HVS := hid (HVS.out.below hb)
  clear hb
  clear k0 k1 k2 k3 k4 k5 k6 k7
  have hcc : (c != c) = false := by simp
  by_cases hc : c = 0
  rotate_left
  ·
   have n0 : ((c : Int) == 0) = false := by rw [beq_eq_false_iff_ne]; exact hc
   have n1 : ((c : Int) != 0) = true := by rw [bne_iff_ne]; exact hc
   obtain ⟨e1, e2, e3, e4⟩ := no_check (by rw [HC.out]; exact hc : ¬ checkJ r0.1 = 0)
   have HRZ : Hid (rs.1 = J.zero) := hid (by rw [HRS.out, e2])
   obtain rfl : nb = 0 := by rw [← HNB.out, ← HTB.out, e1]; rfl
   obtain rfl : dv = 0 := by rw [← HDV.out, e3]
   have e5 := HI.out
   rw [e4] at e5
   cases e5
   clear e1 e2 e3 e4 hc
   have k0 : w12.cell? ⟨gs, 0, none⟩ = some (.int .i64 rs.1.kind) := HVS.out.cell 0 _ rfl
   have k1 : w12.cell? ⟨gs, 1, none⟩ = some (.bool rs.1.b) := HVS.out.cell 1 _ rfl
   have k2 : w12.cell? ⟨gs, 2, none⟩ = some (.bool rs.1.n.neg) := HVS.out.cell 2 _ rfl
   have k3 : w12.cell? ⟨gs, 3, none⟩ = some (.string ⟨rs.1.n.digits.toArray⟩) := HVS.out.cell 3 _ rfl
   have k4 : w12.cell? ⟨gs, 4, none⟩ = some (.int .i64 rs.1.n.exp) := HVS.out.cell 4 _ rfl
   have k5 : w12.cell? ⟨gs, 5, none⟩ = some (.string ⟨rs.1.t.toArray⟩) := HVS.out.cell 5 _ rfl
   have k6 : w12.cell? ⟨gs, 6, none⟩ = some (rs.2.1) := HVS.out.cell 6 _ rfl
   have k7 : w12.cell? ⟨gs, 7, none⟩ = some (rs.2.2) := HVS.out.cell 7 _ rfl
   go_wp2_with fail
   refine (sameR_calls HJS.out (fun _ => True) jzero w12 (Below.refl _ _) (JV.zero _ _)).mono ?_
   rintro e w13 ⟨bb, rfl, hbb, hb⟩
   obtain rfl : bb = true := hbb.2 HRZ.out
   clear hbb
   replace HF := hid (HF.out.step hb)
   replace HKM := hid (HKM.out.bel hb)
   replace HVM := hid (HVM.out.below hb)
   replace HFB := hid (HFB.out.below hb)
   replace HJS := hid (HJS.out.bel hb)
   replace HBS := hid (HBS.out.trans (hb.mono HBS.out.size))
   replace HVS := hid (HVS.out.below hb)
   clear hb
   clear k0 k1 k2 k3 k4 k5 k6 k7
   go_wp2_with fail
   refine (works_calls w13 HF.out.env).mono ?_
   rintro e w14 ⟨rfl, hb⟩
   replace HF := hid (HF.out.step hb)
   replace HKM := hid (HKM.out.bel hb)
   replace HVM := hid (HVM.out.below hb)
   replace HFB := hid (HFB.out.below hb)
   replace HJS := hid (HJS.out.bel hb)
   replace HBS := hid (HBS.out.trans (hb.mono HBS.out.size))
   replace HVS := hid (HVS.out.below hb)
   clear hb
   go_wp2_with fail
   go_ret
   exact ⟨rfl, HF.out.be⟩
  subst hc
  have HG : Hid (goodJ r0.1 = true) := hid (checkJ_zero.1 HC.out).1
  have HTT : Hid (toldJ r0.1 = TB) := hid (by rw [← HTB.out, print_eq HC.out])
  have HRT : Hid (rs.1 = sortJ r0.1) := hid (by rw [HRS.out, sorted_eq HC.out])
  have HDD : Hid (((depR r0.1 : Nat) : Int) = dv) := hid (by rw [← HDV.out, depthV, if_pos HC.out, depR_good _ HG.out])
  have hbe : ((⟨TB.toArray⟩ : ByteArray) == ⟨TB.toArray⟩) = true := by rw [bytes_beq]; exact decide_eq_true rfl
  go_upto_region 13 with fail
  have hS0 : (fun wq => RowAt wq g0 (jcells r0) ∧ RowAt wq gs (jcells rs) ∧ FB wq BF (.slice ps nb cs) TB) w12.drew := ⟨HF.out.v.below (Below.refl _ _).drew, HVS.out.below (Below.refl _ _).drew, HFB.out.below (Below.refl _ _).drew⟩
  have hb : Below w12.heap.size w12 w12.drew := (Below.refl _ _).drew
  refine wp_region_held_drew (S := (fun wq => RowAt wq g0 (jcells r0) ∧ RowAt wq gs (jcells rs) ∧ FB wq BF (.slice ps nb cs) TB)) (by kernel_rfl) hS0 (fun hHeld0 => ?_)
  generalize w12.drew = wd at *
  replace HF := hid (HF.out.step hb)
  replace HKM := hid (HKM.out.bel hb)
  replace HVM := hid (HVM.out.below hb)
  replace HFB := hid (HFB.out.below hb)
  replace HJS := hid (HJS.out.bel hb)
  replace HBS := hid (HBS.out.trans (hb.mono HBS.out.size))
  replace HVS := hid (HVS.out.below hb)
  clear hb
  refine held_ta 0 hHeld0 ?_
  refine held_tv 1 (.string ⟨TB.toArray⟩) rfl (fun wq hSq => exec_conv _ rfl hSq.2.2 rfl) hHeld0 ?_
  refine held_tv 2 (jval r0) rfl (fun wq hSq => exec_loadJ _ rfl rfl r0 hSq.1) hHeld0 ?_
  refine held_st 3 rfl (fun K hK => ?_)
  go_simp
  refine (textJ_calls HF.out.j HF.out.env.tab wd (Below.refl _ _) HG.out HZ0.out).mono ?_
  rintro e w15 ⟨rfl, hb⟩
  rw [HTT.out]
  replace HF := hid (HF.out.step hb)
  replace HKM := hid (HKM.out.bel hb)
  replace HVM := hid (HVM.out.below hb)
  replace HFB := hid (HFB.out.below hb)
  replace HJS := hid (HJS.out.bel hb)
  replace HBS := hid (HBS.out.trans (hb.mono HBS.out.size))
  replace HVS := hid (HVS.out.below hb)
  clear hb
  refine hK.out _ _ ⟨HF.out.v, HVS.out, HFB.out⟩ (fun hHeld1 => ?_)
  clear hK K hHeld0
  refine held_ta 4 hHeld1 ?_
  refine held_ta 5 hHeld1 ?_
  refine held_tv 6 (jval rs) rfl (fun wq hSq => exec_loadJ _ rfl rfl rs hSq.2.1) hHeld1 ?_
  refine held_tv 7 (jval r0) rfl (fun wq hSq => exec_loadJ _ rfl rfl r0 hSq.1) hHeld1 ?_
  refine held_st 8 rfl (fun K hK => ?_)
  go_simp
  refine (sortedR_calls (r1 := r0) HF.out.j w15 (Below.refl _ _) HG.out HZ0.out).mono ?_
  rintro e w16 ⟨lq, nq, rfl, hj, hb⟩
  have HJQ := hid hj
  clear hj
  replace HF := hid (HF.out.step hb)
  replace HKM := hid (HKM.out.bel hb)
  replace HVM := hid (HVM.out.below hb)
  replace HFB := hid (HFB.out.below hb)
  replace HJS := hid (HJS.out.bel hb)
  replace HBS := hid (HBS.out.trans (hb.mono HBS.out.size))
  replace HVS := hid (HVS.out.below hb)
  clear hb
  refine hK.out _ _ ⟨HF.out.v, HVS.out, HFB.out⟩ (fun hHeld2 => ?_)
  clear hK K hHeld1
  refine held_st 9 rfl (fun K hK => ?_)
  go_simp
  refine (sameR_calls HJS.out _ (sortJ r0.1, lq, nq) w16 (Below.refl _ _) HJQ.out).mono ?_
  rintro e w17 ⟨bb, rfl, hbb, hb⟩
  obtain rfl : bb = true := hbb.2 HRT.out
  clear hbb
  replace HF := hid (HF.out.step hb)
  replace HKM := hid (HKM.out.bel hb)
  replace HVM := hid (HVM.out.below hb)
  replace HFB := hid (HFB.out.below hb)
  replace HJS := hid (HJS.out.bel hb)
  replace HBS := hid (HBS.out.trans (hb.mono HBS.out.size))
  replace HVS := hid (HVS.out.below hb)
  replace HJQ := hid (HJQ.out.bel hb)
  clear hb
  refine hK.out _ _ ⟨HF.out.v, HVS.out, HFB.out⟩ (fun hHeld3 => ?_)
  clear hK K hHeld2
  refine held_ta 10 hHeld3 ?_
  refine held_ta 11 hHeld3 ?_
  refine held_ta 12 hHeld3 ?_
  refine held_ta 13 hHeld3 ?_
  refine held_tv 14 (jval r0) rfl (fun wq hSq => exec_loadJ _ rfl rfl r0 hSq.1) hHeld3 ?_
  refine held_st 15 rfl (fun K hK => ?_)
  go_simp
  refine (depthR_calls HF.out.j w17 (Below.refl _ _) HZ0.out).mono ?_
  rintro e w18 ⟨rfl, hb⟩
  rw [HDD.out]
  replace HF := hid (HF.out.step hb)
  replace HKM := hid (HKM.out.bel hb)
  replace HVM := hid (HVM.out.below hb)
  replace HFB := hid (HFB.out.below hb)
  replace HJS := hid (HJS.out.bel hb)
  replace HBS := hid (HBS.out.trans (hb.mono HBS.out.size))
  replace HVS := hid (HVS.out.below hb)
  replace HJQ := hid (HJQ.out.bel hb)
  clear hb
  refine hK.out _ _ ⟨HF.out.v, HVS.out, HFB.out⟩ (fun hHeld4 => ?_)
  clear hK K hHeld3
  refine held_ta 16 hHeld4 ?_
  refine held_ta 17 hHeld4 ?_
  refine held_ta 18 hHeld4 ?_
  refine held_tv 19 (jval r0) rfl (fun wq hSq => exec_loadJ _ rfl rfl r0 hSq.1) hHeld4 ?_
  refine held_ta 20 hHeld4 ?_
  refine held_ta 21 hHeld4 ?_
  refine held_st 22 rfl (fun K hK => ?_)
  go_simp
  have hw := wholeL_calls r0 w18 HC.out HZ0.out
  rw [HI.out] at hw
  refine hw.mono ?_
  rintro e w19 ⟨rfl, hb⟩
  clear hw
  replace HF := hid (HF.out.step hb)
  replace HKM := hid (HKM.out.bel hb)
  replace HVM := hid (HVM.out.below hb)
  replace HFB := hid (HFB.out.below hb)
  replace HJS := hid (HJS.out.bel hb)
  replace HBS := hid (HBS.out.trans (hb.mono HBS.out.size))
  replace HVS := hid (HVS.out.below hb)
  replace HJQ := hid (HJQ.out.bel hb)
  clear hb
  refine hK.out _ _ ⟨HF.out.v, HVS.out, HFB.out⟩ (fun hHeld5 => ?_)
  clear hK K hHeld4
  refine held_ta 23 hHeld5 ?_
  refine wpAnyH_done (by kernel_rfl) ?_ _
  clear hHeld5
  go_wp2_with (refine wpList_loadJ rfl _ rfl rs HVS.out rfl ?_)
  have h4 := HF0.out.env.errs.lt
  have hzs : szJ rs.1 ≤ 20000000 := by rw [HRT.out]; exact chk_sz (sort_check HC.out)
  refine (spoil_calls _ rs w19 (fun k => w6.heap.size ≤ k ∧ k < w19.heap.size) (fun k h => h.2) (JV.spo (HJS.out.mono (fun k hk hs => ⟨hs, hk⟩)) (fun h => by have := h.1; omega) _ (Nat.le_refl _) hzs)).mono ?_
  rintro e w20 ⟨rfl, hz⟩
  have hb : Below w6.heap.size w6 w20 := HBS.out.trans (hz.apart.below HBS.out.size (fun i hi h => by have := h.1; omega))
  have HF := hid (HF0.out.step hb)
  have HKM := hid (HKM0.out.bel hb)
  have HVM := hid (HVM0.out.below hb)
  clear hz h4 hzs hb
  go_wp2_with (first | refine wpList_loadJ rfl _ rfl rm HVM.out rfl ?_ | refine wpList_loadJ rfl _ rfl r0 HF.out.v rfl ?_)
  refine (kept_calls HKM.out _ r0 w20 (Below.refl _ _) HF.out.j HRM.out HZM.out).mono ?_
  rintro e w21 ⟨rfl, hb⟩
  replace HF := hid (HF.out.step hb)
  replace HKM := hid (HKM.out.bel hb)
  replace HVM := hid (HVM.out.below hb)
  clear hb
  go_wp2_with fail
  refine (works_calls w21 HF.out.env).mono ?_
  rintro e w22 ⟨rfl, hb⟩
  replace HF := hid (HF.out.step hb)
  replace HKM := hid (HKM.out.bel hb)
  replace HVM := hid (HVM.out.below hb)
  clear hb
  go_wp2_with fail
  go_ret
  exact ⟨rfl, HF.out.be⟩
open Go.ChangeShapes Go.WideShapes Go.ChangeAt Go.RowKit
open Go.ChangeMaps (open_string shut_string)
theorem rng_of {W : World} (h : laidMet Tryz.prog laidAll W) (hs : W.ShapedOpen Tryz.prog) : RangeV W := by
 have hz := size_of hs
 have hg : 5 ≤ Tryz.prog.globals.size := by decide +kernel
 obtain ⟨t1, q1, h1⟩ := range_of h
 exact ⟨by omega, t1, q1, h1⟩
theorem jvalues_laid : Rows.jSONValuesUptoRow.laid = laidAll := by rfl
theorem jvalues_contract (H : Type) (enc : TypeId × Value → H) (W : World) (base : Nat) (args : Array Value) (ds gs : List (DataW H)) (before : List MemPlace)
  (hval : ∀ (j : Nat) t v, Tryz.f11.params[j]? = some t → args[j]? = some v → Value.okWide Tryz.prog W .any base t v)
  (hW : DataW.Whole enc Tryz.prog Tryz.f11.params.toList Rows.jSONValuesSpec.vars false W args.toList ds gs before) (hL : laidMetH Tryz.prog laidAll W) (hsh : W.ShapedOpen Tryz.prog) (hk : Rows.uptoSmall H (ds ++ gs) = true) :
  Calls Tryz.prog 11 args W fun e W' => ∃ v, e = .returned v ∧ Rows.jSONValuesSpec.post enc Tryz.prog Tryz.f11 false true false false W args v W' := by
 have hW' := hW
 obtain ⟨p, q, hA0, hV, rfl, hfz, hnd⟩ := hW
 have hA : DataW.TrodAll enc Tryz.prog W 0 (fun _ => true) true Tryz.f11.params.toList args.toList ds p := hA0
 rw [Tryz.params11] at hA hval
 obtain ⟨v0, vs0, d0, ds0, p0, q0, hargs, rfl, rfl, h0, r0⟩ := trodAll_cons hA
 obtain ⟨rfl, rfl, rfl⟩ := trodAll_nil r0
 obtain rfl : args = #[v0] := by cases args; simp_all
 obtain ⟨rfl, rfl⟩ := trodVars_none hV
 have hlt0 : ∀ x ∈ p0, x.block < W.heap.size := fun x hx => by have h9 := hW'.lt x (by simp [hx]); simpa using h9
 obtain ⟨q0j, rfl, hx0, hn0⟩ := open_json (hval 0 30 v0 rfl rfl) h0
 have hk1 := of_decide_eq_true hk
 simp only [Rows.uptoBulkAll, List.append_nil] at hk1
 clear hA0
 refine (jvalues_calls W (env_of hL hsh) (rng_of hL hsh) q0j hx0 (by omega)).mono fun e W' ⟨he, hb⟩ => ?_
 subst he
 exact ⟨_, rfl, _, _, _, [], _, [], hW', trodAll_cons_mk (shut_bool Tryz.underlying4 _) trodAll_mk0, trodAll_cons_mk (Below.trod laid_out (by kernel_rfl) (of_decide_eq_true (by kernel_rfl)) h0 hb hlt0) (trodAll_mk0), rfl, hb.frame _, fun h => by cases h⟩
def jvaluesArgs : Array Value := #[.agg #[.int .i64 0, .bool false, .bool false, .string ⟨#[]⟩, .int .i64 0, .string ⟨#[]⟩, .slice none 0 0, .slice none 0 0]]
theorem jvalues_reads (os : Os) {H : Type} (enc : TypeId × Value → H) : ∃ places, DataW.whole enc Tryz.prog ((laidWorld os).forCall (fun _ _ => 0) ⟨#[], jvaluesArgs, []⟩).memory Tryz.f11.params.toList Rows.jSONValuesSpec.vars false jvaluesArgs.toList 8 = some ([.agg [.lit (.int .i64 0), .lit (.bool false), .agg [.lit (.bool false), .lit (.string []), .lit (.int .i64 0)], .lit (.string []), .nil, .nil]], [], places) :=
 ⟨[], by kernel_rfl⟩
theorem jvalues_lifted (os : Os) (started : os.Started) (H : Type) (enc : TypeId × Value → H) (F : Stop.Interp) :
  ReturnsInHanded {} Tryz.checked os 11 .any ((Rows.OpenSpec.upto Rows.jSONValuesSpec).preRow enc Tryz.prog Tryz.f11 Rows.jSONValuesUptoRow.domain false Rows.jSONValuesUptoRow.laid) (((Rows.OpenSpec.upto Rows.jSONValuesSpec).at F).post enc Tryz.prog Tryz.f11 false true false false) := by
 obtain ⟨places, hx⟩ := jvalues_reads os enc
 refine returnsInHanded_of_row (C := Tryz.checked) (s := Rows.OpenSpec.upto Rows.jSONValuesSpec) frmOwn started (by kernel_rfl) Tryz.func11
  (witness_zip (enc := enc) (C := Tryz.checked) false (laidWorld os) jvaluesArgs (laid_os os) (laid_shaped os _) (by kernel_rfl)
   (OpenSpec.preRow_of_cond 8 hx (by kernel_rfl) (fun k hk => by cases hk; kernel_rfl) (by kernel_rfl) (laid_met os _))) ?_
 intro W base args ds gs before hval hW _ hcond _ hL hsh _
 exact jvalues_contract H enc W base args ds gs before hval hW hL hsh (hcond _ rfl)
theorem jvalues_in : (Rows.jSONValuesUptoRow.inPlace == Tryz.pinned.checked.prog.inPlace 11) = true := by kernel_rfl
theorem jvalues_un : (Rows.jSONValuesUptoRow.unfollowed == Tryz.pinned.checked.prog.unfollowed 11) = true := by kernel_rfl
theorem jvalues_re : (Rows.jSONValuesUptoRow.recurses == Tryz.pinned.checked.prog.recurses 11) = true := by kernel_rfl
theorem jvalues_na : (Rows.jSONValuesUptoRow.named == Tryz.pinned.checked.prog.varsNamed 11) = true := by kernel_rfl
theorem jvalues_facts : joinedFacts Tryz.pinned.checked.prog 11 Tryz.f11 (Rows.OpenSpec.upto Rows.jSONValuesSpec).bare Rows.jSONValuesUptoRow = true := by
 unfold joinedFacts
 rw [jvalues_in, jvalues_un, jvalues_re, jvalues_na]
 kernel_rfl
theorem jvalues_said : Rows.JSONValuesUptoSaid :=
 OpenClaim.holds_of_cond 11 Tryz.f11 rfl rfl rfl rfl rfl rfl rfl ⟨rfl, rfl, rfl, rfl, rfl⟩ rfl rfl rfl rfl rfl (by kernel_rfl) Tryz.func11 jvalues_facts
  (of_decide_eq_true (by as_aux_lemma => kernel_rfl)) (by unfold Func.isWrapper; first | (rw [if_pos (by decide +kernel)]; kernel_rfl) | (rw [if_neg (by decide +kernel)]; exact ⟨rfl, rfl⟩))
  (fun os started H enc _ F => by rw [OpenClaim.pre_eq_preRow]; exact jvalues_lifted os started H enc F)
theorem jvalues_plain (f : FuncId) (fn : Func) (hf : Tryz.pinned.checked.prog.funcNamed "lexicon/lexiconlaw08.JSONValues" = some f) (hfn : Tryz.pinned.checked.prog.funcs[f]? = some fn) :
  true = Tryz.pinned.checked.prog.looks [] ∧ ∀ (j : Nat) t, fn.params[j]? = some t → Tryz.pinned.checked.prog.wantsStandIn t = false := by
 obtain rfl : f = 11 := Option.some.inj ((show Tryz.prog.funcNamed "lexicon/lexiconlaw08.JSONValues" = some 11 by kernel_rfl).symm.trans hf) |>.symm
 obtain rfl : fn = Tryz.f11 := (Option.some.inj (Tryz.func11.symm.trans hfn)).symm
 refine ⟨by kernel_rfl, fun j t ht => ?_⟩
 rw [Tryz.params11] at ht
 have : t = 30 := by simpa using Array.mem_of_getElem? ht
 subst this
 exact (show Tryz.prog.wantsStandIn 30 = false by kernel_rfl)
theorem jSONValues_proved : Rows.JSONValuesUptoCardSaid :=
 Claim7.holds_tied_plain_at .later [] _ _ _ _ jvalues_said (fun _ h => by cases h) (by kernel_rfl) (fun _ h => by cases h) jSONValuesUpto_row_tie rfl ⟨rfl, rfl⟩ (by kernel_rfl) rfl jvalues_plain (by kernel_rfl)
end Go.Proofs.YtfclfaidmipjpaaGreatDoor
