/- Texts of this claim, joined: Lpa. -/
import Derived.Test.YtfclfaidmipjpaaGreatDoorPa06
import Derived.Test.YtfclfaidmipjpaaGreatDoorPa13
namespace Go.Proofs.YtfclfaidmipjpaaGreatDoor
set_option maxRecDepth 100000
set_option maxHeartbeats 20000000
open Go.Lib (hid)
open Go.RowKit
structure PaF (w wr : World) (g : Nat) (r : JR) (nm : List UInt8) (lv : Int) : Prop where
 env : EnvJ wr
 j : JV wr (fun _ => True) r
 v : RowAt wr g (jcells r)
 a0 : wr.cell? ⟨g + 1, 0, none⟩ = some (.string ⟨nm.toArray⟩)
 a1 : wr.cell? ⟨g + 1, 1, none⟩ = some (.int .i64 lv)
 be : Below w.heap.size w wr
 hi : g + 2 ≤ wr.heap.size
theorem PaF.step {w wr w' : World} {g : Nat} {r : JR} {nm : List UInt8} {lv : Int} (h : PaF w wr g r nm lv) (hb : Below wr.heap.size wr w') : PaF w w' g r nm lv :=
 ⟨h.env.below hb (Nat.le_refl _), h.j.bel hb, h.v.below hb, (hb.cell (p := ⟨g + 1, 0, none⟩) (by show g + 1 < _; have := h.hi; omega)).trans h.a0, (hb.cell (p := ⟨g + 1, 1, none⟩) (by show g + 1 < _; have := h.hi; omega)).trans h.a1, h.be.trans (hb.mono h.be.size), Nat.le_trans h.hi hb.size⟩
theorem walkR_sz : ∀ (us : List (List UInt8)) (v x : J), goodJ v = true → walkR v us = some x → szJ x ≤ szJ v
 | [], v, x, _, h => by rw [walkR] at h; injection h with h; rw [h]; exact Nat.le_refl _
 | u :: us, v, x, hg, h => by
  rw [walkR] at h
  cases hs : stepR v u with
  | none => rw [hs] at h; cases h
  | some y =>
   rw [hs] at h
   obtain ⟨h1, h2⟩ := good_mem hg (stepR_mem hs)
   exact Nat.le_trans (walkR_sz us y x h1 h) h2
theorem ptrJ_sz {v : J} (hc : checkJ v = 0) (hz : szJ v ≤ 20000000) (s : List UInt8) : szJ (ptrJ v s).1 ≤ 20000000 := by
 rw [rpt_same hc hz s]
 unfold rptK
 cases pathS s with
 | none => exact (show szJ J.zero ≤ 20000000 by decide)
 | some us =>
  simp only
  cases h : walkR v us with
  | none => exact (show szJ J.zero ≤ 20000000 by decide)
  | some x => exact Nat.le_trans (walkR_sz us v x (checkJ_zero.1 hc).1 h) hz
theorem getV_sz {v : J} (hc : checkJ v = 0) (hz : szJ v ≤ 20000000) (u : List UInt8) : szJ (getV v u).1 ≤ 20000000 := by
 unfold getV
 rw [if_pos hc]
 cases h : getJ v u with
 | none => exact (show szJ J.zero ≤ 20000000 by decide)
 | some x =>
  have hm : x ∈ v.l := by
   unfold getJ at h
   split at h
   ·exact List.mem_of_getElem? h
   cases h
  exact Nat.le_trans (good_mem (checkJ_zero.1 hc).1 hm).2 hz
theorem GetTo.vs {w0 : World} {S : Nat → Prop} {v : J} {u : List UInt8} {w : World} {e : Ending} {w' : World} (h : GetTo w0 S v u w e w') (hc : checkJ v = 0) :
  ∃ r : JR, e = .returned (.tuple #[jval r, .bool (getV v u).2]) ∧ r.1 = (getV v u).1 ∧ JV w0 S r ∧ Below w.heap.size w w' := by
 obtain ⟨⟨r, h1, h2, h3, rfl⟩ | ⟨h1, rfl⟩, hb⟩ := h
 ·exact ⟨r, by simp only [getV, if_pos hc, h1], by simp only [getV, if_pos hc, h1], h3, hb⟩
 ·exact ⟨jzero, by simp only [getV, if_pos hc, h1], by simp only [getV, if_pos hc, h1]; rfl, JV.zero _ _, hb⟩
theorem jpaths_calls (w : World) (he : EnvJ w) (r0 : JR) (s : List UInt8) (nm : List UInt8) (lv : Int) (hj0 : JV w (fun _ => True) r0) (hsz0 : szJ r0.1 ≤ 20000000) : Calls Tryz.prog 4 #[jval r0, .string ⟨s.toArray⟩, .agg #[.string ⟨nm.toArray⟩, .int .i64 lv]] w fun e w' => e = .returned (.bool true) ∧ Below w.heap.size w w' := by
 have HE := hid he
 have HJ0 := hid hj0
 have HZ0 := hid hsz0
 clear he hj0 hsz0
 go_enter Tryz.func4, Tryz.ntmps4
 go_upto_region 1 with (refine wpList_boxJ rfl _ rfl r0 rfl ?_; intro w9 hBx)
 obtain ⟨g0, hg0⟩ : ∃ g, w.heap.size = g := ⟨_, rfl⟩
 have hy1 : w9.heap.size = g0 + 1 := by have := hBx.size; omega
 obtain ⟨wb, hwb⟩ : ∃ W, w9.alloc (.cells #[.string ⟨nm.toArray⟩, .int .i64 lv] 40) = W := ⟨_, rfl⟩
 have HF : Hid (PaF w wb g0 r0 nm lv) := hid (by
  have hb9 : Below w9.heap.size w9 wb := by rw [← hwb]; exact (Below.refl _ w9).alloc (Nat.le_refl _) _
  have hbe := hBx.be.trans (hb9.mono hBx.be.size)
  have hh := cell_alloc9 w9 #[.string ⟨nm.toArray⟩, .int .i64 lv] 40 (0, 0)
  rw [hy1, hwb] at hh
  have hv := hBx.row.below hb9
  rw [hg0] at hv
  exact ⟨HE.out.below hbe (Nat.le_refl _), HJ0.out.bel hbe, hv, hh 0, hh 1, hbe, by rw [← hwb, World.size_alloc]; omega⟩)
 rw [hwb]
 simp only [hg0, hy1]
 clear hBx hg0 hwb hy1 HE HJ0
 go_wp2_with (first | refine wpList_loadJ rfl _ rfl r0 HF.out.v rfl ?_ | (refine wpList_buildJ rfl _ rfl r0 rfl ?_; intro wq hBx))
 have hrs := RowsJ.one hBx
 have hb := hBx.be
 clear hBx
 replace HF := hid (HF.out.step hb)
 clear hb
 refine (small_calls wq _ [r0] hrs (fun r hr => by rw [List.mem_singleton.1 hr]; exact ⟨_, HF.out.j⟩) (fun r hr => by rw [List.mem_singleton.1 hr]; exact HZ0.out) (by simp)).mono ?_
 rintro e w1 ⟨bs, rfl, hb⟩
 clear hrs
 replace HF := hid (HF.out.step hb)
 clear hb
 cases bs with
 | false =>
  go_wp2_with fail
  refine (works_calls w1 HF.out.env).mono ?_
  rintro e w2 ⟨rfl, hb⟩
  replace HF := hid (HF.out.step hb)
  clear hb
  go_wp2_with fail
  go_ret
  exact ⟨rfl, HF.out.be⟩
 | true =>
  have a0 := HF.out.a0
  by_cases hsl : (5000 : Int) < (s.length : Int)
  ·
   go_wp2_with fail
   refine (works_calls w1 HF.out.env).mono ?_
   rintro e w3 ⟨rfl, hb⟩
   replace HF := hid (HF.out.step hb)
   clear hb
   go_wp2_with fail
   go_ret
   exact ⟨rfl, HF.out.be⟩
  by_cases hnl : (5000 : Int) < (nm.length : Int)
  ·
   go_wp2_with fail
   refine (works_calls w1 HF.out.env).mono ?_
   rintro e w4 ⟨rfl, hb⟩
   replace HF := hid (HF.out.step hb)
   clear hb
   go_wp2_with fail
   go_ret
   exact ⟨rfl, HF.out.be⟩
  have HSL : Hid (s.length ≤ 5000 ∧ nm.length ≤ 5000) := hid (by omega)
  go_wp2_with (refine wpList_loadJ rfl _ rfl r0 HF.out.v rfl ?_)
  clear a0 hsl hnl
  refine (copiedL_calls HF.out.j w1 (Below.refl _ _) HZ0.out).mono ?_
  rintro e w5 ⟨lm, nmm, rfl, hk, hb⟩
  obtain ⟨rm, hrm⟩ : ∃ r : JR, (r0.1, lm, nmm) = r := ⟨_, rfl⟩
  have HRM : Hid (rm.1 = r0.1) := hid (by rw [← hrm])
  rw [hrm] at hk ⊢
  have HKM := hid hk
  have HZM : Hid (szJ rm.1 ≤ 20000000) := hid (by rw [HRM.out]; exact HZ0.out)
  have HFm := HF
  have HBM : Hid (Below w1.heap.size w1 w5) := hid hb
  obtain ⟨bm, hbm⟩ : ∃ q, w1.heap.size = q := ⟨_, rfl⟩
  obtain ⟨em, hem⟩ : ∃ q, w5.heap.size = q := ⟨_, rfl⟩
  have HSM : Hid (w1.heap.size = bm ∧ w5.heap.size = em) := hid ⟨hbm, hem⟩
  have HJM : Hid (JV w5 (fun k => bm ≤ k ∧ k < em) rm) := hid (HKM.out.jv.mono (fun k hk hs => ⟨by rw [← hbm]; exact hs, by rw [← hem]; exact hk⟩))
  clear hrm hk hbm hem
  replace HF := hid (HF.out.step hb)
  clear hb
  go_upto_region 4 with (first | (refine wpList_allocJ rfl rfl ?_; intro wa hBx) | (refine wpList_storeJ rfl _ _ rfl rfl hBx.row rfl rm HKM.out.jv.slJ rfl rfl ?_; intro w6 hSx))
  have hb : Below w5.heap.size w5 w6 := hSx.below hBx.be (Nat.le_refl _) hBx.be.size
  have hrow := hSx.row
  obtain ⟨gm, hg⟩ : ∃ g, w5.heap.size = g := ⟨_, rfl⟩
  rw [hg] at hrow ⊢
  have HVM := hid hrow
  have HZgm : Hid (w5.heap.size = gm) := hid hg
  clear hSx hBx hg hrow
  replace HF := hid (HF.out.step hb)
  replace HKM := hid (HKM.out.bel hb)
  replace HJM := hid (HJM.out.bel hb)
  replace HBM := hid (HBM.out.trans (hb.mono HBM.out.size))
  clear hb
  go_wp2_with (refine wpList_loadJ rfl _ rfl rm HVM.out rfl ?_)
  obtain ⟨m9, hm9⟩ := HF.out.env.ml
  refine (pointer_calls (r1 := rm) HKM.out.jv HF.out.env.tab HF.out.env.errs HF.out.env.utf m9 hm9 w6 (Below.refl _ _) HZM.out s (by have := HSL.out.1; omega)).mono ?_
  rintro e w7 ⟨lxx, nxx, rfl, hj, hb⟩
  rw [HRM.out] at hj ⊢
  obtain ⟨⟨Xxx, oxx⟩, hX⟩ : ∃ q, ptrJ r0.1 s = q := ⟨_, rfl⟩
  have HQxx := hid hX
  rw [hX] at hj ⊢
  clear hX
  obtain ⟨rxx, hr⟩ : ∃ r : JR, (Xxx, lxx, nxx) = r := ⟨_, rfl⟩
  have HRxx : Hid (rxx.1 = Xxx) := hid (by rw [← hr])
  dsimp only at hj ⊢
  rw [hr] at hj ⊢
  clear hr
  obtain ⟨bxx, hbxx⟩ : ∃ q, w6.heap.size = q := ⟨_, rfl⟩
  obtain ⟨exx, hexx⟩ : ∃ q, w7.heap.size = q := ⟨_, rfl⟩
  have HJxx : Hid (JV w7 (fun k => bxx ≤ k ∧ k < exx) rxx) := hid (hj.mono (fun k hk hs => ⟨by rw [← hbxx]; exact hs, by rw [← hexx]; exact hk⟩))
  have HSxx : Hid (w6.heap.size = bxx ∧ w7.heap.size = exx ∧ bxx ≤ exx) := hid ⟨hbxx, hexx, by have := hb.size; omega⟩
  have HMX : Hid (em ≤ bxx) := hid (by have h1 := HVM.out.lt; have h2 := HSxx.out.1; have h3 := HZgm.out; have h5 := HSM.out.2; omega)
  have HJM0 := HJM
  have HBM0 := HBM
  have HF0 := HF
  have HKM0 := HKM
  have HVM0 := HVM
  have HBX : Hid (Below w6.heap.size w6 w7) := hid hb
  clear hj hbxx hexx
  replace HF := hid (HF.out.step hb)
  replace HKM := hid (HKM.out.bel hb)
  replace HJM := hid (HJM.out.bel hb)
  replace HBM := hid (HBM.out.trans (hb.mono HBM.out.size))
  replace HVM := hid (HVM.out.below hb)
  clear hb
  have HBE : Hid (Below w7.heap.size w7 w7) := hid (Below.refl _ _)
  clear hm9
  go_upto_region 5 with (first | (refine wpList_allocJ rfl rfl ?_; intro wa hBx) | (refine wpList_storeJ rfl _ _ rfl rfl hBx.row rfl rxx HJxx.out.slJ rfl rfl ?_; intro w8 hSx))
  have hb : Below w7.heap.size w7 w8 := hSx.below hBx.be (Nat.le_refl _) hBx.be.size
  have hrow := hSx.row
  obtain ⟨gx, hg⟩ : ∃ g, w7.heap.size = g := ⟨_, rfl⟩
  rw [hg] at hrow ⊢
  have HVX := hid hrow
  have HZgx : Hid (w7.heap.size = gx) := hid hg
  clear hSx hBx hg hrow
  replace HF := hid (HF.out.step hb)
  replace HKM := hid (HKM.out.bel hb)
  replace HJM := hid (HJM.out.bel hb)
  replace HBM := hid (HBM.out.trans (hb.mono HBM.out.size))
  replace HVM := hid (HVM.out.below hb)
  replace HJxx := hid (HJxx.out.bel hb)
  replace HBE := hid (HBE.out.trans (hb.mono HBE.out.size))
  replace HBX := hid (HBX.out.trans (hb.mono HBX.out.size))
  clear hb
  have a0 := HF.out.a0
  go_wp2_with (refine wpList_loadJ rfl _ rfl rm HVM.out rfl ?_)
  refine (getP_calls (r1 := rm) HKM.out.jv HF.out.env.tab HF.out.env.utf w8 (Below.refl _ _) HZM.out nm).mono ?_
  rintro e w9 ⟨lyy, nyy, rfl, hj, hb⟩
  rw [HRM.out] at hj ⊢
  obtain ⟨⟨Xyy, oyy⟩, hX⟩ : ∃ q, getV r0.1 nm = q := ⟨_, rfl⟩
  have HQyy := hid hX
  rw [hX] at hj ⊢
  clear hX
  obtain ⟨ryy, hr⟩ : ∃ r : JR, (Xyy, lyy, nyy) = r := ⟨_, rfl⟩
  have HRyy : Hid (ryy.1 = Xyy) := hid (by rw [← hr])
  dsimp only at hj ⊢
  rw [hr] at hj ⊢
  clear hr
  obtain ⟨byy, hbyy⟩ : ∃ q, w8.heap.size = q := ⟨_, rfl⟩
  obtain ⟨eyy, heyy⟩ : ∃ q, w9.heap.size = q := ⟨_, rfl⟩
  have HJyy : Hid (JV w9 (fun k => byy ≤ k ∧ k < eyy) ryy) := hid (hj.mono (fun k hk hs => ⟨by rw [← hbyy]; exact hs, by rw [← heyy]; exact hk⟩))
  have HSyy : Hid (w8.heap.size = byy ∧ w9.heap.size = eyy ∧ byy ≤ eyy) := hid ⟨hbyy, heyy, by have := hb.size; omega⟩
  have HXY : Hid (exx ≤ byy) := hid (by have h1 := HBE.out.size; have h2 := HSxx.out.2.1; have h3 := HSyy.out.1; omega)
  clear hj hbyy heyy
  replace HF := hid (HF.out.step hb)
  replace HKM := hid (HKM.out.bel hb)
  replace HJM := hid (HJM.out.bel hb)
  replace HBM := hid (HBM.out.trans (hb.mono HBM.out.size))
  replace HVM := hid (HVM.out.below hb)
  replace HJxx := hid (HJxx.out.bel hb)
  replace HBE := hid (HBE.out.trans (hb.mono HBE.out.size))
  replace HBX := hid (HBX.out.trans (hb.mono HBX.out.size))
  replace HVX := hid (HVX.out.below hb)
  clear hb
  have HBE2 : Hid (Below w9.heap.size w9 w9) := hid (Below.refl _ _)
  clear a0
  go_upto_region 6 with (first | (refine wpList_allocJ rfl rfl ?_; intro wa hBx) | (refine wpList_storeJ rfl _ _ rfl rfl hBx.row rfl ryy HJyy.out.slJ rfl rfl ?_; intro w10 hSx))
  have hb : Below w9.heap.size w9 w10 := hSx.below hBx.be (Nat.le_refl _) hBx.be.size
  have hrow := hSx.row
  obtain ⟨gy, hg⟩ : ∃ g, w9.heap.size = g := ⟨_, rfl⟩
  rw [hg] at hrow ⊢
  have HVY := hid hrow
  have HZgy : Hid (w9.heap.size = gy) := hid hg
  clear hSx hBx hg hrow
  replace HF := hid (HF.out.step hb)
  replace HKM := hid (HKM.out.bel hb)
  replace HJM := hid (HJM.out.bel hb)
  replace HBM := hid (HBM.out.trans (hb.mono HBM.out.size))
  replace HVM := hid (HVM.out.below hb)
  replace HJxx := hid (HJxx.out.bel hb)
  replace HBE := hid (HBE.out.trans (hb.mono HBE.out.size))
  replace HBX := hid (HBX.out.trans (hb.mono HBX.out.size))
  replace HVX := hid (HVX.out.below hb)
  replace HJyy := hid (HJyy.out.bel hb)
  replace HBE2 := hid (HBE2.out.trans (hb.mono HBE2.out.size))
  clear hb
  go_wp2_with (refine wpList_loadJ rfl _ rfl rm HVM.out rfl ?_)
  refine (allJ_calls (r1 := rm) HKM.out.jv HF.out.env.tab HF.out.env.utf w10 (Below.refl _ _) HZM.out).mono ?_
  rintro e w11 ⟨gA, lA, nA, rfl, hgA, hrowA, hjA, hb⟩
  rw [HRM.out] at hrowA hjA
  obtain ⟨rA, hrA⟩ : ∃ r : JR, (allV r0.1, lA, nA) = r := ⟨_, rfl⟩
  have HRA : Hid (rA.1 = allV r0.1) := hid (by rw [← hrA])
  rw [hrA] at hrowA hjA
  have HGA : Hid (w10.heap.size ≤ gA) := hid hgA
  have HWA := hid hrowA
  have HJA := hid hjA
  have HYA : Hid (eyy ≤ gA) := hid (by have h1 := HBE2.out.size; have h2 := HSyy.out.2.1; have h3 := HGA.out; omega)
  clear hrA hgA hrowA hjA
  replace HF := hid (HF.out.step hb)
  replace HKM := hid (HKM.out.bel hb)
  replace HJM := hid (HJM.out.bel hb)
  replace HBM := hid (HBM.out.trans (hb.mono HBM.out.size))
  replace HVM := hid (HVM.out.below hb)
  replace HJxx := hid (HJxx.out.bel hb)
  replace HBE := hid (HBE.out.trans (hb.mono HBE.out.size))
  replace HBX := hid (HBX.out.trans (hb.mono HBX.out.size))
  replace HVX := hid (HVX.out.below hb)
  replace HJyy := hid (HJyy.out.bel hb)
  replace HBE2 := hid (HBE2.out.trans (hb.mono HBE2.out.size))
  replace HVY := hid (HVY.out.below hb)
  clear hb
  go_wp2_with (first | refine wpList_loadJ rfl _ rfl rm HVM.out rfl ?_ | refine wpList_loadJ rfl _ rfl r0 HF.out.v rfl ?_)
  refine (kept_calls HKM.out _ r0 w11 (Below.refl _ _) HF.out.j HRM.out HZM.out).mono ?_
  rintro e w12 ⟨rfl, hb⟩
  replace HF := hid (HF.out.step hb)
  replace HKM := hid (HKM.out.bel hb)
  replace HJM := hid (HJM.out.bel hb)
  replace HBM := hid (HBM.out.trans (hb.mono HBM.out.size))
  replace HVM := hid (HVM.out.below hb)
  replace HJxx := hid (HJxx.out.bel hb)
  replace HBE := hid (HBE.out.trans (hb.mono HBE.out.size))
  replace HBX := hid (HBX.out.trans (hb.mono HBX.out.size))
  replace HVX := hid (HVX.out.below hb)
  replace HJyy := hid (HJyy.out.bel hb)
  replace HBE2 := hid (HBE2.out.trans (hb.mono HBE2.out.size))
  replace HVY := hid (HVY.out.below hb)
  replace HWA := hid (HWA.out.below hb)
  replace HJA := hid (HJA.out.bel hb)
  clear hb
  obtain ⟨c, hc⟩ : ∃ c, checkJ r0.1 = c := ⟨_, rfl⟩
  have HC := hid hc
  clear hc
  go_wp2_with (refine wpList_loadJ rfl _ rfl r0 HF.out.v rfl ?_)
  refine (checkR_calls (r1 := r0) HF.out.j HF.out.env.tab w12 (Below.refl _ _) HZ0.out).mono ?_
  rintro e w13 ⟨rfl, hb⟩
  rw [HC.out]
  replace HF := hid (HF.out.step hb)
  replace HKM := hid (HKM.out.bel hb)
  replace HJM := hid (HJM.out.bel hb)
  replace HBM := hid (HBM.out.trans (hb.mono HBM.out.size))
  replace HVM := hid (HVM.out.below hb)
  replace HJxx := hid (HJxx.out.bel hb)
  replace HBE := hid (HBE.out.trans (hb.mono HBE.out.size))
  replace HBX := hid (HBX.out.trans (hb.mono HBX.out.size))
  replace HVX := hid (HVX.out.below hb)
  replace HJyy := hid (HJyy.out.bel hb)
  replace HBE2 := hid (HBE2.out.trans (hb.mono HBE2.out.size))
  replace HVY := hid (HVY.out.below hb)
  replace HWA := hid (HWA.out.below hb)
  replace HJA := hid (HJA.out.bel hb)
  clear hb
  by_cases hc : c = 0
  rotate_left
  ·
   have n1 : ((c : Int) != 0) = true := by rw [bne_iff_ne]; exact hc
   go_upto_region 10 with fail
   have HXZ : Hid (rxx.1 = J.zero ∧ oxx = 2) := hid (by
    have h := HQxx.out
    unfold ptrJ at h
    rw [if_pos (by rw [HC.out]; exact hc)] at h
    injection h with h1 h2
    exact ⟨by rw [HRxx.out, ← h1], h2.symm⟩)
   have HYZ : Hid (ryy.1 = J.zero ∧ oyy = false) := hid (by
    have h := HQyy.out
    unfold getV at h
    rw [if_neg (by rw [HC.out]; exact hc)] at h
    injection h with h1 h2
    exact ⟨by rw [HRyy.out, ← h1], h2.symm⟩)
   have HAZ : Hid (rA.1 = J.zero) := hid (by rw [HRA.out, allV, if_neg (by rw [HC.out]; exact hc)])
   obtain rfl : oxx = 2 := HXZ.out.2
   obtain rfl : oyy = false := HYZ.out.2
   clear hc n1
   go_wp2_with (refine wpList_loadJ rfl _ rfl rxx HVX.out rfl ?_)
   refine (sameR_calls HJxx.out (fun _ => True) jzero w13 (Below.refl _ _) (JV.zero _ _)).mono ?_
   rintro e w14 ⟨bb, rfl, hbb, hb⟩
   obtain rfl : bb = true := hbb.2 HXZ.out.1
   clear hbb
   replace HF := hid (HF.out.step hb)
   replace HKM := hid (HKM.out.bel hb)
   replace HJM := hid (HJM.out.bel hb)
   replace HBM := hid (HBM.out.trans (hb.mono HBM.out.size))
   replace HVM := hid (HVM.out.below hb)
   replace HJxx := hid (HJxx.out.bel hb)
   replace HBE := hid (HBE.out.trans (hb.mono HBE.out.size))
   replace HBX := hid (HBX.out.trans (hb.mono HBX.out.size))
   replace HVX := hid (HVX.out.below hb)
   replace HJyy := hid (HJyy.out.bel hb)
   replace HBE2 := hid (HBE2.out.trans (hb.mono HBE2.out.size))
   replace HVY := hid (HVY.out.below hb)
   replace HWA := hid (HWA.out.below hb)
   replace HJA := hid (HJA.out.bel hb)
   clear hb
   go_wp2_with fail
   refine (num_calls _ w14).mono ?_
   rintro e wq9 ⟨rfl, rfl⟩
   have k0 : w14.cell? ⟨gy, 0, none⟩ = some (.int .i64 ryy.1.kind) := HVY.out.cell 0 _ rfl
   have k1 : w14.cell? ⟨gy, 1, none⟩ = some (.bool ryy.1.b) := HVY.out.cell 1 _ rfl
   have k2 : w14.cell? ⟨gy, 2, none⟩ = some (.bool ryy.1.n.neg) := HVY.out.cell 2 _ rfl
   have k3 : w14.cell? ⟨gy, 3, none⟩ = some (.string ⟨ryy.1.n.digits.toArray⟩) := HVY.out.cell 3 _ rfl
   have k4 : w14.cell? ⟨gy, 4, none⟩ = some (.int .i64 ryy.1.n.exp) := HVY.out.cell 4 _ rfl
   have k5 : w14.cell? ⟨gy, 5, none⟩ = some (.string ⟨ryy.1.t.toArray⟩) := HVY.out.cell 5 _ rfl
   have k6 : w14.cell? ⟨gy, 6, none⟩ = some (ryy.2.1) := HVY.out.cell 6 _ rfl
   have k7 : w14.cell? ⟨gy, 7, none⟩ = some (ryy.2.2) := HVY.out.cell 7 _ rfl
   go_wp2_with fail
   refine (sameR_calls HJyy.out (fun _ => True) jzero w14 (Below.refl _ _) (JV.zero _ _)).mono ?_
   rintro e w15 ⟨bb, rfl, hbb, hb⟩
   obtain rfl : bb = true := hbb.2 HYZ.out.1
   clear hbb
   replace HF := hid (HF.out.step hb)
   replace HKM := hid (HKM.out.bel hb)
   replace HJM := hid (HJM.out.bel hb)
   replace HBM := hid (HBM.out.trans (hb.mono HBM.out.size))
   replace HVM := hid (HVM.out.below hb)
   replace HJxx := hid (HJxx.out.bel hb)
   replace HBE := hid (HBE.out.trans (hb.mono HBE.out.size))
   replace HBX := hid (HBX.out.trans (hb.mono HBX.out.size))
   replace HVX := hid (HVX.out.below hb)
   replace HJyy := hid (HJyy.out.bel hb)
   replace HBE2 := hid (HBE2.out.trans (hb.mono HBE2.out.size))
   replace HVY := hid (HVY.out.below hb)
   replace HWA := hid (HWA.out.below hb)
   replace HJA := hid (HJA.out.bel hb)
   clear hb
   clear k0 k1 k2 k3 k4 k5 k6 k7
   go_wp2_with fail
   refine (goes_calls (r1 := jzero) (JV.zero w15 (fun _ => True)) HF.out.env.tab w15 (Below.refl _ _) rfl (by decide) (gA := gA) (fun W n0 m h1 h2 h3 => by
    have h := all1_hands HWA.out HJA.out HF.out.env.tab (by rw [HAZ.out]; rfl) (by rw [HAZ.out]; decide) n0 W h1 h2 h3 m
    rw [HAZ.out] at h
    exact h) 0).mono ?_
   rintro e w16 ⟨rfl, hb⟩
   replace HF := hid (HF.out.step hb)
   replace HKM := hid (HKM.out.bel hb)
   replace HJM := hid (HJM.out.bel hb)
   replace HBM := hid (HBM.out.trans (hb.mono HBM.out.size))
   replace HVM := hid (HVM.out.below hb)
   replace HJxx := hid (HJxx.out.bel hb)
   replace HBE := hid (HBE.out.trans (hb.mono HBE.out.size))
   replace HBX := hid (HBX.out.trans (hb.mono HBX.out.size))
   replace HVX := hid (HVX.out.below hb)
   replace HJyy := hid (HJyy.out.bel hb)
   replace HBE2 := hid (HBE2.out.trans (hb.mono HBE2.out.size))
   replace HVY := hid (HVY.out.below hb)
   replace HWA := hid (HWA.out.below hb)
   replace HJA := hid (HJA.out.bel hb)
   clear hb
   go_wp2_with fail
   refine (works_calls w16 HF.out.env).mono ?_
   rintro e w17 ⟨rfl, hb⟩
   replace HF := hid (HF.out.step hb)
   replace HKM := hid (HKM.out.bel hb)
   replace HJM := hid (HJM.out.bel hb)
   replace HBM := hid (HBM.out.trans (hb.mono HBM.out.size))
   replace HVM := hid (HVM.out.below hb)
   replace HJxx := hid (HJxx.out.bel hb)
   replace HBE := hid (HBE.out.trans (hb.mono HBE.out.size))
   replace HBX := hid (HBX.out.trans (hb.mono HBX.out.size))
   replace HVX := hid (HVX.out.below hb)
   replace HJyy := hid (HJyy.out.bel hb)
   replace HBE2 := hid (HBE2.out.trans (hb.mono HBE2.out.size))
   replace HVY := hid (HVY.out.below hb)
   replace HWA := hid (HWA.out.below hb)
   replace HJA := hid (HJA.out.bel hb)
   clear hb
   go_wp2_with fail
   go_ret
   exact ⟨rfl, HF.out.be⟩
  subst hc
  have HG : Hid (goodJ r0.1 = true) := hid (checkJ_zero.1 HC.out).1
  go_wp2_with (refine wpList_loadJ rfl _ rfl r0 HF.out.v rfl ?_)
  have hpt := pointR_calls HF.out.j w13 (Below.refl _ _) HG.out HZ0.out s (by have := HSL.out.1; omega)
  rw [← rpt_same HC.out HZ0.out s, HQxx.out] at hpt
  refine hpt.mono ?_
  rintro e w18 ⟨⟨rv, hrv, rfl, hjv⟩, hb⟩
  clear hpt
  have HRV : Hid (rv.1 = rxx.1) := hid (hrv.trans HRxx.out.symm)
  have HJV := hid (hjv.bel hb)
  clear hrv hjv
  replace HF := hid (HF.out.step hb)
  replace HKM := hid (HKM.out.bel hb)
  replace HJM := hid (HJM.out.bel hb)
  replace HBM := hid (HBM.out.trans (hb.mono HBM.out.size))
  replace HVM := hid (HVM.out.below hb)
  replace HJxx := hid (HJxx.out.bel hb)
  replace HBE := hid (HBE.out.trans (hb.mono HBE.out.size))
  replace HBX := hid (HBX.out.trans (hb.mono HBX.out.size))
  replace HVX := hid (HVX.out.below hb)
  replace HJyy := hid (HJyy.out.bel hb)
  replace HBE2 := hid (HBE2.out.trans (hb.mono HBE2.out.size))
  replace HVY := hid (HVY.out.below hb)
  replace HWA := hid (HWA.out.below hb)
  replace HJA := hid (HJA.out.bel hb)
  clear hb
  go_upto_region 12 with (first | (refine wpList_allocJ rfl rfl ?_; intro wa hBx) | (refine wpList_storeJ rfl _ _ rfl rfl hBx.row rfl rv HJV.out.slJ rfl rfl ?_; intro w19 hSx))
  have hb : Below w18.heap.size w18 w19 := hSx.below hBx.be (Nat.le_refl _) hBx.be.size
  have hrow := hSx.row
  obtain ⟨gv, hg⟩ : ∃ g, w18.heap.size = g := ⟨_, rfl⟩
  rw [hg] at hrow ⊢
  have HVV := hid hrow
  have HZgv : Hid (w18.heap.size = gv) := hid hg
  clear hSx hBx hg hrow
  replace HF := hid (HF.out.step hb)
  replace HKM := hid (HKM.out.bel hb)
  replace HJM := hid (HJM.out.bel hb)
  replace HBM := hid (HBM.out.trans (hb.mono HBM.out.size))
  replace HVM := hid (HVM.out.below hb)
  replace HJxx := hid (HJxx.out.bel hb)
  replace HBE := hid (HBE.out.trans (hb.mono HBE.out.size))
  replace HBX := hid (HBX.out.trans (hb.mono HBX.out.size))
  replace HVX := hid (HVX.out.below hb)
  replace HJyy := hid (HJyy.out.bel hb)
  replace HBE2 := hid (HBE2.out.trans (hb.mono HBE2.out.size))
  replace HVY := hid (HVY.out.below hb)
  replace HWA := hid (HWA.out.below hb)
  replace HJA := hid (HJA.out.bel hb)
  replace HJV := hid (HJV.out.bel hb)
  clear hb
  have a0 := HF.out.a0
  go_wp2_with (refine wpList_loadJ rfl _ rfl r0 HF.out.v rfl ?_)
  refine (getR_calls HF.out.j w19 (Below.refl _ _) (ns_lens HG.out) (Nat.le_trans HZ0.out (by decide)) nm).mono ?_
  rintro e w20 hget
  obtain ⟨rz, rfl, hrz, hjz, hb⟩ := hget.vs HC.out
  rw [HQyy.out] at hrz ⊢
  have HRZ : Hid (rz.1 = ryy.1) := hid (hrz.trans HRyy.out.symm)
  have HJZ := hid (hjz.bel hb)
  clear hget hrz hjz a0
  dsimp only
  replace HF := hid (HF.out.step hb)
  replace HKM := hid (HKM.out.bel hb)
  replace HJM := hid (HJM.out.bel hb)
  replace HBM := hid (HBM.out.trans (hb.mono HBM.out.size))
  replace HVM := hid (HVM.out.below hb)
  replace HJxx := hid (HJxx.out.bel hb)
  replace HBE := hid (HBE.out.trans (hb.mono HBE.out.size))
  replace HBX := hid (HBX.out.trans (hb.mono HBX.out.size))
  replace HVX := hid (HVX.out.below hb)
  replace HJyy := hid (HJyy.out.bel hb)
  replace HBE2 := hid (HBE2.out.trans (hb.mono HBE2.out.size))
  replace HVY := hid (HVY.out.below hb)
  replace HWA := hid (HWA.out.below hb)
  replace HJA := hid (HJA.out.bel hb)
  replace HJV := hid (HJV.out.bel hb)
  replace HVV := hid (HVV.out.below hb)
  clear hb
  go_upto_region 13 with (first | (refine wpList_allocJ rfl rfl ?_; intro wa hBx) | (refine wpList_storeJ rfl _ _ rfl rfl hBx.row rfl rz HJZ.out.slJ rfl rfl ?_; intro w21 hSx))
  have hb : Below w20.heap.size w20 w21 := hSx.below hBx.be (Nat.le_refl _) hBx.be.size
  have hrow := hSx.row
  obtain ⟨gz, hg⟩ : ∃ g, w20.heap.size = g := ⟨_, rfl⟩
  rw [hg] at hrow ⊢
  have HVZ := hid hrow
  have HZgz : Hid (w20.heap.size = gz) := hid hg
  clear hSx hBx hg hrow
  replace HF := hid (HF.out.step hb)
  replace HKM := hid (HKM.out.bel hb)
  replace HJM := hid (HJM.out.bel hb)
  replace HBM := hid (HBM.out.trans (hb.mono HBM.out.size))
  replace HVM := hid (HVM.out.below hb)
  replace HJxx := hid (HJxx.out.bel hb)
  replace HBE := hid (HBE.out.trans (hb.mono HBE.out.size))
  replace HBX := hid (HBX.out.trans (hb.mono HBX.out.size))
  replace HVX := hid (HVX.out.below hb)
  replace HJyy := hid (HJyy.out.bel hb)
  replace HBE2 := hid (HBE2.out.trans (hb.mono HBE2.out.size))
  replace HVY := hid (HVY.out.below hb)
  replace HWA := hid (HWA.out.below hb)
  replace HJA := hid (HJA.out.bel hb)
  replace HJV := hid (HJV.out.bel hb)
  replace HVV := hid (HVV.out.below hb)
  replace HJZ := hid (HJZ.out.bel hb)
  clear hb
  have noo : (oxx != oxx) = false := by simp
  go_wp2_with (first | (refine wpList_loadJ rfl _ rfl rxx HVX.out rfl ?_) | (refine wpList_loadJ rfl _ rfl rv HVV.out rfl ?_))
  refine (sameR_calls HJxx.out _ rv w21 (Below.refl _ _) HJV.out).mono ?_
  rintro e w22 ⟨bb, rfl, hbb, hb⟩
  obtain rfl : bb = true := hbb.2 HRV.out.symm
  clear hbb
  replace HF := hid (HF.out.step hb)
  replace HKM := hid (HKM.out.bel hb)
  replace HJM := hid (HJM.out.bel hb)
  replace HBM := hid (HBM.out.trans (hb.mono HBM.out.size))
  replace HVM := hid (HVM.out.below hb)
  replace HJxx := hid (HJxx.out.bel hb)
  replace HBE := hid (HBE.out.trans (hb.mono HBE.out.size))
  replace HBX := hid (HBX.out.trans (hb.mono HBX.out.size))
  replace HVX := hid (HVX.out.below hb)
  replace HJyy := hid (HJyy.out.bel hb)
  replace HBE2 := hid (HBE2.out.trans (hb.mono HBE2.out.size))
  replace HVY := hid (HVY.out.below hb)
  replace HWA := hid (HWA.out.below hb)
  replace HJA := hid (HJA.out.bel hb)
  replace HJV := hid (HJV.out.bel hb)
  replace HVV := hid (HVV.out.below hb)
  replace HJZ := hid (HJZ.out.bel hb)
  replace HVZ := hid (HVZ.out.below hb)
  clear hb
  go_wp2_with fail
  refine (num_calls _ w22).mono ?_
  rintro e wq9 ⟨rfl, rfl⟩
  have k0 : w22.cell? ⟨gy, 0, none⟩ = some (.int .i64 ryy.1.kind) := HVY.out.cell 0 _ rfl
  have k1 : w22.cell? ⟨gy, 1, none⟩ = some (.bool ryy.1.b) := HVY.out.cell 1 _ rfl
  have k2 : w22.cell? ⟨gy, 2, none⟩ = some (.bool ryy.1.n.neg) := HVY.out.cell 2 _ rfl
  have k3 : w22.cell? ⟨gy, 3, none⟩ = some (.string ⟨ryy.1.n.digits.toArray⟩) := HVY.out.cell 3 _ rfl
  have k4 : w22.cell? ⟨gy, 4, none⟩ = some (.int .i64 ryy.1.n.exp) := HVY.out.cell 4 _ rfl
  have k5 : w22.cell? ⟨gy, 5, none⟩ = some (.string ⟨ryy.1.t.toArray⟩) := HVY.out.cell 5 _ rfl
  have k6 : w22.cell? ⟨gy, 6, none⟩ = some (ryy.2.1) := HVY.out.cell 6 _ rfl
  have k7 : w22.cell? ⟨gy, 7, none⟩ = some (ryy.2.2) := HVY.out.cell 7 _ rfl
  have j0 : w22.cell? ⟨gz, 0, none⟩ = some (.int .i64 rz.1.kind) := HVZ.out.cell 0 _ rfl
  have j1 : w22.cell? ⟨gz, 1, none⟩ = some (.bool rz.1.b) := HVZ.out.cell 1 _ rfl
  have j2 : w22.cell? ⟨gz, 2, none⟩ = some (.bool rz.1.n.neg) := HVZ.out.cell 2 _ rfl
  have j3 : w22.cell? ⟨gz, 3, none⟩ = some (.string ⟨rz.1.n.digits.toArray⟩) := HVZ.out.cell 3 _ rfl
  have j4 : w22.cell? ⟨gz, 4, none⟩ = some (.int .i64 rz.1.n.exp) := HVZ.out.cell 4 _ rfl
  have j5 : w22.cell? ⟨gz, 5, none⟩ = some (.string ⟨rz.1.t.toArray⟩) := HVZ.out.cell 5 _ rfl
  have j6 : w22.cell? ⟨gz, 6, none⟩ = some (rz.2.1) := HVZ.out.cell 6 _ rfl
  have j7 : w22.cell? ⟨gz, 7, none⟩ = some (rz.2.2) := HVZ.out.cell 7 _ rfl
  go_wp2_with fail
  refine (sameR_calls HJyy.out _ rz w22 (Below.refl _ _) HJZ.out).mono ?_
  rintro e w23 ⟨bb, rfl, hbb, hb⟩
  obtain rfl : bb = true := hbb.2 HRZ.out.symm
  clear hbb
  replace HF := hid (HF.out.step hb)
  replace HKM := hid (HKM.out.bel hb)
  replace HJM := hid (HJM.out.bel hb)
  replace HBM := hid (HBM.out.trans (hb.mono HBM.out.size))
  replace HVM := hid (HVM.out.below hb)
  replace HJxx := hid (HJxx.out.bel hb)
  replace HBE := hid (HBE.out.trans (hb.mono HBE.out.size))
  replace HBX := hid (HBX.out.trans (hb.mono HBX.out.size))
  replace HVX := hid (HVX.out.below hb)
  replace HJyy := hid (HJyy.out.bel hb)
  replace HBE2 := hid (HBE2.out.trans (hb.mono HBE2.out.size))
  replace HVY := hid (HVY.out.below hb)
  replace HWA := hid (HWA.out.below hb)
  replace HJA := hid (HJA.out.bel hb)
  replace HJV := hid (HJV.out.bel hb)
  replace HVV := hid (HVV.out.below hb)
  replace HJZ := hid (HJZ.out.bel hb)
  replace HVZ := hid (HVZ.out.below hb)
  clear hb
  clear k0 k1 k2 k3 k4 k5 k6 k7 j0 j1 j2 j3 j4 j5 j6 j7
  go_wp2_with (refine wpList_loadJ rfl _ rfl rxx HVX.out rfl ?_)
  have hsx : checkJ r0.1 = 0 := HC.out
  have HZxx : Hid (szJ rxx.1 ≤ 20000000) := hid (by have h := ptrJ_sz HC.out HZ0.out s; rw [HQxx.out] at h; rw [HRxx.out]; exact h)
  have HZyy : Hid (szJ ryy.1 ≤ 20000000) := hid (by have h := getV_sz HC.out HZ0.out nm; rw [HQyy.out] at h; rw [HRyy.out]; exact h)
  clear hsx
  have h4 := HF0.out.env.errs.lt
  have hzs : szJ rxx.1 ≤ 20000000 := HZxx.out
  refine (spoil_calls _ rxx w23 (fun k => (bxx ≤ k ∧ k < exx) ∧ k < w23.heap.size) (fun k h => h.2) (JV.spo (HJxx.out.mono (fun k hk hs => ⟨hs, hk⟩)) (fun h => by have h1 := h.1.1; have h2 := HSxx.out; have h3 := HSyy.out; have h5 := HXY.out; omega) _ (Nat.le_refl _) hzs)).mono ?_
  rintro e w24 ⟨rfl, hz⟩
  have hap := hz.apart
  have hb : Below w6.heap.size w6 w24 := HBX.out.trans (hap.below HBX.out.size (fun i hi h => by have h1 := h.1.1; have h2 := HSxx.out; have h3 := HSyy.out; have h5 := HXY.out; omega))
  have HF := hid (HF0.out.step hb)
  have HKM := hid (HKM0.out.bel hb)
  have HVM := hid (HVM0.out.below hb)
  have HJM := hid (HJM0.out.bel hb)
  have HBM := hid (HBM0.out.trans (hb.mono HBM0.out.size))
  have HBX := hid hb
  have HJyy := hid (HJyy.out.apart hap (fun k hk _ e => by have h1 := hk.1; have h2 := e.1.2; have h3 := HXY.out; omega))
  have HVY := hid (HVY.out.apart hap (fun e => by have h1 := e.1.2; have h2 := HZgy.out; have h3 := HSyy.out; have h5 := HXY.out; omega))
  have HJA := hid (HJA.out.apart hap (fun k hk _ e => by have h0 : gA < k := hk; have h1 := e.1.2; have h2 := HYA.out; have h3 := HSyy.out; have h5 := HXY.out; omega))
  have HWA := hid (HWA.out.apart hap (fun e => by have h1 := e.1.2; have h2 := HYA.out; have h3 := HSyy.out; have h5 := HXY.out; omega))
  clear hz hap h4 hzs hb
  go_wp2_with (refine wpList_loadJ rfl _ rfl ryy HVY.out rfl ?_)
  have h4 := HF0.out.env.errs.lt
  have hzs : szJ ryy.1 ≤ 20000000 := HZyy.out
  refine (spoil_calls _ ryy w24 (fun k => (byy ≤ k ∧ k < eyy) ∧ k < w24.heap.size) (fun k h => h.2) (JV.spo (HJyy.out.mono (fun k hk hs => ⟨hs, hk⟩)) (fun h => by have h1 := h.1.1; have h2 := HSxx.out; have h3 := HSyy.out; have h5 := HXY.out; omega) _ (Nat.le_refl _) hzs)).mono ?_
  rintro e w25 ⟨rfl, hz⟩
  have hap := hz.apart
  have hb : Below w6.heap.size w6 w25 := HBX.out.trans (hap.below HBX.out.size (fun i hi h => by have h1 := h.1.1; have h2 := HSxx.out; have h3 := HSyy.out; have h5 := HXY.out; omega))
  have HF := hid (HF0.out.step hb)
  have HKM := hid (HKM0.out.bel hb)
  have HVM := hid (HVM0.out.below hb)
  have HJM := hid (HJM0.out.bel hb)
  have HBM := hid (HBM0.out.trans (hb.mono HBM0.out.size))
  have HBX := hid hb
  have HJA := hid (HJA.out.apart hap (fun k hk _ e => by have h0 : gA < k := hk; have h1 := e.1.2; have h2 := HYA.out; have h3 := HSyy.out; have h5 := HXY.out; omega))
  have HWA := hid (HWA.out.apart hap (fun e => by have h1 := e.1.2; have h2 := HYA.out; have h3 := HSyy.out; have h5 := HXY.out; omega))
  clear hz hap h4 hzs hb
  go_wp2_with (first | refine wpList_loadJ rfl _ rfl rm HVM.out rfl ?_ | refine wpList_loadJ rfl _ rfl r0 HF.out.v rfl ?_)
  refine (kept_calls HKM.out _ r0 w25 (Below.refl _ _) HF.out.j HRM.out HZM.out).mono ?_
  rintro e w26 ⟨rfl, hb⟩
  replace HF := hid (HF.out.step hb)
  replace HKM := hid (HKM.out.bel hb)
  replace HVM := hid (HVM.out.below hb)
  replace HJA := hid (HJA.out.bel hb)
  replace HWA := hid (HWA.out.below hb)
  replace HJM := hid (HJM.out.bel hb)
  replace HBM := hid (HBM.out.trans (hb.mono HBM.out.size))
  clear hb
  go_wp2_with (refine wpList_loadJ rfl _ rfl rm HVM.out rfl ?_)
  have h4 := HFm.out.env.errs.lt
  refine (spoil_calls _ rm w26 (fun k => (bm ≤ k ∧ k < em) ∧ k < w26.heap.size) (fun k h => h.2) (JV.spo (HJM.out.mono (fun k hk hs => ⟨hs, hk⟩)) (fun h => by have h1 := h.1.1; have h2 := HSM.out.1; omega) _ (Nat.le_refl _) HZM.out)).mono ?_
  rintro e w27 ⟨rfl, hz⟩
  have hap := hz.apart
  have hb : Below w1.heap.size w1 w27 := HBM.out.trans (hap.below HBM.out.size (fun i hi h => by have h1 := h.1.1; have h2 := HSM.out.1; omega))
  have HF := hid (HFm.out.step hb)
  have HOR : Hid (em ≤ gA) := hid (by have h1 := HMX.out; have h2 := HSxx.out.2.2; have h3 := HXY.out; have h5 := HSyy.out.2.2; have h6 := HYA.out; omega)
  have HJA := hid (HJA.out.apart hap (fun k hk _ e => by have h0 : gA < k := hk; have h1 := e.1.2; have h2 := HOR.out; omega))
  have HWA := hid (HWA.out.apart hap (fun e => by have h1 := e.1.2; have h2 := HOR.out; omega))
  have HAR : Hid (rA.1 = r0.1) := hid (by rw [HRA.out, allV, if_pos HC.out])
  clear hz hap h4 hb
  have a1 := HF.out.a1
  go_wp2_with (refine wpList_loadJ rfl _ rfl r0 HF.out.v rfl ?_)
  clear a1
  refine (goes_calls (r1 := r0) HF.out.j HF.out.env.tab w27 (Below.refl _ _) HG.out HZ0.out (gA := gA) (fun W n0 m h1 h2 h3 => by
   have h := all1_hands HWA.out HJA.out HF.out.env.tab (by rw [HAR.out]; exact HG.out) (by rw [HAR.out]; exact HZ0.out) n0 W h1 h2 h3 m
   rw [HAR.out] at h
   exact h) lv).mono ?_
  rintro e w28 ⟨rfl, hb⟩
  replace HF := hid (HF.out.step hb)
  replace HJA := hid (HJA.out.bel hb)
  replace HWA := hid (HWA.out.below hb)
  clear hb
  have k0 : w28.cell? ⟨g0, 0, none⟩ = some (.int .i64 r0.1.kind) := HF.out.v.cell 0 _ rfl
  have k1 : w28.cell? ⟨g0, 1, none⟩ = some (.bool r0.1.b) := HF.out.v.cell 1 _ rfl
  have k2 : w28.cell? ⟨g0, 2, none⟩ = some (.bool r0.1.n.neg) := HF.out.v.cell 2 _ rfl
  have k3 : w28.cell? ⟨g0, 3, none⟩ = some (.string ⟨r0.1.n.digits.toArray⟩) := HF.out.v.cell 3 _ rfl
  have k4 : w28.cell? ⟨g0, 4, none⟩ = some (.int .i64 r0.1.n.exp) := HF.out.v.cell 4 _ rfl
  have k5 : w28.cell? ⟨g0, 5, none⟩ = some (.string ⟨r0.1.t.toArray⟩) := HF.out.v.cell 5 _ rfl
  have k6 : w28.cell? ⟨g0, 6, none⟩ = some (r0.2.1) := HF.out.v.cell 6 _ rfl
  have k7 : w28.cell? ⟨g0, 7, none⟩ = some (r0.2.2) := HF.out.v.cell 7 _ rfl
  go_wp2_with fail
  refine (goes_calls (r1 := r0) HF.out.j HF.out.env.tab w28 (Below.refl _ _) HG.out HZ0.out (gA := gA) (fun W n0 m h1 h2 h3 => by
   have h := all1_hands HWA.out HJA.out HF.out.env.tab (by rw [HAR.out]; exact HG.out) (by rw [HAR.out]; exact HZ0.out) n0 W h1 h2 h3 m
   rw [HAR.out] at h
   exact h) 0).mono ?_
  rintro e w29 ⟨rfl, hb⟩
  replace HF := hid (HF.out.step hb)
  replace HJA := hid (HJA.out.bel hb)
  replace HWA := hid (HWA.out.below hb)
  clear hb
  clear k0 k1 k2 k3 k4 k5 k6 k7
  go_wp2_with fail
  refine (works_calls w29 HF.out.env).mono ?_
  rintro e w30 ⟨rfl, hb⟩
  replace HF := hid (HF.out.step hb)
  replace HJA := hid (HJA.out.bel hb)
  replace HWA := hid (HWA.out.below hb)
  clear hb
  go_wp2_with fail
  go_ret
  exact ⟨rfl, HF.out.be⟩
end Go.Proofs.YtfclfaidmipjpaaGreatDoor
