/- Texts of this claim, joined: Chk, Sor, Stp. -/
import Derived.Test.YtfclfaidmipjpaaGreatDoorCo14
namespace Go.Proofs.YtfclfaidmipjpaaGreatDoor
set_option maxRecDepth 100000
set_option maxHeartbeats 20000000
open Go.Lib (hid)
open Go.RowKit
theorem FB.base {w : World} {B B' : Nat} {v : Value} {l : List UInt8} (h : FB w B v l) (hB : B' ≤ B) : FB w B' v l := by
 refine ⟨h.1, ?_⟩
 rcases h.2 with hn | ⟨g', cap, cur, fz, hv, hbg, rest⟩
 ·exact .inl hn
 exact .inr ⟨g', cap, cur, fz, hv, Nat.le_trans hB hbg, rest⟩
theorem textS_len (n : Dec) : (textS n).1.length ≤ 300 := by
 unfold textS
 split
 ·rename_i h; exact (text_back h).2
 exact Nat.zero_le _
mutual
theorem told_sz : (v : J) → goodJ v = true → (toldJ v).length + 10 ≤ 320 * szJ v
 | .mk k b n t l ns, h => by
  simp only [toldJ, szJ]
  split
  ·simp [wNul]; omega
  split
  ·cases b <;> simp [boolS] <;> omega
  split
  ·have h1 : (textS n).1.length ≤ 300 := textS_len n
   omega
  split
  ·have := quoT_len t; omega
  have hl : goodL l = true := by simp only [goodJ, Bool.and_eq_true] at h; exact h.2
  have h2 := told_szL l hl (decide (k = 5)) true ns
  have h3 : ∀ a b : List UInt8, a.length = 1 → b.length = 1 → (a ++ toldL (decide (k = 5)) true l ns ++ b).length + 10 ≤ 320 * (1 + t.length + n.digits.length + szN ns + szL l) := fun a b ha hb => by
   simp only [List.length_append, ha, hb]; omega
  split
  ·exact h3 _ _ rfl rfl
  exact h3 _ _ rfl rfl
theorem told_szL : (l : List J) → goodL l = true → ∀ (obj f : Bool) (ns : List (List UInt8)), (toldL obj f l ns).length ≤ 320 * szL l + 320 * szN ns
 | [], _, obj, f, ns => by simp [toldL]
 | x :: l, h, obj, f, ns => by
  rw [goodL, Bool.and_eq_true] at h
  have h1 := told_sz x h.1
  have h2 := told_szL l h.2 obj false ns.tail
  rw [toldL]
  simp only [List.length_append, szL]
  have h3 : (if f = true then ([] : List UInt8) else [44]).length ≤ 1 := by split <;> simp
  cases ns with
  | nil =>
   have h4 : (if obj = true then quoT (([] : List (List UInt8)).headD []) ++ [58] else []).length ≤ 3 := by
    split
    ·have := quoT_len []; simp at this ⊢; omega
    simp
   simp only [List.tail_nil, szN, List.map_nil, List.sum_nil] at h2 ⊢
   omega
  | cons u ns =>
   have h4 : (if obj = true then quoT ((u :: ns).headD []) ++ [58] else []).length ≤ 6 * u.length + 3 := by
    split
    ·have := quoT_len u; simp at this ⊢; omega
    simp
   have h5 : szN (u :: ns) = u.length + 1 + szN ns := by simp [szN]
   rw [List.tail_cons] at h2 ⊢
   omega
end
def checkJ (v : J) : Int := if goodJ v = false then 2 else if 64 < deepJ v then 182 else if 1048576 < (toldJ v).length then 3 else 0
theorem checkJ_zero {v : J} : checkJ v = 0 ↔ goodJ v = true ∧ deepJ v ≤ 64 ∧ (toldJ v).length ≤ 1048576 := by
 unfold checkJ
 cases goodJ v
 ·simp
 rw [if_neg (by simp)]
 by_cases h : 64 < deepJ v
 ·rw [if_pos h]; simp; omega
 rw [if_neg h]
 by_cases h2 : 1048576 < (toldJ v).length
 ·rw [if_pos h2]; simp; omega
 rw [if_neg h2]; simp; omega
theorem checkJ_calls {w0 : World} {S1 : Nat → Prop} {r1 : JR} (h1 : JV w0 S1 r1) (hTab : Tab w0) (hT : Lib.Utf8Tabs 0 1 w0) (w : World) (hb : Below w0.heap.size w0 w) (hsz : szJ r1.1 ≤ 20000000) :
  Calls Tryz.prog 28 #[jval r1] w fun e w' => e = .returned (.int .i64 (checkJ r1.1)) ∧ Below w.heap.size w w' := by
 have HB := hid hb
 have HSZ := hid hsz
 have HTL := hid (tabsLt hT)
 clear hb hsz
 go_enter Tryz.func28, Tryz.ntmps28
 go_upto_region 1 with (refine wpList_boxJ rfl _ rfl r1 rfl ?_; intro w1 hBx)
 have HV1 := hid hBx.row
 have HB1 := hid hBx.be
 have HW1 : Hid (Below w0.heap.size w0 w1) := hid (hBx.below HB.out HB.out.size)
 obtain ⟨g1, hg1⟩ : ∃ g, w.heap.size = g := ⟨_, rfl⟩
 rw [hg1] at HV1 ⊢
 clear hBx hg1
 go_wp2_with (refine wpList_loadJ rfl _ rfl r1 HV1.out rfl ?_)
 refine (may_calls h1 w1 HW1.out (tabsB hT HW1.out HTL.out.1 HTL.out.2) (by have := HSZ.out; omega)).mono ?_
 rintro e w2 ⟨rfl, hb2⟩
 have HV2 := hid (HV1.out.below hb2)
 have HB2 := hid (HB1.out.trans (hb2.mono HB1.out.size))
 have HW2 := hid (HW1.out.trans (hb2.mono HW1.out.size))
 clear hb2 HV1 HB1 HW1
 obtain ⟨d, hd⟩ : ∃ d, deepJ r1.1 = d := ⟨_, rfl⟩
 obtain ⟨gd, hgd⟩ : ∃ q, goodJ r1.1 = q := ⟨_, rfl⟩
 have HCK : Hid (checkJ r1.1 = if gd = false then 2 else if 64 < d then 182 else if 1048576 < (toldJ r1.1).length then 3 else 0) := hid (by unfold checkJ; rw [hgd, hd])
 have HGD := hid hgd
 rw [hd, hgd]
 clear hd hgd
 cases gd with
 | false =>
  go_wp2_with fail
  go_ret
  exact ⟨by rw [HCK.out]; rfl, HB2.out⟩
 | true =>
  by_cases h64 : 64 < d
  ·have h64i : (64 : Int) < (d : Int) := by omega
   go_wp2_with fail
   go_ret
   exact ⟨by rw [HCK.out, if_neg (by simp), if_pos h64]; rfl, HB2.out⟩
  have h64i : ¬ (64 : Int) < (d : Int) := by omega
  go_wp2_with (refine wpList_loadJ rfl _ rfl r1 HV2.out rfl ?_)
  refine (told_calls h1 w2.heap.size HW2.out.size hTab w2 _ [] HW2.out (FB.nil _ _) (Nat.le_refl _) HGD.out (by have := HSZ.out; omega) (by have := told_sz r1.1 HGD.out; have := HSZ.out; simp only [List.length_nil]; omega)).mono ?_
  rintro e w3 ⟨v3, rfl, hF3, hB3, hO3⟩
  rw [List.nil_append] at hF3
  obtain ⟨p, c, rfl⟩ := hF3.slice
  have HB3 := hid (HB2.out.trans (hB3.mono HB2.out.size))
  clear hF3 hB3 hO3 HV2
  obtain ⟨m, hm⟩ : ∃ m, (toldJ r1.1).length = m := ⟨_, rfl⟩
  rw [hm] at HCK ⊢
  clear hm
  by_cases hl : 1048576 < m
  ·have hli : (1048576 : Int) < (m : Int) := by omega
   have HL := hid hl
   clear hl
   go_wp2_with fail
   go_ret
   exact ⟨by rw [HCK.out, if_neg (by simp), if_neg h64, if_pos HL.out]; rfl, HB3.out⟩
  have hli : ¬ (1048576 : Int) < (m : Int) := by omega
  have HL := hid hl
  clear hl
  go_wp2_with fail
  go_ret
  exact ⟨by rw [HCK.out, if_neg (by simp), if_neg h64, if_neg HL.out]; rfl, HB3.out⟩
def printJ (v : J) : List UInt8 := if checkJ v = 0 then toldJ v else []
theorem printJ_calls {w0 : World} {S1 : Nat → Prop} {r1 : JR} (h1 : JV w0 S1 r1) (hTab : Tab w0) (hT : Lib.Utf8Tabs 0 1 w0) (w : World) (hb : Below w0.heap.size w0 w) (hsz : szJ r1.1 ≤ 20000000) :
  Calls Tryz.prog 35 #[jval r1] w fun e w' => ∃ v', e = .returned v' ∧ FB w' w.heap.size v' (printJ r1.1) ∧ Below w.heap.size w w' := by
 have HB := hid hb
 have HSZ := hid hsz
 have HTL := hid (tabsLt hT)
 clear hb hsz
 go_enter Tryz.func35, Tryz.ntmps35
 go_upto_region 1 with (refine wpList_boxJ rfl _ rfl r1 rfl ?_; intro w1 hBx)
 have HV1 := hid hBx.row
 have HB1 := hid hBx.be
 have HW1 : Hid (Below w0.heap.size w0 w1) := hid (hBx.below HB.out HB.out.size)
 obtain ⟨g1, hg1⟩ : ∃ g, w.heap.size = g := ⟨_, rfl⟩
 rw [hg1] at HV1 ⊢
 clear hBx hg1
 go_wp2_with (refine wpList_loadJ rfl _ rfl r1 HV1.out rfl ?_)
 refine (checkJ_calls h1 hTab hT w1 HW1.out HSZ.out).mono ?_
 rintro e w2 ⟨rfl, hb2⟩
 have HV2 := hid (HV1.out.below hb2)
 have HB2 := hid (HB1.out.trans (hb2.mono HB1.out.size))
 have HW2 := hid (HW1.out.trans (hb2.mono HW1.out.size))
 clear hb2 HV1 HB1 HW1
 obtain ⟨c, hc⟩ : ∃ c, checkJ r1.1 = c := ⟨_, rfl⟩
 have HC := hid hc
 rw [hc]
 clear hc
 by_cases hc0 : c = 0
 ·subst hc0
  go_wp2_with (refine wpList_loadJ rfl _ rfl r1 HV2.out rfl ?_)
  have hgd := (checkJ_zero.1 HC.out).1
  refine (told_calls h1 w2.heap.size HW2.out.size hTab w2 _ [] HW2.out (FB.nil _ _) (Nat.le_refl _) hgd (by have := HSZ.out; omega) (by have := told_sz r1.1 hgd; have := HSZ.out; simp only [List.length_nil]; omega)).mono ?_
  rintro e w3 ⟨v3, rfl, hF3, hB3, hO3⟩
  rw [List.nil_append] at hF3
  have HF3 := hid (hF3.base (B' := w.heap.size) HB2.out.size)
  have HB3 := hid (HB2.out.trans (hB3.mono HB2.out.size))
  clear hF3 hB3 hO3 HV2 hgd
  go_wp2_with fail
  go_ret
  exact ⟨v3, rfl, by rw [printJ, if_pos HC.out]; exact HF3.out, HB3.out⟩
 ·have n0 : ((c : Int) == 0) = false := by rw [beq_eq_false_iff_ne]; exact hc0
  go_wp2_with fail
  go_ret
  exact ⟨_, rfl, by rw [printJ, if_neg (by rw [HC.out]; exact hc0)]; exact FB.nil _ _, HB2.out⟩
open Go.RowKit
def sortedV (v : J) : J := if checkJ v = 0 then sortJ v else J.zero
theorem JV.zero (w : World) (S : Nat → Prop) : JV w S jzero := JV.leaf w S 0 false Dec.zero []
theorem sortedJ_calls {w0 : World} {S1 : Nat → Prop} {r1 : JR} (h1 : JV w0 S1 r1) (hTab : Tab w0) (hT : Lib.Utf8Tabs 0 1 w0) (w : World) (hb : Below w0.heap.size w0 w) (hsz : szJ r1.1 ≤ 20000000) :
  Calls Tryz.prog 39 #[jval r1] w (CopTo w (sortedV r1.1)) := by
 have HB := hid hb
 have HSZ := hid hsz
 clear hb hsz
 go_enter Tryz.func39, Tryz.ntmps39
 go_upto_region 1 with (first | (refine wpList_boxJ rfl _ rfl r1 rfl ?_; intro w1 hBx) | (refine wpList_allocJ rfl rfl ?_; intro w2 hBy))
 have HV1 := hid (hBx.row.below hBy.be)
 have HR1 := hid hBy.row
 have HB1 : Hid (Below w.heap.size w w2) := hid (hBy.below hBx.be hBx.be.size)
 have HW1 : Hid (Below w0.heap.size w0 w2) := hid (HB.out.trans (HB1.out.mono HB.out.size))
 have hz := hBx.size
 obtain ⟨g1, hg1⟩ : ∃ g, w.heap.size = g := ⟨_, rfl⟩
 obtain ⟨g2, hg2⟩ : ∃ g, w1.heap.size = g := ⟨_, rfl⟩
 have HG : Hid (w.heap.size = g1 ∧ g2 = g1 + 1) := hid ⟨hg1, by omega⟩
 rw [hg1] at HV1 ⊢
 rw [hg2] at HR1 ⊢
 clear hBx hBy hg1 hg2 hz
 go_wp2_with (refine wpList_loadJ rfl _ rfl r1 HV1.out rfl ?_)
 refine (checkJ_calls h1 hTab hT w2 HW1.out HSZ.out).mono ?_
 rintro e w3 ⟨rfl, hb2⟩
 have HV2 := hid (HV1.out.below hb2)
 have HR2 := hid (HR1.out.below hb2)
 have HB2 := hid (HB1.out.trans (hb2.mono HB1.out.size))
 have HW2 := hid (HW1.out.trans (hb2.mono HW1.out.size))
 clear hb2 HV1 HB1 HW1 HR1
 obtain ⟨c, hc⟩ : ∃ c, checkJ r1.1 = c := ⟨_, rfl⟩
 have HC := hid hc
 rw [hc]
 clear hc
 by_cases hc0 : c = 0
 ·subst hc0
  have HSV : Hid (sortedV r1.1 = cpJ true r1.1) := hid (by rw [sortedV, if_pos HC.out]; rfl)
  go_wp2_with (refine wpList_loadJ rfl _ rfl r1 HV2.out rfl ?_)
  refine (copied_calls h1 true w3 HW2.out (checkJ_zero.1 HC.out).1 (by have := HSZ.out; omega)).mono ?_
  rintro e w4 ⟨lv, nv, rfl, hJ, hb4⟩
  have HR4 := hid (HR2.out.below hb4)
  have HJ := hid hJ
  have HSL := hid hJ.slJ
  have HB4 := hid hb4
  have HR2L : Hid (g2 < w3.heap.size) := hid HR2.out.lt
  clear hJ hb4 HV2 HR2
  go_wp2_with (first | with_reducible refine stop_ret ?_ | (refine wpList_storeJ rfl _ _ rfl rfl HR4.out rfl (cpJ true r1.1, lv, nv) HSL.out rfl rfl ?_; intro wS hSx))
  refine hid ?_
  refine bodyPost_retJ (cpJ true r1.1, lv, nv) rfl rfl rfl hSx.row ?_
  have h9 := HR2L.out
  exact ⟨lv, nv, by rw [HSV.out], by rw [HSV.out]; exact (HJ.out.apart hSx.apart (fun k hk _ e => by omega)).mono (fun k _ hk => by have := HB2.out.size; omega), hSx.below (HB2.out.trans (HB4.out.mono HB2.out.size)) (by have := HG.out; omega) (by have := HB2.out.size; have := HB4.out.size; omega)⟩
 ·have n0 : ((c : Int) == 0) = false := by rw [beq_eq_false_iff_ne]; exact hc0
  have HSV : Hid (sortedV r1.1 = J.zero) := hid (by rw [sortedV, if_neg (by rw [HC.out]; exact hc0)])
  go_wp2_with (first | with_reducible refine stop_ret ?_ | (refine wpList_storeJ rfl _ _ rfl rfl HR2.out rfl jzero slJ_zero rfl rfl ?_; intro wS hSx))
  refine hid ?_
  refine bodyPost_retJ jzero rfl rfl rfl hSx.row ?_
  exact ⟨.slice none 0 0, .slice none 0 0, by rw [HSV.out]; rfl, by rw [HSV.out]; exact JV.zero _ _, hSx.below HB2.out (by have := HG.out; omega) HB2.out.size⟩
def allV (v : J) : J := if checkJ v = 0 then v else J.zero
def AllTo (w : World) (v : J) (e : Ending) (w' : World) : Prop := ∃ g lv nv, e = .returned (.func (.func 60) #[] #[.pointer (some ⟨g, 0, none⟩)]) ∧ w.heap.size ≤ g ∧ RowAt w' g (jcells (v, lv, nv)) ∧ JV w' (fun k => g < k) (v, lv, nv) ∧ Below w.heap.size w w'
theorem allJ_calls {w0 : World} {S1 : Nat → Prop} {r1 : JR} (h1 : JV w0 S1 r1) (hTab : Tab w0) (hT : Lib.Utf8Tabs 0 1 w0) (w : World) (hb : Below w0.heap.size w0 w) (hsz : szJ r1.1 ≤ 20000000) :
  Calls Tryz.prog 21 #[jval r1] w (AllTo w (allV r1.1)) := by
 have HB := hid hb
 have HSZ := hid hsz
 clear hb hsz
 go_enter Tryz.func21, Tryz.ntmps21
 go_upto_region 1 with (refine wpList_boxJ rfl _ rfl r1 rfl ?_; intro w2 hBx)
 have HV1 := hid hBx.row
 have HB1 : Hid (Below w.heap.size w w2) := hid hBx.be
 have HW1 : Hid (Below w0.heap.size w0 w2) := hid (HB.out.trans (HB1.out.mono HB.out.size))
 obtain ⟨g1, hg1⟩ : ∃ g, w.heap.size = g := ⟨_, rfl⟩
 have HG : Hid (w.heap.size = g1) := hid hg1
 rw [hg1] at HV1 ⊢
 clear hBx hg1
 go_wp2_with (refine wpList_loadJ rfl _ rfl r1 HV1.out rfl ?_)
 refine (checkJ_calls h1 hTab hT w2 HW1.out HSZ.out).mono ?_
 rintro e w3 ⟨rfl, hb2⟩
 have HV2 := hid (HV1.out.below hb2)
 have HB2 := hid (HB1.out.trans (hb2.mono HB1.out.size))
 have HW2 := hid (HW1.out.trans (hb2.mono HW1.out.size))
 clear hb2 HV1 HB1 HW1
 obtain ⟨c, hc⟩ : ∃ c, checkJ r1.1 = c := ⟨_, rfl⟩
 have HC := hid hc
 rw [hc]
 clear hc
 by_cases hc0 : c = 0
 ·subst hc0
  have HSV : Hid (allV r1.1 = cpJ false r1.1) := hid (by rw [allV, if_pos HC.out]; rfl)
  go_wp2_with (refine wpList_loadJ rfl _ rfl r1 HV2.out rfl ?_)
  refine (copied_calls h1 false w3 HW2.out (checkJ_zero.1 HC.out).1 (by have := HSZ.out; omega)).mono ?_
  rintro e w4 ⟨lv, nv, rfl, hJ, hb4⟩
  have HR4 := hid (HV2.out.below hb4)
  have HJ := hid hJ
  have HSL := hid hJ.slJ
  have HB4 := hid hb4
  have HR2L : Hid (g1 < w3.heap.size) := hid HV2.out.lt
  clear hJ hb4 HV2
  go_wp2_with (refine wpList_storeJ rfl _ _ rfl rfl HR4.out rfl (cpJ false r1.1, lv, nv) HSL.out rfl rfl ?_; intro wS hSx)
  go_ret
  have h9 := HR2L.out
  exact ⟨g1, lv, nv, rfl, by have := HG.out; omega, by rw [HSV.out]; exact hSx.row, by rw [HSV.out]; exact (HJ.out.apart hSx.apart (fun k hk _ e => by omega)).mono (fun k _ hk => by omega), hSx.below (HB2.out.trans (HB4.out.mono HB2.out.size)) (by have := HG.out; omega) (by have := HB2.out.size; have := HB4.out.size; omega)⟩
 ·have n0 : ((c : Int) == 0) = false := by rw [beq_eq_false_iff_ne]; exact hc0
  have HSV : Hid (allV r1.1 = cpJ false J.zero) := hid (by rw [allV, if_neg (by rw [HC.out]; exact hc0)]; rfl)
  go_wp2_with (first | (refine wpList_storeJ rfl _ _ rfl rfl HV2.out rfl jzero slJ_zero rfl rfl ?_; intro wS hSx) | refine wpList_loadJ rfl _ rfl jzero hSx.row rfl ?_)
  have HVS := hid hSx.row
  have HBS := hid (hSx.below HB2.out (by have := HG.out; omega) HB2.out.size)
  clear hSx HV2
  refine (copied_calls (JV.zero wS (fun _ => True)) false wS (Below.refl _ _) rfl (by decide)).mono ?_
  rintro e w4 ⟨lv, nv, rfl, hJ, hb4⟩
  have HR4 := hid (HVS.out.below hb4)
  have HJ := hid hJ
  have HSL := hid hJ.slJ
  have HB4 := hid hb4
  have HR2L : Hid (g1 < wS.heap.size) := hid HVS.out.lt
  clear hJ hb4 HVS
  go_wp2_with (refine wpList_storeJ rfl _ _ rfl rfl HR4.out rfl (cpJ false J.zero, lv, nv) HSL.out rfl rfl ?_; intro wS2 hSx)
  go_ret
  have h9 := HR2L.out
  exact ⟨g1, lv, nv, rfl, by have := HG.out; omega, by rw [HSV.out]; exact hSx.row, by rw [HSV.out]; exact (HJ.out.apart hSx.apart (fun k hk _ e => by omega)).mono (fun k _ hk => by omega), hSx.below (HBS.out.trans (HB4.out.mono HBS.out.size)) (by have := HG.out; omega) (by have := HBS.out.size; have := HB4.out.size; omega)⟩
open Go.RowKit
structure Errs (w : World) : Prop where
 syn : ∃ ev, w.cell? ⟨3, 0, none⟩ = some ev ∧ (ev = .nilIface ∨ ∃ te pe, ev = .iface te pe)
 rng : ∃ ev, w.cell? ⟨4, 0, none⟩ = some ev ∧ (ev = .nilIface ∨ ∃ te pe, ev = .iface te pe)
 lt : 4 < w.heap.size
theorem Errs.below {w w' : World} {B : Nat} (h : Errs w) (hb : Below B w w') (hB : 4 < B) : Errs w' := by
 obtain ⟨⟨e1, h1, h2⟩, ⟨e3, h3, h4⟩, h5⟩ := h
 exact ⟨⟨e1, (hb.cell (p := ⟨3, 0, none⟩) (by show 3 < B; omega)).trans h1, h2⟩, ⟨e3, (hb.cell (p := ⟨4, 0, none⟩) (by show 4 < B; omega)).trans h3, h4⟩, Nat.lt_of_lt_of_le h5 hb.size⟩
theorem atoi_lt {l : List UInt8} {v : Int} (h : Lib.atoiAll l = .ok v) : -9223372036854775808 ≤ v ∧ v ≤ 9223372036854775807 := by
 unfold Lib.atoiAll at h
 cases l with
 | nil => cases h
 | cons c r =>
  simp only at h
  split at h
  ·cases h
  ·cases h
  rename_i u hu
  split at h
  ·cases h
  split at h
  ·cases h
  injection h with h
  subst h
  split <;> omega
def AtoiTo (u : List UInt8) (w : World) (e : Ending) (w' : World) : Prop := ∃ n er, e = .returned (.tuple #[.int .i64 n, er]) ∧ ((er = .nilIface ∧ Lib.atoiAll u = .ok n ∧ -9223372036854775808 ≤ n ∧ n ≤ 9223372036854775807) ∨ ((∃ T q, er = .iface T q) ∧ ∀ v, Lib.atoiAll u ≠ .ok v)) ∧ Below w.heap.size w w'
theorem atoi_calls (u : List UInt8) (w : World) (hE : Errs w) (hu : u.length ≤ 1000000000) : Calls Tryz.prog 95 #[.string ⟨u.toArray⟩] w (AtoiTo u w) := by
 have hz : (⟨u.toArray⟩ : ByteArray).size = u.length := by simp [ByteArray.size]
 rcases h : Lib.atoiAll u with v | _ | _
 ·skip
  refine (Tryz.strconv_Atoi_ok ⟨u.toArray⟩ (by rw [hz]; omega) v h w).mono ?_
  rintro e w' ⟨rfl, hw⟩
  refine ⟨v, _, rfl, .inl ⟨rfl, h, atoi_lt h⟩, ?_⟩
  rcases hw with rfl | ⟨t, rfl⟩
  ·exact Below.refl _ _
  exact bytesWorld_below _ _ _
 ·skip
  obtain ⟨ev, h1, h2⟩ := hE.syn
  refine (Any.strconv_Atoi_syntax Tryz.laysC172 ⟨u.toArray⟩ (by rw [hz]; omega) h ev w h1 h2).mono ?_
  rintro e w' ⟨N, rfl, _, _, hb⟩
  exact ⟨_, _, rfl, .inr ⟨⟨_, _, rfl⟩, fun v e => by rw [h] at e; cases e⟩, hb⟩
 skip
 obtain ⟨ev, h1, h2⟩ := hE.rng
 refine (Any.strconv_Atoi_range Tryz.laysC172 ⟨u.toArray⟩ (by rw [hz]; omega) h ev w h1 h2).mono ?_
 rintro e w' ⟨N, rfl, _, _, hb⟩
 exact ⟨_, _, rfl, .inr ⟨⟨_, _, rfl⟩, fun v e => by rw [h] at e; cases e⟩, hb⟩
def stepN (u : List UInt8) (m : Nat) : Option Nat := match Lib.atoiAll u with
 | .ok n => if Lib.itoa n = u ∧ 0 ≤ n ∧ n < (m : Int) then some n.toNat else none
 | _ => none
def stepJ (v : J) (u : List UInt8) : Option J := if v.kind = 5 then (if u ∈ v.ns then v.l[v.ns.idxOf u]? else none) else (stepN u v.l.length).bind (v.l[·]?)
def StepTo (w0 : World) (S : Nat → Prop) (v : J) (u : List UInt8) (w : World) (e : Ending) (w' : World) : Prop :=
 ((∃ r, stepJ v u = some r.1 ∧ r.1 ∈ v.l ∧ JV w0 S r ∧ e = .returned (.tuple #[jval r, .bool true])) ∨ (stepJ v u = none ∧ e = .returned (.tuple #[jval jzero, .bool false]))) ∧ Below w.heap.size w w'
theorem step_calls {w0 : World} {S1 : Nat → Prop} {r1 : JR} (h1 : JV w0 S1 r1) (hTab : Tab w0) (hE : Errs w0) (w : World) (hb : Below w0.heap.size w0 w) (hk5 : r1.1.kind = 5 → r1.1.ns.length = r1.1.l.length) (hsz : szJ r1.1 ≤ 100000000) (u : List UInt8) (hu : u.length ≤ 1000000000) :
  Calls Tryz.prog 57 #[jval r1, .string ⟨u.toArray⟩] w (StepTo w0 S1 r1.1 u w) := by
 cases h1 with
 | mk _ xs hn1 hl1 hs1 =>
  obtain ⟨⟨k, b, n, t, l, ns⟩, lv0, nv0⟩ := r1
  have hn0 := hn1
  obtain ⟨p1, c1, hp1, hc1, hm1, hL1⟩ := hl1
  change lv0 = Value.slice p1 l.length c1 at hp1
  obtain ⟨q1, e1, hq1, hcn1, hkm1, hN1⟩ := hn1
  change nv0 = Value.slice q1 ns.length e1 at hq1
  subst hp1 hq1
  simp only [J.l] at hm1 hL1 hc1
  simp only [J.ns] at hN1
  simp only [szJ] at hsz
  have hln : l.length ≤ 100000000 := by have := szL_len l; omega
  have hnn : ns.length ≤ 100000000 := by have := szN_len ns; omega
  change NamS w0 S1 (Value.slice q1 ns.length e1) ns at hn0
  change k = 5 → ns.length = l.length at hk5
  obtain ⟨R1, hR1⟩ : ∃ R : JR, ((J.mk k b n t l ns, Value.slice p1 l.length c1, Value.slice q1 ns.length e1) : JR) = R := ⟨_, rfl⟩
  have HCC : Hid (∀ (W : World) (g : Nat), RowAt W g (jcells R1) → RowAt W g [.int .i64 k, .bool b, .bool n.neg, .string ⟨n.digits.toArray⟩, .int .i64 n.exp, .string ⟨t.toArray⟩, .slice p1 l.length c1, .slice q1 ns.length e1]) := hid (fun W g h => by rw [← hR1] at h; exact h)
  have HR1 : Hid (R1.1 = J.mk k b n t l ns) := hid (by rw [← hR1])
  have HN0 := hid hn0
  have HB := hid hb
  have HK5 := hid hk5
  have HTB := hid hTab
  have HE := hid hE
  have HPIC : Hid (∀ (i : Nat) (hi : i < l.length), ∃ gl fl, p1 = some ⟨gl, fl, none⟩ ∧ ∃ x, l[i]? = some x ∧ JV w0 S1 (x, xs i) ∧ ∀ W, Below w0.heap.size w0 W → W.rangeAt gl (fl + i * 8) (jcells (x, xs i))) := hid (fun i hi => by
   obtain ⟨gl, fl, e, _, hgl, hcs⟩ := hL1 (by omega)
   refine ⟨gl, fl, e, l[i], List.getElem?_eq_getElem hi, hs1 i _ (List.getElem?_eq_getElem hi), fun W hW c v hc => ?_⟩
   have hc8 : c < 8 := (List.getElem?_eq_some_iff.1 hc).1
   rw [hW.cell (p := ⟨gl, fl + i * 8 + c, none⟩) hgl, hcs i _ (List.getElem?_eq_getElem hi) c hc8]; exact hc)
  have HST : Hid (stepJ R1.1 u = if k = 5 then (if u ∈ ns then l[ns.idxOf u]? else none) else (stepN u l.length).bind (l[·]?)) := hid (by rw [← hR1]; rfl)
  rw [hR1]
  clear hR1 hn0 hL1 hN1 hb hs1 hsz hcn1 hkm1 hc1 hm1 hk5 hTab hE
  have HRL : Hid (R1.1.l = l) := hid (by rw [HR1.out]; rfl)
  go_enter Tryz.func57, Tryz.ntmps57
  go_upto_region 1 with (first | (refine wpList_boxJ rfl _ rfl R1 rfl ?_; intro w1 hBx) | (refine wpList_allocJ rfl rfl ?_; intro w2 hBy))
  have HV := hid (hBx.row.below hBy.be)
  have HR := hid hBy.row
  have HW1 : Hid (Below w.heap.size w w2) := hid (hBy.below hBx.be hBx.be.size)
  have HW : Hid (Below w0.heap.size w0 w2) := hid (HB.out.trans (HW1.out.mono HB.out.size))
  have hz := hBx.size
  obtain ⟨g1, hg1⟩ : ∃ g, w.heap.size = g := ⟨_, rfl⟩
  obtain ⟨g2, hg2⟩ : ∃ g, w1.heap.size = g := ⟨_, rfl⟩
  have HG : Hid (w.heap.size = g1 ∧ g2 = g1 + 1) := hid ⟨hg1, by omega⟩
  rw [hg1] at HV ⊢
  rw [hg2] at HR ⊢
  clear hBx hBy hg1 hg2 hz
  have k0 : _ = some (Value.int .i64 k) := (HCC.out _ _ HV.out).cell 0 _ rfl
  by_cases h5 : k = 5
  ·
   subst h5
   have HKL : Hid (ns.length = l.length) := hid (HK5.out rfl)
   have HS5 : Hid (stepJ R1.1 u = if u ∈ ns then l[ns.idxOf u]? else none) := hid (by rw [HST.out, if_pos rfl])
   clear HST
   have k7 : _ = some (Value.slice q1 ns.length e1) := (HCC.out _ _ HV.out).cell 7 _ rfl
   go_wp2_with fail
   refine (index_calls (HN0.out.below HW.out) (by omega) u).mono ?_
   rintro e wq ⟨rfl, rfl⟩
   clear k0 k7
   by_cases hm : u ∈ ns
   ·
    rw [if_pos hm]
    have hil : ns.idxOf u < l.length := by rw [← HKL.out]; exact List.idxOf_lt_length_iff.2 hm
    have HS0 : Hid (stepJ R1.1 u = l[ns.idxOf u]?) := hid (by rw [HS5.out, if_pos hm])
    obtain ⟨i, hi⟩ : ∃ i, ns.idxOf u = i := ⟨_, rfl⟩
    rw [hi] at hil HS0 ⊢
    clear hi hm
    obtain ⟨gl, fl, rfl, x, hx, hJx, hra⟩ := HPIC.out _ hil
    have HX := hid hx
    have HJ := hid hJx
    have hra0 := hra _ HW.out
    have HSJ := hid hJx.slJ
    have hili : ((i : Nat) : Int) < (l.length : Int) := by omega
    clear hx hJx hra
    have k6 : _ = some (Value.slice (some ⟨gl, fl, none⟩) l.length c1) := (HCC.out _ _ HV.out).cell 6 _ rfl
    have hneg : ¬ (i : Int) < 0 := by omega
    go_wp2_with (first | with_reducible refine stop_ret ?_ | refine wpList_loadMd rfl _ rfl (x, xs i) hra0 rfl ?_ | (refine wpList_storeJ rfl _ _ rfl rfl HR.out rfl (x, xs i) HSJ.out rfl rfl ?_; intro wS hSx))
    refine hid ?_
    refine bodyPost_retJt (x, xs i) rfl rfl rfl rfl hSx.row ?_
    exact ⟨.inl ⟨(x, xs i), by rw [HS0.out]; exact HX.out, by rw [HRL.out]; exact List.mem_of_getElem? HX.out, HJ.out, rfl⟩, hSx.below HW1.out (by have := HG.out; omega) HW1.out.size⟩
   rw [if_neg hm]
   have HS0 : Hid (stepJ R1.1 u = none) := hid (by rw [HS5.out, if_neg hm])
   go_wp2_with (first | with_reducible refine stop_ret ?_ | (refine wpList_storeJ rfl _ _ rfl rfl HR.out rfl jzero slJ_zero rfl rfl ?_; intro wS hSx))
   refine hid ?_
   refine bodyPost_retJt jzero rfl rfl rfl rfl hSx.row ?_
   exact ⟨.inr ⟨HS0.out, rfl⟩, hSx.below HW1.out (by have := HG.out; omega) HW1.out.size⟩
  have n5 : ((k : Int) == 5) = false := by rw [beq_eq_false_iff_ne]; exact h5
  have HS1 : Hid (stepJ R1.1 u = (stepN u l.length).bind (l[·]?)) := hid (by rw [HST.out, if_neg h5])
  go_wp2_with fail
  refine (atoi_calls u w2 (HE.out.below HW.out HE.out.lt) hu).mono ?_
  rintro e w3 ⟨m, er, rfl, hat, hb3⟩
  have HV3 := hid (HV.out.below hb3)
  have HR3 := hid (HR.out.below hb3)
  have HW3 := hid (HW1.out.trans (hb3.mono HW1.out.size))
  have HWW := hid (HW.out.trans (hb3.mono HW.out.size))
  clear k0 hb3 HV HR HW HW1
  rcases hat with ⟨rfl, hat, hlo, hhi⟩ | ⟨⟨T, q, rfl⟩, hat⟩
  rotate_left
  ·
   have HS0 : Hid (stepJ R1.1 u = none) := hid (by rw [HS1.out]; unfold stepN; split; (rename_i v hv; exact absurd hv (hat v)); rfl)
   go_wp2_with (first | with_reducible refine stop_ret ?_ | (refine wpList_storeJ rfl _ _ rfl rfl HR3.out rfl jzero slJ_zero rfl rfl ?_; intro wS hSx))
   refine hid ?_
   refine bodyPost_retJt jzero rfl rfl rfl rfl hSx.row ?_
   exact ⟨.inr ⟨HS0.out, rfl⟩, hSx.below HW3.out (by have := HG.out; omega) HW3.out.size⟩
  have HSN : Hid (stepJ R1.1 u = if Lib.itoa m = u ∧ 0 ≤ m ∧ m < (l.length : Int) then l[m.toNat]? else none) := hid (by rw [HS1.out]; unfold stepN; rw [hat]; simp only; split <;> rfl)
  clear hat
  go_wp2_with fail
  refine (Tryz.strconv_Itoa m hlo hhi w3 (HTB.out.below HWW.out)).mono ?_
  rintro e w4 ⟨rfl, kd, os, rfl⟩
  have HBG := hid (below_grow w3 kd os)
  have HV4 := hid (HV3.out.below HBG.out)
  have HR4 := hid (HR3.out.below HBG.out)
  have HW4 := hid (HW3.out.trans (HBG.out.mono HW3.out.size))
  have HW := hid (HWW.out.trans (HBG.out.mono HWW.out.size))
  clear HBG HV3 HR3 HW3 HWW
  generalize Sort.grow (w3.drewN kd) os = w4 at *
  have HV := HV4
  have HR := HR4
  obtain ⟨it, hit⟩ : ∃ x, Lib.itoa m = x := ⟨_, rfl⟩
  rw [hit] at HSN ⊢
  clear hit
  by_cases hiu : it = u
  ·
   subst hiu
   by_cases hm0 : m < 0
   ·
    have HS0 : Hid (stepJ R1.1 it = none) := hid (by rw [HSN.out, if_neg (by omega)])
    go_wp2_with (first | with_reducible refine stop_ret ?_ | (refine wpList_storeJ rfl _ _ rfl rfl HR4.out rfl jzero slJ_zero rfl rfl ?_; intro wS hSx))
    refine hid ?_
    refine bodyPost_retJt jzero rfl rfl rfl rfl hSx.row ?_
    exact ⟨.inr ⟨HS0.out, rfl⟩, hSx.below HW4.out (by have := HG.out; omega) HW4.out.size⟩
   obtain ⟨i, rfl⟩ : ∃ i : Nat, m = (i : Int) := ⟨m.toNat, by omega⟩
   by_cases hil : i < l.length
   ·
    have HS0 : Hid (stepJ R1.1 it = l[i]?) := hid (by rw [HSN.out, if_pos ⟨rfl, by omega, by omega⟩]; rfl)
    obtain ⟨gl, fl, rfl, x, hx, hJx, hra⟩ := HPIC.out _ hil
    have HX := hid hx
    have HJ := hid hJx
    have hra0 := hra _ HW.out
    have HSJ := hid hJx.slJ
    have hili : ((i : Nat) : Int) < (l.length : Int) := by omega
    clear hx hJx hra
    have k6 : _ = some (Value.slice (some ⟨gl, fl, none⟩) l.length c1) := (HCC.out _ _ HV.out).cell 6 _ rfl
    have hge : ¬ (l.length : Int) ≤ (i : Int) := by omega
    have hneg : ¬ (i : Int) < 0 := by omega
    go_wp2_with (first | with_reducible refine stop_ret ?_ | refine wpList_loadMd rfl _ rfl (x, xs i) hra0 rfl ?_ | (refine wpList_storeJ rfl _ _ rfl rfl HR4.out rfl (x, xs i) HSJ.out rfl rfl ?_; intro wS hSx))
    refine hid ?_
    refine bodyPost_retJt (x, xs i) rfl rfl rfl rfl hSx.row ?_
    exact ⟨.inl ⟨(x, xs i), by rw [HS0.out]; exact HX.out, by rw [HRL.out]; exact List.mem_of_getElem? HX.out, HJ.out, rfl⟩, hSx.below HW4.out (by have := HG.out; omega) HW4.out.size⟩
   have HS0 : Hid (stepJ R1.1 it = none) := hid (by rw [HSN.out, if_neg (by omega)])
   have k6 : _ = some (Value.slice p1 l.length c1) := (HCC.out _ _ HV4.out).cell 6 _ rfl
   have hge : (l.length : Int) ≤ (i : Int) := by omega
   have hneg : ¬ (i : Int) < 0 := by omega
   go_wp2_with (first | with_reducible refine stop_ret ?_ | (refine wpList_storeJ rfl _ _ rfl rfl HR4.out rfl jzero slJ_zero rfl rfl ?_; intro wS hSx))
   refine hid ?_
   refine bodyPost_retJt jzero rfl rfl rfl rfl hSx.row ?_
   exact ⟨.inr ⟨HS0.out, rfl⟩, hSx.below HW4.out (by have := HG.out; omega) HW4.out.size⟩
  have HS0 : Hid (stepJ R1.1 u = none) := hid (by rw [HSN.out, if_neg (fun h => hiu h.1)])
  have hne : (it == u) = false := by rw [beq_eq_false_iff_ne]; exact hiu
  go_wp2_with (first | with_reducible refine stop_ret ?_ | (refine wpList_storeJ rfl _ _ rfl rfl HR4.out rfl jzero slJ_zero rfl rfl ?_; intro wS hSx))
  refine hid ?_
  refine bodyPost_retJt jzero rfl rfl rfl rfl hSx.row ?_
  exact ⟨.inr ⟨HS0.out, rfl⟩, hSx.below HW4.out (by have := HG.out; omega) HW4.out.size⟩
end Go.Proofs.YtfclfaidmipjpaaGreatDoor
