/- Texts of this claim, joined: Lot. -/
import Derived.Test.YtfclfaidmipjpaaGreatDoorOt02
import Derived.Test.YtfclfaidmipjpaaGreatDoorOt03
import Derived.Test.YtfclfaidmipjpaaGreatDoorOt04
import Derived.Test.YtfclfaidmipjpaaGreatDoorOt06
import Derived.Test.YtfclfaidmipjpaaGreatDoorOt07
namespace Go.Proofs.YtfclfaidmipjpaaGreatDoor
set_option maxRecDepth 100000
set_option maxHeartbeats 20000000
open Go.RowKit
theorem wpList_buildJ2 {w : World} {ops : Array Oper} {rest : List Oper} {o : Oper} {a : Act} {Q : Exit → Act → World → Prop} (hgd : o.guard = none) (x y : Operand) (ho : o.op = .buildSlice 27 2 #[(0, x), (1, y)]) (r q : JR) (hx : a.eval x = jval r) (hy : a.eval y = jval q)
  (hK : ∀ w', RowsJ w' w.heap.size [r, q] → Below w.heap.size w w' → wpList Tryz.prog ops Q rest (a.put o.dst (.slice (some ⟨w.heap.size, 0, none⟩) 2 2)) w') : wpList Tryz.prog ops Q (o :: rest) a w := by
 refine wpList_plain hgd fun K hK' => ?_
 obtain ⟨i0, hi, hz0, hz1, hz2⟩ := info_parts Tryz.info30
 have hR := RowAt.new w (jcells r ++ jcells q).toArray 30
 refine wp_buildSlice _ 30 2 _ ho (jcells r ++ jcells q).toArray i0 _ Tryz.underlying27 hi hz0 (by rw [hz1]; decide) (by rw [hz1]; decide) ?_ (hK' _ _ (hK _ ⟨hR.lt, fun i s hs c v hc => ?_⟩ ((Below.refl _ _).alloc (Nat.le_refl _) _)))
 ·rw [hz1]
  simp only [List.map_toArray, List.map_cons, List.map_nil, hx, hy]
  have h8 : Array.range (2 * 8) = #[0, 1, 2, 3, 4, 5, 6, 7, 8, 9, 10, 11, 12, 13, 14, 15] := by decide
  rw [h8]
  simp [Instr.fill, jval, jcells, Value.cells]
 ·have hc8 : c < 8 := by have := (List.getElem?_eq_some_iff.1 hc).1; exact this
  refine hR.cell _ v ?_
  match i, hs with
  | 0, hs =>
   simp only [List.getElem?_cons_zero, Option.some.injEq] at hs
   subst hs
   show (jcells r ++ jcells q)[0 * 8 + c]? = some v
   rw [Nat.zero_mul, Nat.zero_add, List.getElem?_append_left (by exact hc8)]
   exact hc
  | 1, hs =>
   simp only [List.getElem?_cons_succ, List.getElem?_cons_zero, Option.some.injEq] at hs
   subst hs
   show (jcells r ++ jcells q)[1 * 8 + c]? = some v
   rw [List.getElem?_append_right (by show 8 ≤ _; omega), show 1 * 8 + c - (jcells r).length = c by show 1 * 8 + c - 8 = c; omega]
   exact hc
  | i + 2, hs => simp at hs
theorem jone_calls (w : World) (he : EnvJ w) (r0 r1 : JR) (hj0 : JV w (fun _ => True) r0) (hsz0 : szJ r0.1 ≤ 20000000) (hj1 : JV w (fun _ => True) r1) (hsz1 : szJ r1.1 ≤ 20000000) : Calls Tryz.prog 10 #[jval r0, jval r1] w fun e w' => e = .returned (.bool true) ∧ Below w.heap.size w w' := by
 have HE := Lib.hid he
 have HJ0 := Lib.hid hj0
 have HJ1 := Lib.hid hj1
 have HZ0 := Lib.hid hsz0
 have HZ1 := Lib.hid hsz1
 clear he hj0 hj1 hsz0 hsz1
 go_enter Tryz.func10, Tryz.ntmps10
 have HB : Hid (Below w.heap.size w w) := Lib.hid (Below.refl _ _)
 go_upto_region 1 with (first | (refine wpList_boxJ rfl _ rfl r0 rfl ?_; intro wb1 hBx1) | (refine wpList_boxJ rfl _ rfl r1 rfl ?_; intro wb2 hBx2))
 have hb : Below w.heap.size w wb2 := hBx2.below hBx1.be hBx1.be.size
 have h0 := hBx1.row.below hBx2.be
 have h1 := hBx2.row
 obtain ⟨g0, hg0⟩ : ∃ g, w.heap.size = g := ⟨_, rfl⟩
 obtain ⟨g1, hg1⟩ : ∃ g, wb1.heap.size = g := ⟨_, rfl⟩
 rw [hg0] at h0
 rw [hg1] at h1
 try rw [hg0]
 try rw [hg1]
 have HV0 := Lib.hid h0
 have HV1 := Lib.hid h1
 clear hBx1 hBx2 h0 h1 hg0 hg1
 replace HE := Lib.hid (HE.out.below hb (Nat.le_refl _))
 replace HJ0 := Lib.hid (HJ0.out.bel hb)
 replace HJ1 := Lib.hid (HJ1.out.bel hb)
 replace HB := Lib.hid (HB.out.trans (hb.mono HB.out.size))
 clear hb
 go_wp2_with (first | refine wpList_loadJ rfl _ rfl r0 HV0.out rfl ?_ | refine wpList_loadJ rfl _ rfl r1 HV1.out rfl ?_ | (refine wpList_buildJ2 rfl _ _ rfl r0 r1 rfl rfl ?_; intro w2 hrs hb))
 replace HE := Lib.hid (HE.out.below hb (Nat.le_refl _))
 replace HJ0 := Lib.hid (HJ0.out.bel hb)
 replace HJ1 := Lib.hid (HJ1.out.bel hb)
 replace HV0 := Lib.hid (HV0.out.below hb)
 replace HV1 := Lib.hid (HV1.out.below hb)
 replace HB := Lib.hid (HB.out.trans (hb.mono HB.out.size))
 clear hb
 refine (small_calls w2 _ [r0, r1] hrs (fun r hr => by rcases List.mem_cons.1 hr with rfl | hr; (exact ⟨_, HJ0.out⟩); rw [List.mem_singleton.1 hr]; exact ⟨_, HJ1.out⟩) (fun r hr => by rcases List.mem_cons.1 hr with rfl | hr; (exact HZ0.out); rw [List.mem_singleton.1 hr]; exact HZ1.out) (by simp)).mono ?_
 rintro e w3 ⟨bs, rfl, hb⟩
 clear hrs
 replace HE := Lib.hid (HE.out.below hb (Nat.le_refl _))
 replace HJ0 := Lib.hid (HJ0.out.bel hb)
 replace HJ1 := Lib.hid (HJ1.out.bel hb)
 replace HV0 := Lib.hid (HV0.out.below hb)
 replace HV1 := Lib.hid (HV1.out.below hb)
 replace HB := Lib.hid (HB.out.trans (hb.mono HB.out.size))
 clear hb
 cases bs with
 | false =>
  go_wp2_with fail
  refine (works_calls w3 HE.out).mono ?_
  rintro e w1 ⟨rfl, hb⟩
  replace HE := Lib.hid (HE.out.below hb (Nat.le_refl _))
  replace HJ0 := Lib.hid (HJ0.out.bel hb)
  replace HJ1 := Lib.hid (HJ1.out.bel hb)
  replace HV0 := Lib.hid (HV0.out.below hb)
  replace HV1 := Lib.hid (HV1.out.below hb)
  replace HB := Lib.hid (HB.out.trans (hb.mono HB.out.size))
  clear hb
  go_wp2_with fail
  go_ret
  exact ⟨rfl, HB.out⟩
 | true =>
  have k0 : w3.cell? ⟨g0, 0, none⟩ = some (.int .i64 r0.1.kind) := HV0.out.cell 0 _ rfl
  have k1 : w3.cell? ⟨g0, 1, none⟩ = some (.bool r0.1.b) := HV0.out.cell 1 _ rfl
  have k2 : w3.cell? ⟨g0, 2, none⟩ = some (.bool r0.1.n.neg) := HV0.out.cell 2 _ rfl
  have k3 : w3.cell? ⟨g0, 3, none⟩ = some (.string ⟨r0.1.n.digits.toArray⟩) := HV0.out.cell 3 _ rfl
  have k4 : w3.cell? ⟨g0, 4, none⟩ = some (.int .i64 r0.1.n.exp) := HV0.out.cell 4 _ rfl
  have k5 : w3.cell? ⟨g0, 5, none⟩ = some (.string ⟨r0.1.t.toArray⟩) := HV0.out.cell 5 _ rfl
  have k6 : w3.cell? ⟨g0, 6, none⟩ = some (r0.2.1) := HV0.out.cell 6 _ rfl
  have k7 : w3.cell? ⟨g0, 7, none⟩ = some (r0.2.2) := HV0.out.cell 7 _ rfl
  go_wp2_with fail
  refine (checkJ_calls (r1 := r0) HJ0.out HE.out.tab HE.out.utf w3 (Below.refl _ _) HZ0.out).mono ?_
  rintro e w2 ⟨rfl, hb⟩
  obtain ⟨c0, hc⟩ : ∃ c, checkJ r0.1 = c := ⟨_, rfl⟩
  have HC0 := Lib.hid hc
  rw [hc]
  clear hc
  clear k0 k1 k2 k3 k4 k5 k6 k7
  replace HE := Lib.hid (HE.out.below hb (Nat.le_refl _))
  replace HJ0 := Lib.hid (HJ0.out.bel hb)
  replace HJ1 := Lib.hid (HJ1.out.bel hb)
  replace HV0 := Lib.hid (HV0.out.below hb)
  replace HV1 := Lib.hid (HV1.out.below hb)
  replace HB := Lib.hid (HB.out.trans (hb.mono HB.out.size))
  clear hb
  go_wp2_with fail
  refine (num_calls _ w2).mono ?_
  rintro e wq9 ⟨rfl, rfl⟩
  by_cases hc : c0 = 0
  rotate_left
  ·
   have n0 : ((c0 : Int) == 0) = false := by rw [beq_eq_false_iff_ne]; exact hc
   have n1 : ((c0 : Int) != 0) = true := by rw [bne_iff_ne]; exact hc
   go_wp2_with fail
   refine (works_calls w2 HE.out).mono ?_
   rintro e w3 ⟨rfl, hb⟩
   replace HE := Lib.hid (HE.out.below hb (Nat.le_refl _))
   replace HJ0 := Lib.hid (HJ0.out.bel hb)
   replace HJ1 := Lib.hid (HJ1.out.bel hb)
   replace HV0 := Lib.hid (HV0.out.below hb)
   replace HV1 := Lib.hid (HV1.out.below hb)
   replace HB := Lib.hid (HB.out.trans (hb.mono HB.out.size))
   clear hb
   go_wp2_with fail
   go_ret
   exact ⟨rfl, HB.out⟩
  ·
   subst hc
   have k0 : w2.cell? ⟨g1, 0, none⟩ = some (.int .i64 r1.1.kind) := HV1.out.cell 0 _ rfl
   have k1 : w2.cell? ⟨g1, 1, none⟩ = some (.bool r1.1.b) := HV1.out.cell 1 _ rfl
   have k2 : w2.cell? ⟨g1, 2, none⟩ = some (.bool r1.1.n.neg) := HV1.out.cell 2 _ rfl
   have k3 : w2.cell? ⟨g1, 3, none⟩ = some (.string ⟨r1.1.n.digits.toArray⟩) := HV1.out.cell 3 _ rfl
   have k4 : w2.cell? ⟨g1, 4, none⟩ = some (.int .i64 r1.1.n.exp) := HV1.out.cell 4 _ rfl
   have k5 : w2.cell? ⟨g1, 5, none⟩ = some (.string ⟨r1.1.t.toArray⟩) := HV1.out.cell 5 _ rfl
   have k6 : w2.cell? ⟨g1, 6, none⟩ = some (r1.2.1) := HV1.out.cell 6 _ rfl
   have k7 : w2.cell? ⟨g1, 7, none⟩ = some (r1.2.2) := HV1.out.cell 7 _ rfl
   go_wp2_with fail
   refine (checkJ_calls (r1 := r1) HJ1.out HE.out.tab HE.out.utf w2 (Below.refl _ _) HZ1.out).mono ?_
   rintro e w4 ⟨rfl, hb⟩
   obtain ⟨c1, hc⟩ : ∃ c, checkJ r1.1 = c := ⟨_, rfl⟩
   have HC1 := Lib.hid hc
   rw [hc]
   clear hc
   clear k0 k1 k2 k3 k4 k5 k6 k7
   replace HE := Lib.hid (HE.out.below hb (Nat.le_refl _))
   replace HJ0 := Lib.hid (HJ0.out.bel hb)
   replace HJ1 := Lib.hid (HJ1.out.bel hb)
   replace HV0 := Lib.hid (HV0.out.below hb)
   replace HV1 := Lib.hid (HV1.out.below hb)
   replace HB := Lib.hid (HB.out.trans (hb.mono HB.out.size))
   clear hb
   go_wp2_with fail
   refine (num_calls _ w4).mono ?_
   rintro e wq9 ⟨rfl, rfl⟩
   by_cases hc : c1 = 0
   rotate_left
   ·
    have n0 : ((c1 : Int) == 0) = false := by rw [beq_eq_false_iff_ne]; exact hc
    have n1 : ((c1 : Int) != 0) = true := by rw [bne_iff_ne]; exact hc
    go_wp2_with fail
    refine (works_calls w4 HE.out).mono ?_
    rintro e w5 ⟨rfl, hb⟩
    replace HE := Lib.hid (HE.out.below hb (Nat.le_refl _))
    replace HJ0 := Lib.hid (HJ0.out.bel hb)
    replace HJ1 := Lib.hid (HJ1.out.bel hb)
    replace HV0 := Lib.hid (HV0.out.below hb)
    replace HV1 := Lib.hid (HV1.out.below hb)
    replace HB := Lib.hid (HB.out.trans (hb.mono HB.out.size))
    clear hb
    go_wp2_with fail
    go_ret
    exact ⟨rfl, HB.out⟩
   ·
    subst hc
    obtain ⟨SA, hSA⟩ : ∃ s, sortJ r0.1 = s := ⟨_, rfl⟩
    obtain ⟨SB, hSB⟩ : ∃ s, sortJ r1.1 = s := ⟨_, rfl⟩
    obtain ⟨TA, hTA⟩ : ∃ s, toldJ SA = s := ⟨_, rfl⟩
    obtain ⟨TB, hTB⟩ : ∃ s, toldJ SB = s := ⟨_, rfl⟩
    have HSA : Hid (sortedV r0.1 = SA) := Lib.hid (by rw [sorted_eq HC0.out, hSA])
    have HSB : Hid (sortedV r1.1 = SB) := Lib.hid (by rw [sorted_eq HC1.out, hSB])
    have HKA : Hid (checkJ SA = 0) := Lib.hid (by rw [← hSA]; exact sort_check HC0.out)
    have HKB : Hid (checkJ SB = 0) := Lib.hid (by rw [← hSB]; exact sort_check HC1.out)
    have HPA : Hid (printJ SA = TA) := Lib.hid (by rw [print_eq HKA.out, hTA])
    have HPB : Hid (printJ SB = TB) := Lib.hid (by rw [print_eq HKB.out, hTB])
    have HSC : Hid (sortedV (turnJ r0.1) = SA) := Lib.hid (by rw [sorted_turn HC0.out, hSA])
    have HSS : Hid (sortedV SA = SA) := Lib.hid (by rw [← hSA]; exact sorted_twice HC0.out)
    have HKC : Hid (checkJ (turnJ r0.1) = 0) := Lib.hid (turn_check HC0.out)
    have HTS : Hid (sortJ (turnJ r0.1) = sortJ r0.1) := Lib.hid (turn_sort _ (checkJ_zero.1 HC0.out).1)
    have HQ : Hid (∃ q : Bool, (q = true ↔ sortJ r0.1 = sortJ r1.1) ∧ (TA == TB) = q) := Lib.hid ⟨decide (TA = TB), by rw [decide_eq_true_iff, ← hTA, ← hTB, ← hSA, ← hSB]; exact one_text HC0.out HC1.out, by rw [Bool.eq_iff_iff, beq_iff_eq, decide_eq_true_iff]⟩
    clear hSA hSB hTA hTB
    obtain ⟨q, hq1, hq2⟩ := HQ.out
    have HQ1 := Lib.hid hq1
    have HQ2 := Lib.hid hq2
    clear hq1 hq2 HQ
    go_wp2_with (refine wpList_loadJ rfl _ rfl r0 HV0.out rfl ?_)
    refine (turned_calls HJ0.out w4 (Below.refl _ _) HZ0.out).mono ?_
    rintro e w6 ⟨lvc, nvc, rfl, hj, hb⟩
    obtain ⟨rc, hrc⟩ : ∃ r : JR, (turnJ r0.1, lvc, nvc) = r := ⟨_, rfl⟩
    have HRC : Hid (rc.1 = turnJ r0.1) := Lib.hid (by rw [← hrc])
    rw [hrc] at hj ⊢
    have HJC := Lib.hid hj
    have HSLC := Lib.hid hj.slJ
    have HZC : Hid (szJ rc.1 ≤ 20000000) := Lib.hid (by rw [HRC.out]; exact chk_sz HKC.out)
    clear hj hrc
    replace HE := Lib.hid (HE.out.below hb (Nat.le_refl _))
    replace HJ0 := Lib.hid (HJ0.out.bel hb)
    replace HJ1 := Lib.hid (HJ1.out.bel hb)
    replace HV0 := Lib.hid (HV0.out.below hb)
    replace HV1 := Lib.hid (HV1.out.below hb)
    replace HB := Lib.hid (HB.out.trans (hb.mono HB.out.size))
    clear hb
    go_upto_region 4 with (first | (refine wpList_allocJ rfl rfl ?_; intro wa7 hBx) | (refine wpList_storeJ rfl _ _ rfl rfl hBx.row rfl rc HSLC.out rfl rfl ?_; intro wS7 hSx))
    have hb : Below w6.heap.size w6 wS7 := hSx.below hBx.be (Nat.le_refl _) hBx.be.size
    have hrow := hSx.row
    obtain ⟨gc, hg⟩ : ∃ g, w6.heap.size = g := ⟨_, rfl⟩
    rw [hg] at hrow ⊢
    have HVC := Lib.hid hrow
    clear hSx hBx hg hrow
    replace HE := Lib.hid (HE.out.below hb (Nat.le_refl _))
    replace HJ0 := Lib.hid (HJ0.out.bel hb)
    replace HJ1 := Lib.hid (HJ1.out.bel hb)
    replace HV0 := Lib.hid (HV0.out.below hb)
    replace HV1 := Lib.hid (HV1.out.below hb)
    replace HJC := Lib.hid (HJC.out.bel hb)
    replace HB := Lib.hid (HB.out.trans (hb.mono HB.out.size))
    clear hb
    have hS0 : (fun wq => RowAt wq g0 (jcells r0) ∧ RowAt wq g1 (jcells r1) ∧ RowAt wq gc (jcells rc)) wS7.drew := ⟨HV0.out.below (Below.refl _ _).drew, HV1.out.below (Below.refl _ _).drew, HVC.out.below (Below.refl _ _).drew⟩
    have hb : Below wS7.heap.size wS7 wS7.drew := (Below.refl _ _).drew
    refine wp_region_held_drew (S := (fun wq => RowAt wq g0 (jcells r0) ∧ RowAt wq g1 (jcells r1) ∧ RowAt wq gc (jcells rc))) (by kernel_rfl) hS0 (fun hHeld0 => ?_)
    generalize wS7.drew = wd8 at *
    replace HE := Lib.hid (HE.out.below hb (Nat.le_refl _))
    replace HJ0 := Lib.hid (HJ0.out.bel hb)
    replace HJ1 := Lib.hid (HJ1.out.bel hb)
    replace HV0 := Lib.hid (HV0.out.below hb)
    replace HV1 := Lib.hid (HV1.out.below hb)
    replace HJC := Lib.hid (HJC.out.bel hb)
    replace HVC := Lib.hid (HVC.out.below hb)
    replace HB := Lib.hid (HB.out.trans (hb.mono HB.out.size))
    clear hb
    refine held_take (i := 0) (v := jval r0) rfl (by kernel_rfl) (by kernel_rfl) (by kernel_rfl) (fun _ _ _ h => h) (by rfl) (fun wq hSq => exec_loadJ _ rfl rfl r0 hSq.1) hHeld0 ?_
    simp only [Act.put, sbA, sbB, sbC]
    refine held_take (i := 3) (v := jval r1) rfl (by kernel_rfl) (by kernel_rfl) (by kernel_rfl) (fun _ _ _ h => h) (by rfl) (fun wq hSq => exec_loadJ _ rfl rfl r1 hSq.2.1) hHeld0 ?_
    simp only [Act.put, sbA, sbB, sbC]
    refine held_take (i := 6) (v := jval rc) rfl (by kernel_rfl) (by kernel_rfl) (by kernel_rfl) (fun _ _ _ h => h) (by rfl) (fun wq hSq => exec_loadJ _ rfl rfl rc hSq.2.2) hHeld0 ?_
    simp only [Act.put, sbA, sbB, sbC]
    refine held_step (i := 1) (by kernel_rfl) rfl (by rfl) (fun K hK => ?_)
    go_simp
    refine (sortedJ_calls (r1 := r0) HJ0.out HE.out.tab HE.out.utf wd8 (Below.refl _ _) HZ0.out).mono ?_
    rintro e w9 ⟨lv9, nv9, rfl, hj, hb⟩
    rw [HSA.out] at hj ⊢
    obtain ⟨q0_SA, hrr⟩ : ∃ r : JR, (SA, lv9, nv9) = r := ⟨_, rfl⟩
    have HRq0_SA : Hid (q0_SA.1 = SA) := Lib.hid (by rw [← hrr])
    rw [hrr] at hj ⊢
    have HJq0_SA := Lib.hid hj
    clear hj hrr
    replace HE := Lib.hid (HE.out.below hb (Nat.le_refl _))
    replace HJ0 := Lib.hid (HJ0.out.bel hb)
    replace HJ1 := Lib.hid (HJ1.out.bel hb)
    replace HV0 := Lib.hid (HV0.out.below hb)
    replace HV1 := Lib.hid (HV1.out.below hb)
    replace HJC := Lib.hid (HJC.out.bel hb)
    replace HVC := Lib.hid (HVC.out.below hb)
    replace HB := Lib.hid (HB.out.trans (hb.mono HB.out.size))
    clear hb
    have hS9 : (fun wq => RowAt wq g0 (jcells r0) ∧ RowAt wq g1 (jcells r1) ∧ RowAt wq gc (jcells rc)) w9 := ⟨HV0.out, HV1.out, HVC.out⟩
    refine hK.out _ _ hS9 (fun hHeld1 => ?_)
    clear hK K hHeld0
    refine held_step (i := 2) (by kernel_rfl) rfl (by rfl) (fun K hK => ?_)
    go_simp
    refine (printJ_calls (r1 := q0_SA) HJq0_SA.out HE.out.tab HE.out.utf w9 (Below.refl _ _) (by rw [HRq0_SA.out]; exact chk_sz HKA.out)).mono ?_
    rintro e w10 ⟨pv, rfl, hF, hb⟩
    rw [HRq0_SA.out, HPA.out] at hF
    obtain ⟨psa, csa, rfl⟩ := hF.slice
    obtain ⟨Ba, hBF⟩ : ∃ B, FB w10 B (.slice psa TA.length csa) TA := ⟨_, hF⟩
    have HFa := Lib.hid hBF
    clear hF hBF
    clear HJq0_SA
    replace HE := Lib.hid (HE.out.below hb (Nat.le_refl _))
    replace HJ0 := Lib.hid (HJ0.out.bel hb)
    replace HJ1 := Lib.hid (HJ1.out.bel hb)
    replace HV0 := Lib.hid (HV0.out.below hb)
    replace HV1 := Lib.hid (HV1.out.below hb)
    replace HJC := Lib.hid (HJC.out.bel hb)
    replace HVC := Lib.hid (HVC.out.below hb)
    replace HB := Lib.hid (HB.out.trans (hb.mono HB.out.size))
    clear hb
    have hS10 : (fun wq => RowAt wq g0 (jcells r0) ∧ RowAt wq g1 (jcells r1) ∧ RowAt wq gc (jcells rc)) w10 := ⟨HV0.out, HV1.out, HVC.out⟩
    refine hK.out _ _ hS10 (fun hHeld2 => ?_)
    clear hK K hHeld1
    refine held_step (i := 4) (by kernel_rfl) rfl (by rfl) (fun K hK => ?_)
    go_simp
    refine (sortedJ_calls (r1 := r1) HJ1.out HE.out.tab HE.out.utf w10 (Below.refl _ _) HZ1.out).mono ?_
    rintro e w11 ⟨lv11, nv11, rfl, hj, hb⟩
    rw [HSB.out] at hj ⊢
    obtain ⟨q1_SB, hrr⟩ : ∃ r : JR, (SB, lv11, nv11) = r := ⟨_, rfl⟩
    have HRq1_SB : Hid (q1_SB.1 = SB) := Lib.hid (by rw [← hrr])
    rw [hrr] at hj ⊢
    have HJq1_SB := Lib.hid hj
    clear hj hrr
    replace HE := Lib.hid (HE.out.below hb (Nat.le_refl _))
    replace HJ0 := Lib.hid (HJ0.out.bel hb)
    replace HJ1 := Lib.hid (HJ1.out.bel hb)
    replace HV0 := Lib.hid (HV0.out.below hb)
    replace HV1 := Lib.hid (HV1.out.below hb)
    replace HJC := Lib.hid (HJC.out.bel hb)
    replace HVC := Lib.hid (HVC.out.below hb)
    replace HFa := Lib.hid (HFa.out.below hb)
    replace HB := Lib.hid (HB.out.trans (hb.mono HB.out.size))
    clear hb
    have hS11 : (fun wq => RowAt wq g0 (jcells r0) ∧ RowAt wq g1 (jcells r1) ∧ RowAt wq gc (jcells rc)) w11 := ⟨HV0.out, HV1.out, HVC.out⟩
    refine hK.out _ _ hS11 (fun hHeld3 => ?_)
    clear hK K hHeld2
    refine held_step (i := 5) (by kernel_rfl) rfl (by rfl) (fun K hK => ?_)
    go_simp
    refine (printJ_calls (r1 := q1_SB) HJq1_SB.out HE.out.tab HE.out.utf w11 (Below.refl _ _) (by rw [HRq1_SB.out]; exact chk_sz HKB.out)).mono ?_
    rintro e w12 ⟨pv, rfl, hF, hb⟩
    rw [HRq1_SB.out, HPB.out] at hF
    obtain ⟨psb, csb, rfl⟩ := hF.slice
    obtain ⟨Bb, hBF⟩ : ∃ B, FB w12 B (.slice psb TB.length csb) TB := ⟨_, hF⟩
    have HFb := Lib.hid hBF
    clear hF hBF
    clear HJq1_SB
    replace HE := Lib.hid (HE.out.below hb (Nat.le_refl _))
    replace HJ0 := Lib.hid (HJ0.out.bel hb)
    replace HJ1 := Lib.hid (HJ1.out.bel hb)
    replace HV0 := Lib.hid (HV0.out.below hb)
    replace HV1 := Lib.hid (HV1.out.below hb)
    replace HJC := Lib.hid (HJC.out.bel hb)
    replace HVC := Lib.hid (HVC.out.below hb)
    replace HFa := Lib.hid (HFa.out.below hb)
    replace HB := Lib.hid (HB.out.trans (hb.mono HB.out.size))
    clear hb
    have hS12 : (fun wq => RowAt wq g0 (jcells r0) ∧ RowAt wq g1 (jcells r1) ∧ RowAt wq gc (jcells rc)) w12 := ⟨HV0.out, HV1.out, HVC.out⟩
    refine hK.out _ _ hS12 (fun hHeld4 => ?_)
    clear hK K hHeld3
    refine held_step (i := 7) (by kernel_rfl) rfl (by rfl) (fun K hK => ?_)
    go_simp
    refine (sortedJ_calls (r1 := rc) HJC.out HE.out.tab HE.out.utf w12 (Below.refl _ _) HZC.out).mono ?_
    rintro e w13 ⟨lv13, nv13, rfl, hj, hb⟩
    rw [HRC.out, HSC.out] at hj ⊢
    obtain ⟨q2_SA, hrr⟩ : ∃ r : JR, (SA, lv13, nv13) = r := ⟨_, rfl⟩
    have HRq2_SA : Hid (q2_SA.1 = SA) := Lib.hid (by rw [← hrr])
    rw [hrr] at hj ⊢
    have HJq2_SA := Lib.hid hj
    clear hj hrr
    replace HE := Lib.hid (HE.out.below hb (Nat.le_refl _))
    replace HJ0 := Lib.hid (HJ0.out.bel hb)
    replace HJ1 := Lib.hid (HJ1.out.bel hb)
    replace HV0 := Lib.hid (HV0.out.below hb)
    replace HV1 := Lib.hid (HV1.out.below hb)
    replace HJC := Lib.hid (HJC.out.bel hb)
    replace HVC := Lib.hid (HVC.out.below hb)
    replace HFa := Lib.hid (HFa.out.below hb)
    replace HFb := Lib.hid (HFb.out.below hb)
    replace HB := Lib.hid (HB.out.trans (hb.mono HB.out.size))
    clear hb
    have hS13 : (fun wq => RowAt wq g0 (jcells r0) ∧ RowAt wq g1 (jcells r1) ∧ RowAt wq gc (jcells rc)) w13 := ⟨HV0.out, HV1.out, HVC.out⟩
    refine hK.out _ _ hS13 (fun hHeld5 => ?_)
    clear hK K hHeld4
    refine held_step (i := 8) (by kernel_rfl) rfl (by rfl) (fun K hK => ?_)
    go_simp
    refine (printJ_calls (r1 := q2_SA) HJq2_SA.out HE.out.tab HE.out.utf w13 (Below.refl _ _) (by rw [HRq2_SA.out]; exact chk_sz HKA.out)).mono ?_
    rintro e w14 ⟨pv, rfl, hF, hb⟩
    rw [HRq2_SA.out, HPA.out] at hF
    obtain ⟨psc, csc, rfl⟩ := hF.slice
    obtain ⟨Bc, hBF⟩ : ∃ B, FB w14 B (.slice psc TA.length csc) TA := ⟨_, hF⟩
    have HFc := Lib.hid hBF
    clear hF hBF
    clear HJq2_SA
    replace HE := Lib.hid (HE.out.below hb (Nat.le_refl _))
    replace HJ0 := Lib.hid (HJ0.out.bel hb)
    replace HJ1 := Lib.hid (HJ1.out.bel hb)
    replace HV0 := Lib.hid (HV0.out.below hb)
    replace HV1 := Lib.hid (HV1.out.below hb)
    replace HJC := Lib.hid (HJC.out.bel hb)
    replace HVC := Lib.hid (HVC.out.below hb)
    replace HFa := Lib.hid (HFa.out.below hb)
    replace HFb := Lib.hid (HFb.out.below hb)
    replace HB := Lib.hid (HB.out.trans (hb.mono HB.out.size))
    clear hb
    have hS14 : (fun wq => RowAt wq g0 (jcells r0) ∧ RowAt wq g1 (jcells r1) ∧ RowAt wq gc (jcells rc)) w14 := ⟨HV0.out, HV1.out, HVC.out⟩
    refine hK.out _ _ hS14 (fun hHeld6 => ?_)
    clear hK K hHeld5
    refine held_tk 9 ?_ (fun wq hSq => ?_) hHeld6 ?_
    rotate_left
    ·(try dsimp only at hSq); go_simp; try with_reducible rfl
    simp only [Act.put, sbA, sbB, sbC]
    refine held_tk 10 ?_ (fun wq hSq => ?_) hHeld6 ?_
    rotate_left
    ·(try dsimp only at hSq); go_simp; try with_reducible rfl
    simp only [Act.put, sbA, sbB, sbC]
    refine held_tk 11 ?_ (fun wq hSq => ?_) hHeld6 ?_
    rotate_left
    ·(try dsimp only at hSq); go_simp; try with_reducible rfl
    simp only [Act.put, sbA, sbB, sbC]
    refine wpAnyH_done (by kernel_rfl) ?_ _
    clear hHeld6
    skip
    go_upto_region 5 with fail
    have hS0 : (fun wq => RowAt wq g0 (jcells r0) ∧ RowAt wq g1 (jcells r1) ∧ RowAt wq gc (jcells rc) ∧ FB wq Ba (.slice psa TA.length csa) TA ∧ FB wq Bb (.slice psb TB.length csb) TB ∧ FB wq Bc (.slice psc TA.length csc) TA) w14.drew := ⟨HV0.out.below (Below.refl _ _).drew, HV1.out.below (Below.refl _ _).drew, HVC.out.below (Below.refl _ _).drew, HFa.out.below (Below.refl _ _).drew, HFb.out.below (Below.refl _ _).drew, HFc.out.below (Below.refl _ _).drew⟩
    have hb : Below w14.heap.size w14 w14.drew := (Below.refl _ _).drew
    refine wp_region_held_drew (S := (fun wq => RowAt wq g0 (jcells r0) ∧ RowAt wq g1 (jcells r1) ∧ RowAt wq gc (jcells rc) ∧ FB wq Ba (.slice psa TA.length csa) TA ∧ FB wq Bb (.slice psb TB.length csb) TB ∧ FB wq Bc (.slice psc TA.length csc) TA)) (by kernel_rfl) hS0 (fun hHeld0 => ?_)
    generalize w14.drew = wd15 at *
    replace HE := Lib.hid (HE.out.below hb (Nat.le_refl _))
    replace HJ0 := Lib.hid (HJ0.out.bel hb)
    replace HJ1 := Lib.hid (HJ1.out.bel hb)
    replace HV0 := Lib.hid (HV0.out.below hb)
    replace HV1 := Lib.hid (HV1.out.below hb)
    replace HJC := Lib.hid (HJC.out.bel hb)
    replace HVC := Lib.hid (HVC.out.below hb)
    replace HFa := Lib.hid (HFa.out.below hb)
    replace HFb := Lib.hid (HFb.out.below hb)
    replace HFc := Lib.hid (HFc.out.below hb)
    replace HB := Lib.hid (HB.out.trans (hb.mono HB.out.size))
    clear hb
    have hq2 := HQ2.out
    refine held_take (i := 0) (v := jval r0) rfl (by kernel_rfl) (by kernel_rfl) (by kernel_rfl) (fun _ _ _ h => h) (by rfl) (fun wq hSq => exec_loadJ _ rfl rfl r0 hSq.1) hHeld0 ?_
    simp only [Act.put, sbA, sbB, sbC]
    refine held_take (i := 1) (v := jval r1) rfl (by kernel_rfl) (by kernel_rfl) (by kernel_rfl) (fun _ _ _ h => h) (by rfl) (fun wq hSq => exec_loadJ _ rfl rfl r1 hSq.2.1) hHeld0 ?_
    simp only [Act.put, sbA, sbB, sbC]
    refine held_tk 3 ?_ (fun wq hSq => ?_) hHeld0 ?_
    rotate_left
    ·(try dsimp only at hSq); go_simp; try with_reducible rfl
    simp only [Act.put, sbA, sbB, sbC]
    refine held_take (i := 4) (v := .string ⟨TA.toArray⟩) rfl (by kernel_rfl) (by kernel_rfl) (by kernel_rfl) (fun _ _ _ h => h) (by rfl) (fun wq hSq => exec_conv _ rfl hSq.2.2.2.1 rfl) hHeld0 ?_
    simp only [Act.put, sbA, sbB, sbC]
    refine held_tk 5 ?_ (fun wq hSq => ?_) hHeld0 ?_
    rotate_left
    ·(try dsimp only at hSq); go_simp; try with_reducible rfl
    simp only [Act.put, sbA, sbB, sbC]
    refine held_take (i := 6) (v := .string ⟨TB.toArray⟩) rfl (by kernel_rfl) (by kernel_rfl) (by kernel_rfl) (fun _ _ _ h => h) (by rfl) (fun wq hSq => exec_conv _ rfl hSq.2.2.2.2.1 rfl) hHeld0 ?_
    simp only [Act.put, sbA, sbB, sbC]
    refine held_tk 7 ?_ (fun wq hSq => ?_) hHeld0 ?_
    rotate_left
    ·(try dsimp only at hSq); go_simp; try with_reducible rfl
    simp only [Act.put, sbA, sbB, sbC]
    refine held_step (i := 2) (by kernel_rfl) rfl (by rfl) (fun K hK => ?_)
    go_simp
    refine (equalJ_calls (r1 := r0) (r2 := r1) HJ0.out HJ1.out HE.out.tab HE.out.utf wd15 (Below.refl _ _) HZ0.out HZ1.out).mono ?_
    rintro e w16 ⟨⟨bb, rfl, hbb⟩, hb⟩
    obtain rfl : bb = q := by
     rw [Bool.eq_iff_iff, HQ1.out, hbb]
     exact ⟨fun e => e.2.2, fun e => ⟨HC0.out, HC1.out, e⟩⟩
    clear hbb
    replace HE := Lib.hid (HE.out.below hb (Nat.le_refl _))
    replace HJ0 := Lib.hid (HJ0.out.bel hb)
    replace HJ1 := Lib.hid (HJ1.out.bel hb)
    replace HV0 := Lib.hid (HV0.out.below hb)
    replace HV1 := Lib.hid (HV1.out.below hb)
    replace HJC := Lib.hid (HJC.out.bel hb)
    replace HVC := Lib.hid (HVC.out.below hb)
    replace HFa := Lib.hid (HFa.out.below hb)
    replace HFb := Lib.hid (HFb.out.below hb)
    replace HFc := Lib.hid (HFc.out.below hb)
    replace HB := Lib.hid (HB.out.trans (hb.mono HB.out.size))
    clear hb
    have hS16 : (fun wq => RowAt wq g0 (jcells r0) ∧ RowAt wq g1 (jcells r1) ∧ RowAt wq gc (jcells rc) ∧ FB wq Ba (.slice psa TA.length csa) TA ∧ FB wq Bb (.slice psb TB.length csb) TB ∧ FB wq Bc (.slice psc TA.length csc) TA) w16 := ⟨HV0.out, HV1.out, HVC.out, HFa.out, HFb.out, HFc.out⟩
    refine hK.out _ _ hS16 (fun hHeld1 => ?_)
    clear hK K hHeld0
    refine held_tk 8 ?_ (fun wq hSq => ?_) hHeld1 ?_
    rotate_left
    ·(try dsimp only at hSq); go_simp; try with_reducible rfl
    simp only [Act.put, sbA, sbB, sbC]
    refine held_tk 9 ?_ (fun wq hSq => ?_) hHeld1 ?_
    rotate_left
    ·(try dsimp only at hSq); go_simp; try with_reducible rfl
    simp only [Act.put, sbA, sbB, sbC]
    refine held_take (i := 10) (v := jval r0) rfl (by kernel_rfl) (by kernel_rfl) (by kernel_rfl) (fun _ _ _ h => h) (by rfl) (fun wq hSq => exec_loadJ _ rfl rfl r0 hSq.1) hHeld1 ?_
    simp only [Act.put, sbA, sbB, sbC]
    refine held_take (i := 11) (v := jval rc) rfl (by kernel_rfl) (by kernel_rfl) (by kernel_rfl) (fun _ _ _ h => h) (by rfl) (fun wq hSq => exec_loadJ _ rfl rfl rc hSq.2.2.1) hHeld1 ?_
    simp only [Act.put, sbA, sbB, sbC]
    refine held_step (i := 12) (by kernel_rfl) rfl (by rfl) (fun K hK => ?_)
    go_simp
    refine (equalJ_calls (r1 := r0) (r2 := rc) HJ0.out HJC.out HE.out.tab HE.out.utf w16 (Below.refl _ _) HZ0.out HZC.out).mono ?_
    rintro e w17 ⟨⟨bb, rfl, hbb⟩, hb⟩
    obtain rfl : bb = true := hbb.2 ⟨HC0.out, by rw [HRC.out]; exact HKC.out, by rw [HRC.out, HTS.out]⟩
    clear hbb
    replace HE := Lib.hid (HE.out.below hb (Nat.le_refl _))
    replace HJ0 := Lib.hid (HJ0.out.bel hb)
    replace HJ1 := Lib.hid (HJ1.out.bel hb)
    replace HV0 := Lib.hid (HV0.out.below hb)
    replace HV1 := Lib.hid (HV1.out.below hb)
    replace HJC := Lib.hid (HJC.out.bel hb)
    replace HVC := Lib.hid (HVC.out.below hb)
    replace HFa := Lib.hid (HFa.out.below hb)
    replace HFb := Lib.hid (HFb.out.below hb)
    replace HFc := Lib.hid (HFc.out.below hb)
    replace HB := Lib.hid (HB.out.trans (hb.mono HB.out.size))
    clear hb
    have hS17 : (fun wq => RowAt wq g0 (jcells r0) ∧ RowAt wq g1 (jcells r1) ∧ RowAt wq gc (jcells rc) ∧ FB wq Ba (.slice psa TA.length csa) TA ∧ FB wq Bb (.slice psb TB.length csb) TB ∧ FB wq Bc (.slice psc TA.length csc) TA) w17 := ⟨HV0.out, HV1.out, HVC.out, HFa.out, HFb.out, HFc.out⟩
    refine hK.out _ _ hS17 (fun hHeld2 => ?_)
    clear hK K hHeld1
    refine held_tk 13 ?_ (fun wq hSq => ?_) hHeld2 ?_
    rotate_left
    ·(try dsimp only at hSq); go_simp; try with_reducible rfl
    simp only [Act.put, sbA, sbB, sbC]
    refine held_tk 14 ?_ (fun wq hSq => ?_) hHeld2 ?_
    rotate_left
    ·(try dsimp only at hSq); go_simp; try with_reducible rfl
    simp only [Act.put, sbA, sbB, sbC]
    refine held_tk 15 ?_ (fun wq hSq => ?_) hHeld2 ?_
    rotate_left
    ·(try dsimp only at hSq); go_simp; try with_reducible rfl
    simp only [Act.put, sbA, sbB, sbC]
    refine held_take (i := 16) (v := .string ⟨TA.toArray⟩) rfl (by kernel_rfl) (by kernel_rfl) (by kernel_rfl) (fun _ _ _ h => h) (by rfl) (fun wq hSq => exec_conv _ rfl hSq.2.2.2.1 rfl) hHeld2 ?_
    simp only [Act.put, sbA, sbB, sbC]
    refine held_tk 17 ?_ (fun wq hSq => ?_) hHeld2 ?_
    rotate_left
    ·(try dsimp only at hSq); go_simp; try with_reducible rfl
    simp only [Act.put, sbA, sbB, sbC]
    refine held_take (i := 18) (v := .string ⟨TA.toArray⟩) rfl (by kernel_rfl) (by kernel_rfl) (by kernel_rfl) (fun _ _ _ h => h) (by rfl) (fun wq hSq => exec_conv _ rfl hSq.2.2.2.2.2 rfl) hHeld2 ?_
    simp only [Act.put, sbA, sbB, sbC]
    refine held_tk 19 ?_ (fun wq hSq => ?_) hHeld2 ?_
    rotate_left
    ·(try dsimp only at hSq); go_simp; try with_reducible rfl
    simp only [Act.put, sbA, sbB, sbC]
    refine held_tk 20 ?_ (fun wq hSq => ?_) hHeld2 ?_
    rotate_left
    ·(try dsimp only at hSq); go_simp; try with_reducible rfl
    simp only [Act.put, sbA, sbB, sbC]
    refine held_tk 21 ?_ (fun wq hSq => ?_) hHeld2 ?_
    rotate_left
    ·(try dsimp only at hSq); go_simp; try with_reducible rfl
    simp only [Act.put, sbA, sbB, sbC]
    refine held_take (i := 22) (v := jval r0) rfl (by kernel_rfl) (by kernel_rfl) (by kernel_rfl) (fun _ _ _ h => h) (by rfl) (fun wq hSq => exec_loadJ _ rfl rfl r0 hSq.1) hHeld2 ?_
    simp only [Act.put, sbA, sbB, sbC]
    refine held_take (i := 25) (v := jval r0) rfl (by kernel_rfl) (by kernel_rfl) (by kernel_rfl) (fun _ _ _ h => h) (by rfl) (fun wq hSq => exec_loadJ _ rfl rfl r0 hSq.1) hHeld2 ?_
    simp only [Act.put, sbA, sbB, sbC]
    refine held_step (i := 23) (by kernel_rfl) rfl (by rfl) (fun K hK => ?_)
    go_simp
    refine (sortedJ_calls (r1 := r0) HJ0.out HE.out.tab HE.out.utf w17 (Below.refl _ _) HZ0.out).mono ?_
    rintro e w18 ⟨lv18, nv18, rfl, hj, hb⟩
    rw [HSA.out] at hj ⊢
    obtain ⟨q3_SA, hrr⟩ : ∃ r : JR, (SA, lv18, nv18) = r := ⟨_, rfl⟩
    have HRq3_SA : Hid (q3_SA.1 = SA) := Lib.hid (by rw [← hrr])
    rw [hrr] at hj ⊢
    have HJq3_SA := Lib.hid hj
    clear hj hrr
    replace HE := Lib.hid (HE.out.below hb (Nat.le_refl _))
    replace HJ0 := Lib.hid (HJ0.out.bel hb)
    replace HJ1 := Lib.hid (HJ1.out.bel hb)
    replace HV0 := Lib.hid (HV0.out.below hb)
    replace HV1 := Lib.hid (HV1.out.below hb)
    replace HJC := Lib.hid (HJC.out.bel hb)
    replace HVC := Lib.hid (HVC.out.below hb)
    replace HFa := Lib.hid (HFa.out.below hb)
    replace HFb := Lib.hid (HFb.out.below hb)
    replace HFc := Lib.hid (HFc.out.below hb)
    replace HB := Lib.hid (HB.out.trans (hb.mono HB.out.size))
    clear hb
    have hS18 : (fun wq => RowAt wq g0 (jcells r0) ∧ RowAt wq g1 (jcells r1) ∧ RowAt wq gc (jcells rc) ∧ FB wq Ba (.slice psa TA.length csa) TA ∧ FB wq Bb (.slice psb TB.length csb) TB ∧ FB wq Bc (.slice psc TA.length csc) TA) w18 := ⟨HV0.out, HV1.out, HVC.out, HFa.out, HFb.out, HFc.out⟩
    refine hK.out _ _ hS18 (fun hHeld3 => ?_)
    clear hK K hHeld2
    refine held_step (i := 24) (by kernel_rfl) rfl (by rfl) (fun K hK => ?_)
    go_simp
    refine (sortedJ_calls (r1 := q3_SA) HJq3_SA.out HE.out.tab HE.out.utf w18 (Below.refl _ _) (by rw [HRq3_SA.out]; exact chk_sz HKA.out)).mono ?_
    rintro e w19 ⟨lv19, nv19, rfl, hj, hb⟩
    rw [HRq3_SA.out, HSS.out] at hj ⊢
    obtain ⟨q4_SA, hrr⟩ : ∃ r : JR, (SA, lv19, nv19) = r := ⟨_, rfl⟩
    have HRq4_SA : Hid (q4_SA.1 = SA) := Lib.hid (by rw [← hrr])
    rw [hrr] at hj ⊢
    have HJq4_SA := Lib.hid hj
    clear hj hrr
    replace HE := Lib.hid (HE.out.below hb (Nat.le_refl _))
    replace HJ0 := Lib.hid (HJ0.out.bel hb)
    replace HJ1 := Lib.hid (HJ1.out.bel hb)
    replace HV0 := Lib.hid (HV0.out.below hb)
    replace HV1 := Lib.hid (HV1.out.below hb)
    replace HJC := Lib.hid (HJC.out.bel hb)
    replace HVC := Lib.hid (HVC.out.below hb)
    replace HFa := Lib.hid (HFa.out.below hb)
    replace HFb := Lib.hid (HFb.out.below hb)
    replace HFc := Lib.hid (HFc.out.below hb)
    replace HJq3_SA := Lib.hid (HJq3_SA.out.bel hb)
    replace HB := Lib.hid (HB.out.trans (hb.mono HB.out.size))
    clear hb
    have hS19 : (fun wq => RowAt wq g0 (jcells r0) ∧ RowAt wq g1 (jcells r1) ∧ RowAt wq gc (jcells rc) ∧ FB wq Ba (.slice psa TA.length csa) TA ∧ FB wq Bb (.slice psb TB.length csb) TB ∧ FB wq Bc (.slice psc TA.length csc) TA) w19 := ⟨HV0.out, HV1.out, HVC.out, HFa.out, HFb.out, HFc.out⟩
    refine hK.out _ _ hS19 (fun hHeld4 => ?_)
    clear hK K hHeld3
    refine held_step (i := 26) (by kernel_rfl) rfl (by rfl) (fun K hK => ?_)
    go_simp
    refine (sortedJ_calls (r1 := r0) HJ0.out HE.out.tab HE.out.utf w19 (Below.refl _ _) HZ0.out).mono ?_
    rintro e w20 ⟨lv20, nv20, rfl, hj, hb⟩
    rw [HSA.out] at hj ⊢
    obtain ⟨q5_SA, hrr⟩ : ∃ r : JR, (SA, lv20, nv20) = r := ⟨_, rfl⟩
    have HRq5_SA : Hid (q5_SA.1 = SA) := Lib.hid (by rw [← hrr])
    rw [hrr] at hj ⊢
    have HJq5_SA := Lib.hid hj
    clear hj hrr
    replace HE := Lib.hid (HE.out.below hb (Nat.le_refl _))
    replace HJ0 := Lib.hid (HJ0.out.bel hb)
    replace HJ1 := Lib.hid (HJ1.out.bel hb)
    replace HV0 := Lib.hid (HV0.out.below hb)
    replace HV1 := Lib.hid (HV1.out.below hb)
    replace HJC := Lib.hid (HJC.out.bel hb)
    replace HVC := Lib.hid (HVC.out.below hb)
    replace HFa := Lib.hid (HFa.out.below hb)
    replace HFb := Lib.hid (HFb.out.below hb)
    replace HFc := Lib.hid (HFc.out.below hb)
    replace HJq3_SA := Lib.hid (HJq3_SA.out.bel hb)
    replace HJq4_SA := Lib.hid (HJq4_SA.out.bel hb)
    replace HB := Lib.hid (HB.out.trans (hb.mono HB.out.size))
    clear hb
    have hS20 : (fun wq => RowAt wq g0 (jcells r0) ∧ RowAt wq g1 (jcells r1) ∧ RowAt wq gc (jcells rc) ∧ FB wq Ba (.slice psa TA.length csa) TA ∧ FB wq Bb (.slice psb TB.length csb) TB ∧ FB wq Bc (.slice psc TA.length csc) TA) w20 := ⟨HV0.out, HV1.out, HVC.out, HFa.out, HFb.out, HFc.out⟩
    refine hK.out _ _ hS20 (fun hHeld5 => ?_)
    clear hK K hHeld4
    refine held_step (i := 27) (by kernel_rfl) rfl (by rfl) (fun K hK => ?_)
    go_simp
    refine (sameL_calls HJq4_SA.out _ q5_SA w20 (Below.refl _ _) HJq5_SA.out).mono ?_
    rintro e w21 ⟨bb, rfl, hbb, hb⟩
    obtain rfl : bb = true := hbb.2 (by rw [HRq4_SA.out, HRq5_SA.out])
    clear hbb
    replace HE := Lib.hid (HE.out.below hb (Nat.le_refl _))
    replace HJ0 := Lib.hid (HJ0.out.bel hb)
    replace HJ1 := Lib.hid (HJ1.out.bel hb)
    replace HV0 := Lib.hid (HV0.out.below hb)
    replace HV1 := Lib.hid (HV1.out.below hb)
    replace HJC := Lib.hid (HJC.out.bel hb)
    replace HVC := Lib.hid (HVC.out.below hb)
    replace HFa := Lib.hid (HFa.out.below hb)
    replace HFb := Lib.hid (HFb.out.below hb)
    replace HFc := Lib.hid (HFc.out.below hb)
    replace HJq3_SA := Lib.hid (HJq3_SA.out.bel hb)
    replace HJq4_SA := Lib.hid (HJq4_SA.out.bel hb)
    replace HJq5_SA := Lib.hid (HJq5_SA.out.bel hb)
    replace HB := Lib.hid (HB.out.trans (hb.mono HB.out.size))
    clear hb
    have hS21 : (fun wq => RowAt wq g0 (jcells r0) ∧ RowAt wq g1 (jcells r1) ∧ RowAt wq gc (jcells rc) ∧ FB wq Ba (.slice psa TA.length csa) TA ∧ FB wq Bb (.slice psb TB.length csb) TB ∧ FB wq Bc (.slice psc TA.length csc) TA) w21 := ⟨HV0.out, HV1.out, HVC.out, HFa.out, HFb.out, HFc.out⟩
    refine hK.out _ _ hS21 (fun hHeld6 => ?_)
    clear hK K hHeld5
    refine held_tk 28 ?_ (fun wq hSq => ?_) hHeld6 ?_
    rotate_left
    ·(try dsimp only at hSq); go_simp; try with_reducible rfl
    simp only [Act.put, sbA, sbB, sbC]
    refine held_tk 29 ?_ (fun wq hSq => ?_) hHeld6 ?_
    rotate_left
    ·(try dsimp only at hSq); go_simp; try with_reducible rfl
    simp only [Act.put, sbA, sbB, sbC]
    refine held_step (i := 30) (by kernel_rfl) rfl (by rfl) (fun K hK => ?_)
    go_simp
    refine (works_calls w21 HE.out).mono ?_
    rintro e w22 ⟨rfl, hb⟩
    replace HE := Lib.hid (HE.out.below hb (Nat.le_refl _))
    replace HJ0 := Lib.hid (HJ0.out.bel hb)
    replace HJ1 := Lib.hid (HJ1.out.bel hb)
    replace HV0 := Lib.hid (HV0.out.below hb)
    replace HV1 := Lib.hid (HV1.out.below hb)
    replace HJC := Lib.hid (HJC.out.bel hb)
    replace HVC := Lib.hid (HVC.out.below hb)
    replace HFa := Lib.hid (HFa.out.below hb)
    replace HFb := Lib.hid (HFb.out.below hb)
    replace HFc := Lib.hid (HFc.out.below hb)
    replace HJq3_SA := Lib.hid (HJq3_SA.out.bel hb)
    replace HJq4_SA := Lib.hid (HJq4_SA.out.bel hb)
    replace HJq5_SA := Lib.hid (HJq5_SA.out.bel hb)
    replace HB := Lib.hid (HB.out.trans (hb.mono HB.out.size))
    clear hb
    have hS22 : (fun wq => RowAt wq g0 (jcells r0) ∧ RowAt wq g1 (jcells r1) ∧ RowAt wq gc (jcells rc) ∧ FB wq Ba (.slice psa TA.length csa) TA ∧ FB wq Bb (.slice psb TB.length csb) TB ∧ FB wq Bc (.slice psc TA.length csc) TA) w22 := ⟨HV0.out, HV1.out, HVC.out, HFa.out, HFb.out, HFc.out⟩
    refine hK.out _ _ hS22 (fun hHeld7 => ?_)
    clear hK K hHeld6
    refine held_tk 31 ?_ (fun wq hSq => ?_) hHeld7 ?_
    rotate_left
    ·(try dsimp only at hSq); go_simp; try with_reducible rfl
    simp only [Act.put, sbA, sbB, sbC]
    refine held_tk 32 ?_ (fun wq hSq => ?_) hHeld7 ?_
    rotate_left
    ·(try dsimp only at hSq); go_simp; try with_reducible rfl
    simp only [Act.put, sbA, sbB, sbC]
    refine wpAnyH_done (by kernel_rfl) ?_ _
    clear hHeld7
    go_wp2_with fail
    go_ret
    exact ⟨rfl, HB.out⟩
end Go.Proofs.YtfclfaidmipjpaaGreatDoor
