/- Texts of this claim, joined: Rso. -/
import Derived.Test.YtfclfaidmipjpaaGreatDoorVl08
namespace Go.Proofs.YtfclfaidmipjpaaGreatDoor
set_option maxRecDepth 100000
set_option maxHeartbeats 20000000
open Go.Lib (hid)
open Go.RowKit
theorem exec_pos {w : World} {a : Act} {o : Oper} (x : Operand) (ho : o.op = .binOp .gtr 3 x (.const (.int .i64 0)) 3) {m : Nat} {b : Bool} (hb : decide (0 < m) = b) (hx : a.eval x = .int .i64 (m : Int)) : (execOp a.eval o).run Tryz.prog w = .ok (.value (.bool b)) w := by
 have h2 : decide ((0 : Int) < (m : Int)) = b := by
  rw [← hb]
  by_cases h : 0 < m
  ·rw [decide_eq_true h]; exact decide_eq_true (by omega)
  rw [decide_eq_false h]; exact decide_eq_false (by omega)
 have hr : (binOp .gtr 3 (.int .i64 (m : Int)) (.int .i64 0)).run Tryz.prog w = .ok (.bool (decide ((0 : Int) < (m : Int)))) w := by first | rfl | simp [go_sem] | simp [binOp]
 rw [h2] at hr
 have e : execOp a.eval o = (do let v ← binOp .gtr 3 (.int .i64 (m : Int)) (.int .i64 0); pure (.value v)) := by
  unfold execOp; rw [ho]; simp only [hx]; rfl
 rw [e]
 simp [hr]
theorem exec_dec {w : World} {a : Act} {o : Oper} (x : Operand) (ho : o.op = .binOp .sub 3 x (.const (.int .i64 1)) 3) {m m1 : Nat} (hm : m = m1 + 1) (hb : m ≤ 20000000) (hx : a.eval x = .int .i64 (m : Int)) : (execOp a.eval o).run Tryz.prog w = .ok (.value (.int .i64 (m1 : Int))) w := by
 subst hm
 have h2 : IntKind.i64.wrap (((m1 + 1 : Nat) : Int) - 1) = (m1 : Int) := by rw [IntWalk.i64_in _ (by omega)]; omega
 have hr : (binOp .sub 3 (.int .i64 ((m1 + 1 : Nat) : Int)) (.int .i64 1)).run Tryz.prog w = .ok (.int .i64 (IntKind.i64.wrap (((m1 + 1 : Nat) : Int) - 1))) w := by first | rfl | simp [go_sem] | simp [binOp]
 rw [h2] at hr
 have e : execOp a.eval o = (do let v ← binOp .sub 3 (.int .i64 ((m1 + 1 : Nat) : Int)) (.int .i64 1); pure (.value v)) := by
  unfold execOp; rw [ho]; simp only [hx]; rfl
 rw [e]
 simp only [Sem.run_bind, hr, Result.andThen]; rfl
theorem exec_gts {w : World} {a : Act} {o : Oper} (x y : Operand) (ho : o.op = .binOp .gtr 9 x y 9) {u s : List UInt8} (hx : a.eval x = .string ⟨u.toArray⟩) (hy : a.eval y = .string ⟨s.toArray⟩) : (execOp a.eval o).run Tryz.prog w = .ok (.value (.bool (decide (s < u)))) w := by
 have hb : (!(Op.bytesLess u s || u == s)) = decide (s < u) := by
  rw [bytesLess_eq]
  by_cases h : s < u
  ·rw [decide_eq_true h, decide_eq_false (fun e => absurd (List.lt_trans e h) (List.lt_irrefl _))]
   have : (u == s) = false := by rw [beq_eq_false_iff_ne]; rintro rfl; exact absurd h (List.lt_irrefl _)
   rw [this]; rfl
  rw [decide_eq_false h]
  by_cases h9 : u < s
  ·rw [decide_eq_true h9]; rfl
  have h8 : u = s := List.le_antisymm (List.not_lt.1 h) (List.not_lt.1 h9)
  simp [h8]
 have hr : (binOp .gtr 9 (.string ⟨u.toArray⟩) (.string ⟨s.toArray⟩)).run Tryz.prog w = .ok (.bool (!(Op.bytesLess u s || u == s))) w := by
  rw [binOp_string_gtr]
  simp
 rw [hb] at hr
 have e : execOp a.eval o = (do let v ← binOp .gtr 9 (.string ⟨u.toArray⟩) (.string ⟨s.toArray⟩); pure (.value v)) := by
  unfold execOp; rw [ho]; simp only [hx, hy]; rfl
 rw [e]
 simp only [Sem.run_bind, hr, Result.andThen]; rfl
theorem sortedR_calls {w0 : World} {S1 : Nat → Prop} {r1 : JR} (h1 : JV w0 S1 r1) : ∀ (w : World), Below w0.heap.size w0 w → goodJ r1.1 = true → szJ r1.1 ≤ 20000000 →
  Calls Tryz.prog 37 #[jval r1] w (CopTo w (sortJ r1.1)) := by
 induction h1 with
 | mk r1 xs hn1 hl1 hs1 ih =>
  intro w hb hgood hsz
  obtain ⟨⟨k, b, n, t, l, ns⟩, lv0, nv0⟩ := r1
  obtain ⟨p1, c1, hp1, hc1, hm1, hL1⟩ := hl1
  change lv0 = Value.slice p1 l.length c1 at hp1
  obtain ⟨q1, e1, hq1, hcn1, hk1, hN1⟩ := hn1
  change nv0 = Value.slice q1 ns.length e1 at hq1
  subst hp1 hq1
  simp only [J.l] at hm1 hL1 hc1
  simp only [J.ns] at hN1
  simp only [szJ] at hsz
  have hln : l.length ≤ 20000000 := by have := szL_len l; omega
  have hnn : ns.length ≤ 20000000 := by have := szN_len ns; omega
  obtain ⟨R1, hR1⟩ : ∃ R : JR, ((J.mk k b n t l ns, Value.slice p1 l.length c1, Value.slice q1 ns.length e1) : JR) = R := ⟨_, rfl⟩
  have HSJ1 : Hid (SlJ R1) := hid (by rw [← hR1]; exact ⟨rfl, rfl⟩)
  have HC1 : Hid (jcells R1 = headC (J.mk k b n t l ns) (Value.slice p1 l.length c1) (Value.slice q1 ns.length e1)) := hid (by rw [← hR1]; rfl)
  have HCC : Hid (∀ (W : World) (g : Nat), RowAt W g (jcells R1) → RowAt W g [.int .i64 k, .bool b, .bool n.neg, .string ⟨n.digits.toArray⟩, .int .i64 n.exp, .string ⟨t.toArray⟩, .slice p1 l.length c1, .slice q1 ns.length e1]) := hid (fun W g h => by rw [HC1.out] at h; exact h)
  have HR1 : Hid (R1.1 = J.mk k b n t l ns) := hid (by rw [← hR1])
  have HH5 : Hid (k = 5 → ns.length = l.length) := hid (fun e => ((cp_len (so := false) hgood).2 e).1)
  have HGL : Hid (goodL l = true) := hid ((good_head hgood).2.2.2.2.2.2.2.1)
  have HSE := hid (srS_end hgood)
  have HL := hid hL1
  have HN := hid hN1
  have HB := hid hb
  have HIH := hid ih
  have HJS := hid hs1
  have HSZ : Hid (szL l ≤ 20000000) := hid (by omega)
  rw [hR1]
  clear hR1 hL1 hN1 hb ih hs1 hsz hcn1 hk1 hc1 hm1 hgood
  rw [show sortJ (R1.1) = sortJ (J.mk k b n t l ns) by rw [HR1.out]]
  obtain ⟨CJ, hCJ⟩ : ∃ c, sortJ (J.mk k b n t l ns) = c := ⟨_, rfl⟩
  rw [hCJ] at HSE ⊢
  clear hCJ
  go_enter Tryz.func37, Tryz.ntmps37
  go_upto_region 1 with (first | (refine wpList_boxJ rfl _ rfl R1 rfl ?_; intro w1 hBx1) | (refine wpList_allocJ rfl rfl ?_; intro w2 hBx2))
  have hv2 := hBx1.row.below hBx2.be
  have hz1 := hBx1.size
  have hz2 := hBx2.size
  have HW2 : Hid (Below w.heap.size w w2) := hid (hBx2.below hBx1.be hBx1.be.size)
  go_upto_region 2 with (first | refine wpList_loadJ rfl _ rfl R1 hv2 rfl ?_ | (refine wpList_allocJ rfl rfl ?_; intro w3 hBx3) | (refine wpList_storeJ rfl _ _ rfl rfl hBx3.row rfl R1 HSJ1.out rfl rfl ?_; intro w5 hSx4))
  have hz3 := hBx3.size
  have hz4 := hSx4.size
  have ho4 := hSx4.row
  have hv4 := (hv2.below hBx3.be).apart hSx4.apart (by omega)
  have hr4 := (hBx2.row.below hBx3.be).apart hSx4.apart (by omega)
  have HW5 : Hid (Below w.heap.size w w5) := hid (hSx4.below (hBx3.below HW2.out HW2.out.size) (by omega) (by omega))
  obtain ⟨g, hg⟩ : ∃ g, w.heap.size = g := ⟨_, rfl⟩
  have hy1 : w1.heap.size = g + 1 := by omega
  have hy2 : w2.heap.size = g + 2 := by omega
  have hy4 : w5.heap.size = g + 3 := by omega
  rw [hg] at hv4 ⊢
  rw [hy1] at hr4
  rw [hy2] at ho4
  try rw [hy1]
  try rw [hy2]
  have HG0 : Hid (w.heap.size = g) := hid hg
  have HV5 := hid hv4
  have HR5 := hid hr4
  rw [HC1.out] at ho4
  have HO5 := hid ho4
  clear hv2 hz1 hz2 hz3 hz4 hBx1 hBx2 hBx3 hSx4 HW2 ho4 hv4 hr4 hg hy1 hy2 hy4
  have k7 := HO5.out.cell 7 _ rfl
  have f7 := HO5.out.free 7
  have k6 := HO5.out.cell 6 _ rfl
  have f6 := HO5.out.free 6
  go_upto_region 4 with fail
  have HI7 : Hid (CopI w ((w5.setCell ⟨g + 2, 6, none⟩ (.slice none 0 0)).setCell ⟨g + 2, 7, none⟩ (.slice none 0 0)) g 0 R1 (.slice none 0 0) (.slice none 0 0) [] []) := by
   have hlo := HG0.out
   have ha : Apart (fun k => k = g + 2) w5 ((w5.setCell ⟨g + 2, 6, none⟩ (.slice none 0 0)).setCell ⟨g + 2, 7, none⟩ (.slice none 0 0)) := (Apart.set (S := fun k => k = g + 2) w5 (a := ⟨g + 2, 6, none⟩) rfl _).trans (Apart.set (S := fun k => k = g + 2) _ (a := ⟨g + 2, 7, none⟩) rfl _) (fun _ _ h => h)
   refine hid ⟨HW5.out.trans (ha.below HW5.out.size (fun i hi e => by omega)), HV5.out.apart ha (by omega), HR5.out.apart ha (by omega), ?_, JsV.nil _ _ _, NamV.nil _ _, hlo⟩
   have h9 := (HO5.out.set 6 (.slice none 0 0) (by simp [headC])).set 7 (.slice none 0 0) (by simp [headC])
   rw [show R1.1 = J.mk k b n t l ns from HR1.out]
   exact h9
  generalize ((w5.setCell ⟨g + 2, 6, none⟩ (.slice none 0 0)).setCell ⟨g + 2, 7, none⟩ (.slice none 0 0)) = w7 at *
  clear k7 f7 k6 f6 HV5 HR5 HO5 HW5
  go_wp2_with fail
  go_loopg [4, 5, 6, 7] l.length (fun kk s4 s5 s6 s7 wr => ∃ (i : Nat) (lv nv : Value) (rs : List JR), kk = l.length - i ∧ i ≤ l.length ∧ s4 = .int .i64 (i : Int) ∧ CopI w wr g 0 R1 lv nv rs (srS k l ns i).1 ∧ rs.map (·.1) = (srS k l ns i).2)
  case atStart => exact ⟨0, _, _, [], rfl, Nat.zero_le _, rfl, by rw [srS_zero]; exact HI7.out, by rw [srS_zero]; rfl⟩
  obtain ⟨i, lv, nv, rs, hki, hi, rfl, hI, hrs⟩ := hrel
  have Hki := hid hki
  have HI := hid hI
  have HRS := hid hrs
  obtain ⟨pl, cl, rfl⟩ := hI.js.forms
  have HLN := hid (srS_len (k := k) (l := l) (ns := ns) HH5.out i hi)
  have HRL : Hid (rs.length = i) := hid (by rw [← List.length_map (f := (·.1)), hrs]; exact HLN.out.1)
  clear hki hI hrs HI7
  have v6 : _ = some (Value.slice p1 l.length c1) := (HCC.out _ _ HI.out.v).cell 6 _ rfl
  have o6 : _ = some (Value.slice pl rs.length cl) := HI.out.out.cell 6 _ rfl
  have v0 : _ = some (Value.int .i64 k) := (HCC.out _ _ HI.out.v).cell 0 _ rfl
  by_cases hlt : i < l.length
  ·
   have hlti : (i : Int) < (l.length : Int) := by omega
   obtain ⟨x, hx⟩ : ∃ x, l[i]? = some x := ⟨_, List.getElem?_eq_getElem hlt⟩
   have HX := hid hx
   clear hx
   obtain ⟨ms, hms⟩ : ∃ m, (srS k l ns i).1 = m := ⟨_, rfl⟩
   have HMS := hid hms
   rw [hms] at HI
   clear hms
   go_upto_if 23 with fail
   go_cut [5, 6] from 23 to 61 (fun s5 s6 wc => ∃ (at9 : Nat) (nv2 : Value), s5 = .int .i64 (at9 : Int) ∧ at9 ≤ rs.length ∧ CopI w wc g 0 R1 (.slice pl rs.length cl) nv2 rs (srS k l ns (i + 1)).1 ∧ (srS k l ns (i + 1)).2 = (srS k l ns i).2.take at9 ++ sortJ x :: (srS k l ns i).2.drop at9)
   case first =>
    by_cases hk5 : k = 5
    rotate_left
    ·
     have n5 : ((k : Int) == 5) = false := by rw [beq_eq_false_iff_ne]; exact hk5
     go_wp2_with fail
     go_meet
     refine ⟨rs.length, nv, rfl, Nat.le_refl _, ?_, ?_⟩
     ·rw [srS_other hk5 HX.out]; have h9 := HI.out; rw [← HMS.out, srS_other1 hk5] at h9; exact h9
     have h9 := HLN.out.1; have h8 := HRL.out; rw [srS_other hk5 HX.out, List.take_of_length_le (by omega), List.drop_of_length_le (by omega)]
    subst hk5
    have hnl := HH5.out rfl
    have hml := HLN.out.2 rfl
    rw [HMS.out] at hml
    obtain ⟨s, hs⟩ : ∃ s, ns[i]? = some s := ⟨_, List.getElem?_eq_getElem (by omega)⟩
    obtain ⟨gn, fn, rfl, _, hgn, hns⟩ := HN.out (by omega)
    have HSC : Hid (∀ W, Below w.heap.size w W → W.cell? ⟨gn, fn + i, none⟩ = some (.string ⟨s.toArray⟩)) := hid (fun W hW => (hW.cell (p := ⟨gn, fn + i, none⟩) (Nat.lt_of_lt_of_le hgn HB.out.size)).trans ((HB.out.cell (p := ⟨gn, fn + i, none⟩) hgn).trans (hns i s hs)))
    have HST := hid (srS_five HX.out hs)
    rw [HMS.out] at HST
    have HRM : Hid ((rs.length : Int) = (ms.length : Int)) := hid (by have := HRL.out; omega)
    have HML := hid hml
    have HIN : Hid ((i : Int) < (ns.length : Int)) := hid (by omega)
    obtain ⟨pm, cm, rfl⟩ := HI.out.nm.forms
    clear hs hns hgn hnl hml v6 o6 v0
    go_wp2_with fail
    go_loopg [5] ms.length (fun kk s5 wd => ∃ m : Nat, kk = m ∧ m ≤ ms.length ∧ s5 = .int .i64 (m : Int) ∧ posR s ms ms.length = posR s ms m ∧ CopI w wd g 0 R1 (.slice pl rs.length cl) (.slice pm ms.length cm) rs ms)
    case atStart => exact ⟨ms.length, rfl, Nat.le_refl _, by rw [HRM.out], rfl, HI.out⟩
    obtain ⟨m, hkm, hm, rfl, hpos, hI2⟩ := hrel
    have Hkm := hid hkm
    have HPOS := hid hpos
    have HI2 := hid hI2
    clear hkm hpos hI2 HI
    have o7 : _ = some (Value.slice pm ms.length cm) := HI2.out.out.cell 7 _ rfl
    have v7 : _ = some (Value.slice (some ⟨gn, fn, none⟩) ns.length e1) := (HCC.out _ _ HI2.out.v).cell 7 _ rfl
    have s0 := HSC.out wr HI2.out.be
    have hin := HIN.out
    go_upto_region 9 with fail
    go_cut [39] from 24 to 39 (fun s39 wc => s39 = .bool (goB s ms m) ∧ CopI w wc g 0 R1 (.slice pl rs.length cl) (.slice pm ms.length cm) rs ms)
    case first =>
     have hmb : m ≤ 20000000 := by have := HML.out; omega
     have HMB := hid hmb
     have HI3 := hid (HI2.out.below (Below.refl _ _).drew)
     clear hmb
     rcases Nat.eq_zero_or_pos m with hm0 | hmp
     ·
      have HZ : Hid (decide (0 < m) = false) := hid (by rw [hm0]; rfl)
      have HGZ : Hid (goB s ms m = false) := hid (by rw [hm0]; rfl)
      clear hm0
      refine wp_region_held_drew (S := (fun _ => True)) (by kernel_rfl) trivial (fun hHeld0 => ?_)
      generalize wr.drew = wd at *
      refine held_ta 0 hHeld0 ?_
      refine held_tv 1 (.bool false) rfl (fun wq hSq => exec_pos _ rfl HZ.out rfl) hHeld0 ?_
      refine held_ta 2 hHeld0 ?_
      refine held_sk 3 hHeld0 ?_
      refine held_sk 4 hHeld0 ?_
      refine held_sk 5 hHeld0 ?_
      refine held_sk 6 hHeld0 ?_
      refine held_sk 7 hHeld0 ?_
      refine held_sk 8 hHeld0 ?_
      refine held_sk 9 hHeld0 ?_
      refine held_sk 10 hHeld0 ?_
      refine held_sk 11 hHeld0 ?_
      refine held_sk 12 hHeld0 ?_
      refine held_sk 13 hHeld0 ?_
      refine held_sk 14 hHeld0 ?_
      refine held_ta 15 hHeld0 ?_
      refine wpAnyH_done (by kernel_rfl) ?_ _
      clear hHeld0
      go_wp2_with fail
      go_meet
      exact ⟨by rw [HGZ.out], HI3.out⟩
     obtain ⟨m1, hm1⟩ : ∃ m1, m = m1 + 1 := ⟨m - 1, by omega⟩
     obtain ⟨u, hu⟩ : ∃ u, ms[m1]? = some u := ⟨_, List.getElem?_eq_getElem (by omega)⟩
     obtain ⟨p9, c9, e9, _, _, h9⟩ := HI2.out.nm.s
     cases e9
     obtain ⟨gm, om, rfl, _, hgm, hc9⟩ := h9 (by omega)
     have u0 := hc9 m1 u hu
     have hmi : (m1 : Int) < (ms.length : Int) := by omega
     have HZ : Hid (decide (0 < m) = true) := hid (decide_eq_true (by omega))
     have HM1 := hid hm1
     have HGB : Hid (goB s ms m = decide (s < u)) := hid (by rw [hm1, goB, decide_eq_true (by omega : 0 < m1 + 1), show m1 + 1 - 1 = m1 from rfl, List.getD_eq_getElem?_getD, hu]; rfl)
     clear hu h9 hc9 hgm hmp hm1
     refine wp_region_held_drew (S := (fun wq => wq.cell? ⟨g + 2, 7, none⟩ = some (Value.slice (some ⟨gm, om, none⟩) ms.length cm) ∧ wq.cell? ⟨g, 7, none⟩ = some (Value.slice (some ⟨gn, fn, none⟩) ns.length e1) ∧ wq.cell? ⟨gn, fn + i, none⟩ = some (.string ⟨s.toArray⟩) ∧ wq.cell? ⟨gm, om + m1, none⟩ = some (.string ⟨u.toArray⟩))) (by kernel_rfl) ⟨o7, v7, s0, u0⟩ (fun hHeld0 => ?_)
     generalize wr.drew = wd at *
     refine held_ta 0 hHeld0 ?_
     refine held_tv 1 (.bool true) rfl (fun wq hSq => exec_pos _ rfl HZ.out rfl) hHeld0 ?_
     refine held_ta 2 hHeld0 ?_
     refine held_ta 3 hHeld0 ?_
     refine held_ta 4 hHeld0 ?_
     refine held_ta 5 hHeld0 ?_
     refine held_tv 6 (.int .i64 (m1 : Int)) rfl (fun wq hSq => exec_dec _ rfl HM1.out HMB.out rfl) hHeld0 ?_
     refine held_ta 7 hHeld0 ?_
     refine held_ta 8 hHeld0 ?_
     refine held_ta 9 hHeld0 ?_
     refine held_ta 10 hHeld0 ?_
     refine held_ta 11 hHeld0 ?_
     refine held_ta 12 hHeld0 ?_
     refine held_ta 13 hHeld0 ?_
     refine held_tv 14 (.bool (decide (s < u))) rfl (fun wq hSq => exec_gts _ _ rfl rfl rfl) hHeld0 ?_
     refine held_ta 15 hHeld0 ?_
     refine wpAnyH_done (by kernel_rfl) ?_ _
     clear hHeld0
     go_wp2_with fail
     go_meet
     exact ⟨by rw [HGB.out], HI3.out⟩
    obtain ⟨rfl, hI3⟩ := hcut
    have HI3 := hid hI3
    clear hI3 HI2 o7 v7 s0
    obtain ⟨gb, hgb⟩ : ∃ q, goB s ms m = q := ⟨_, rfl⟩
    have HGB := hid hgb
    rw [hgb]
    clear hgb
    cases gb with
    | true =>
     obtain ⟨m1, hm1, hp1⟩ := goB_yes HGB.out
     subst hm1
     have HP1 := hid hp1
     have hmb : m1 ≤ 20000000 := by have := HML.out; omega
     clear hp1
     go_wp2_with fail
     go_roundg m1
     case measure => have := Hkm.out; omega
     exact ⟨m1, rfl, by omega, by go_num, by rw [HPOS.out, HP1.out], HI3.out⟩
    | false =>
     have HAT : Hid (posR s ms ms.length = m) := hid (by rw [HPOS.out, goB_no HGB.out])
     go_wp2_with fail
     have hcm : ms.length ≤ cm := by
      obtain ⟨p9, c9, e9, h9, _⟩ := HI3.out.nm.s
      cases e9
      exact h9
     have HMC := hid hcm
     have HMM := hid hm
     have hmm : m ≤ 20000000 := by have := HML.out; omega
     clear hcm
     obtain ⟨u9, hu9⟩ : ∃ u, sliced pm 0 m cm 1 = u := ⟨_, rfl⟩
     have HU9 := hid hu9
     have HUX : Hid (NamX wc u9 (ms.take m)) := hid (by rw [← hu9]; exact HI3.out.nm.lo hm)
     clear hu9
     have HMK : Hid (∀ wq, Below wc.heap.size wc wq → (fun wq => wq.cell? ⟨g + 2, 7, none⟩ = some (Value.slice pm ms.length cm) ∧ wq.cell? ⟨g, 7, none⟩ = some (Value.slice (some ⟨gn, fn, none⟩) ns.length e1) ∧ wq.cell? ⟨gn, fn + i, none⟩ = some (.string ⟨s.toArray⟩) ∧ Below wc.heap.size wc wq) wq) := hid (fun wq hq => by
      have h1 := HI3.out.below hq
      exact ⟨h1.out.cell 7 _ rfl, (HCC.out _ _ h1.v).cell 7 _ rfl, HSC.out wq h1.be, hq⟩)
     have HB0 : Hid (Below wc.heap.size wc wc.drew) := hid (Below.refl _ _).drew
     have hS0 := HMK.out _ HB0.out
     go_upto_region 12 with fail
     obtain ⟨wo, rfl⟩ : ∃ W, W = wc := ⟨wc, rfl⟩
     go_cut [6] from 42 to 54 (fun s6 wB => ∃ vB, vB = s6 ∧ NamV wB (g + 3) vB (ms.take m ++ [s]) ∧ Below wo.heap.size wo wB ∧ ∀ k, vB.ownBlock = some k → wo.heap.size ≤ k)
     case first =>
      refine wp_region_held_drew (S := (fun wq => wq.cell? ⟨g + 2, 7, none⟩ = some (Value.slice pm ms.length cm) ∧ wq.cell? ⟨g, 7, none⟩ = some (Value.slice (some ⟨gn, fn, none⟩) ns.length e1) ∧ wq.cell? ⟨gn, fn + i, none⟩ = some (.string ⟨s.toArray⟩) ∧ Below wo.heap.size wo wq)) (by kernel_rfl) hS0 (fun hHeld0 => ?_)
      obtain ⟨wd, hwd⟩ : ∃ wd, wo.drew = wd := ⟨_, rfl⟩
      rw [hwd] at HB0 hHeld0 ⊢
      clear hwd hS0
      refine held_ta 0 hHeld0 ?_
      refine held_ta 1 hHeld0 ?_
      refine held_ta 2 hHeld0 ?_
      refine held_ta 3 hHeld0 ?_
      refine held_tv 4 u9 rfl (fun wq hSq => by rw [← HU9.out]; exact exec_slice_h _ _ rfl und_names (size_str _) rfl rfl (Nat.le_trans HMM.out HMC.out)) hHeld0 ?_
      refine held_ta 6 hHeld0 ?_
      refine held_ta 7 hHeld0 ?_
      refine held_ta 8 hHeld0 ?_
      refine held_ta 9 hHeld0 ?_
      refine held_ta 10 hHeld0 ?_
      refine held_two (i := 5) (j := 11) (by kernel_rfl) rfl rfl (by rfl) (by rfl) (fun K hK => ?_) (fun K hK => ?_)
      ·
       refine oper_append_names _ _ rfl (g + 3) (.slice none 0 0) u9 [] (ms.take m) rfl (NamV.nil _ _) rfl (HUX.out.below HB0.out) ?ha0 ?hb0 (fun vA wA h1 h2 h3 => ?_)
       case ha0 => rw [List.length_take, List.length_nil]; omega
       case hb0 => have := HI3.out.out.lt; have := HB0.out.size; omega
       rw [List.nil_append] at h1
       have HBA : Hid (Below wo.heap.size wo wA) := hid (HB0.out.grown h2 HB0.out.size (fun k hk => by cases hk))
       have HNA := hid h1
       have HFA : Hid (∀ k, vA.ownBlock = some k → wo.heap.size ≤ k) := hid (fun k hk => by
        rcases h3 k hk with h9 | h9
        ·cases h9
        exact Nat.le_trans HB0.out.size h9)
       clear h1 h2 h3
       try simp only [Act.put, List.setIfInBounds_toArray, List.set_cons_zero, List.set_cons_succ]
       refine hK.out _ _ (HMK.out _ HBA.out) (fun hHeld1 => ?_)
       clear hK K hHeld0
       refine held_st 11 rfl (fun K hK => ?_)
       go_simp
       have hba : Below wA.heap.size wA (wA.alloc (.cells #[.string ⟨s.toArray⟩] 9)) := (Below.refl _ _).alloc (Nat.le_refl _) _
       have HBX : Hid (Below wo.heap.size wo (wA.alloc (.cells #[.string ⟨s.toArray⟩] 9))) := hid (HBA.out.trans (hba.mono HBA.out.size))
       have HX9 := hid (NamX.one wA s)
       have HNA := hid (HNA.out.below hba)
       obtain ⟨G9, hG9⟩ : ∃ G, wA.heap.size = G := ⟨_, rfl⟩
       obtain ⟨wX, hwX⟩ : ∃ W, wA.alloc (.cells #[.string ⟨s.toArray⟩] 9) = W := ⟨_, rfl⟩
       rw [hwX] at HBX HX9 ⊢
       rw [hG9] at HX9 ⊢
       rw [hwX] at HNA
       clear hba hwX hG9
       refine hK.out _ _ (HMK.out _ HBX.out) (fun hHeld2 => ?_)
       clear hK K hHeld1
       refine held_st 12 rfl (fun K hK => ?_)
       refine oper_append_names _ _ rfl (g + 3) vA _ (ms.take m) [s] rfl HNA.out rfl HX9.out ?ha1 ?hb1 (fun vB wB h1 h2 h3 => ?_)
       case ha1 => rw [List.length_take, List.length_singleton]; omega
       case hb1 => have := HI3.out.out.lt; have := HBX.out.size; omega
       have HBB : Hid (Below wo.heap.size wo wB) := hid (HBX.out.grown h2 HBX.out.size (fun k hk => HFA.out k hk))
       have HNB := hid h1
       have HFB : Hid (∀ k, vB.ownBlock = some k → wo.heap.size ≤ k) := hid (fun k hk => by
        rcases h3 k hk with h9 | h9
        ·exact HFA.out k h9
        exact Nat.le_trans HBX.out.size h9)
       clear h1 h2 h3
       try simp only [Act.put, List.setIfInBounds_toArray, List.set_cons_zero, List.set_cons_succ]
       refine hK.out _ _ (HMK.out _ HBB.out) (fun hHeld3 => ?_)
       clear hK K hHeld2
       refine held_ta 13 hHeld3 ?_
       refine wpAnyH_done (by kernel_rfl) ?_ _
       clear hHeld3
       go_wp2_with fail
       go_meet
       exact ⟨_, rfl, HNB.out, HBB.out, HFB.out⟩
      go_simp
      have hba : Below wd.heap.size wd (wd.alloc (.cells #[.string ⟨s.toArray⟩] 9)) := (Below.refl _ _).alloc (Nat.le_refl _) _
      have HBX : Hid (Below wo.heap.size wo (wd.alloc (.cells #[.string ⟨s.toArray⟩] 9))) := hid (HB0.out.trans (hba.mono HB0.out.size))
      have HX9 := hid (NamX.one wd s)
      obtain ⟨G9, hG9⟩ : ∃ G, wd.heap.size = G := ⟨_, rfl⟩
      obtain ⟨wX, hwX⟩ : ∃ W, wd.alloc (.cells #[.string ⟨s.toArray⟩] 9) = W := ⟨_, rfl⟩
      rw [hwX] at HBX HX9 ⊢
      rw [hG9] at HX9 ⊢
      clear hba hwX hG9
      refine hK.out _ _ (HMK.out _ HBX.out) (fun hHeld1 => ?_)
      clear hK K hHeld0
      refine held_st 5 rfl (fun K hK => ?_)
      refine oper_append_names _ _ rfl (g + 3) (.slice none 0 0) u9 [] (ms.take m) rfl (NamV.nil _ _) rfl (HUX.out.below HBX.out) ?ha2 ?hb2 (fun vA wA h1 h2 h3 => ?_)
      case ha2 => rw [List.length_take, List.length_nil]; omega
      case hb2 => have := HI3.out.out.lt; have := HBX.out.size; omega
      rw [List.nil_append] at h1
      have HBA : Hid (Below wo.heap.size wo wA) := hid (HBX.out.grown h2 HBX.out.size (fun k hk => by cases hk))
      have HNA := hid h1
      have HFA : Hid (∀ k, vA.ownBlock = some k → wo.heap.size ≤ k) := hid (fun k hk => by
       rcases h3 k hk with h9 | h9
       ·cases h9
       exact Nat.le_trans HBX.out.size h9)
      have HXA := hid (HX9.out.below ((Below.refl _ _).grown h2 (Nat.le_refl _) (fun k hk => by cases hk)))
      clear h1 h2 h3
      try simp only [Act.put, List.setIfInBounds_toArray, List.set_cons_zero, List.set_cons_succ]
      refine hK.out _ _ (HMK.out _ HBA.out) (fun hHeld2 => ?_)
      clear hK K hHeld1
      refine held_st 12 rfl (fun K hK => ?_)
      refine oper_append_names _ _ rfl (g + 3) vA _ (ms.take m) [s] rfl HNA.out rfl HXA.out ?ha3 ?hb3 (fun vB wB h1 h2 h3 => ?_)
      case ha3 => rw [List.length_take, List.length_singleton]; omega
      case hb3 => have := HI3.out.out.lt; have := HBA.out.size; omega
      have HBB : Hid (Below wo.heap.size wo wB) := hid (HBA.out.grown h2 HBA.out.size (fun k hk => HFA.out k hk))
      have HNB := hid h1
      have HFB : Hid (∀ k, vB.ownBlock = some k → wo.heap.size ≤ k) := hid (fun k hk => by
       rcases h3 k hk with h9 | h9
       ·exact HFA.out k h9
       exact Nat.le_trans HBA.out.size h9)
      clear h1 h2 h3
      try simp only [Act.put, List.setIfInBounds_toArray, List.set_cons_zero, List.set_cons_succ]
      refine hK.out _ _ (HMK.out _ HBB.out) (fun hHeld3 => ?_)
      clear hK K hHeld2
      refine held_ta 13 hHeld3 ?_
      refine wpAnyH_done (by kernel_rfl) ?_ _
      clear hHeld3
      go_wp2_with fail
      go_meet
      exact ⟨_, rfl, HNB.out, HBB.out, HFB.out⟩
     obtain ⟨vB, rfl, hnb, hbb, hfb⟩ := hcut
     have HNB := hid hnb
     have HBB := hid hbb
     have HFB := hid hfb
     clear hnb hbb hfb
     have HIB := hid (HI3.out.below HBB.out)
     have o7 : _ = some (Value.slice pm ms.length cm) := HIB.out.out.cell 7 _ rfl
     go_wp2_with (first | (refine wpList_hiN rfl _ _ rfl HIB.out.nm rfl rfl rfl HMM.out ?_; intro uC hUC) | (at_builtin; go_must (refine wpList_append_names rfl _ _ rfl (g + 3) vB uC (ms.take m ++ [s]) (ms.drop m) rfl HNB.out rfl hUC ?hc ?hd ?_)))
     case hc => have := HML.out; have := HMM.out; first | omega | (simp only [List.length_append, List.length_take, List.length_drop, List.length_singleton]; omega)
     case hd => have := HI3.out.out.lt; have := HBB.out.size; omega
     intro vC wC h1 h2 h3
     have HBC : Hid (Below wo.heap.size wo wC) := hid (HBB.out.grown h2 HBB.out.size (fun k hk => HFB.out k hk))
     have hfc : ∀ k, vC.ownBlock = some k → wo.heap.size ≤ k := fun k hk => by
      rcases h3 k hk with h9 | h9
      ·exact HFB.out k h9
      exact Nat.le_trans HBB.out.size h9
     have HII : Hid (insN s ms = ms.take m ++ s :: ms.drop m) := hid (by unfold insN; rw [HAT.out])
     try simp only [List.append_assoc, List.cons_append, List.nil_append] at h1
     rw [← HII.out] at h1
     have HIC := hid (HI3.out.newN HBC.out h1 hfc)
     have HOC := hid (HI3.out.below HBC.out).out
     obtain ⟨pv9, cv9, hvC⟩ := h1.forms
     obtain ⟨m9, hm9⟩ : ∃ m, (insN s ms).length = m := ⟨_, rfl⟩
     rw [hm9] at hvC
     clear hm9
     subst hvC
     have k7 := HOC.out.cell 7 _ rfl
     have f7 := HOC.out.free 7
     clear h1 h2 h3 hfc o7 hUC
     go_wp2_with fail
     go_meet
     refine ⟨m, _, rfl, by have := HML.out; have := HRL.out; have := HMM.out; omega, by rw [HST.out]; exact HIC.out, ?_⟩
     rw [HST.out]
     show insP s (sortJ x) ms (srS 5 l ns i).2 = _
     unfold insP
     rw [HAT.out]
   obtain ⟨at9, nv2, rfl, hat, hI4, hsp⟩ := hcut
   have HI4 := hid hI4
   have HSP := hid hsp
   have HAT := hid hat
   clear hI4 hsp HI HMS v6 o6 v0
   have hcl : rs.length ≤ cl := by
    rcases HI4.out.js.row.2 with ⟨e, h0⟩ | ⟨g9, c9, u9, e, _, _, h3, _⟩
    ·injection e with _ e2 e3; omega
    injection e with _ e2 e3; omega
   have HCL := hid hcl
   have hrb : rs.length ≤ 20000000 := by have := HRL.out; omega
   clear hcl
   obtain ⟨gl, fl, rfl, _, hgl, hcs⟩ := HL.out (by omega)
   have HRA : Hid (∀ W, Below w0.heap.size w0 W → W.rangeAt gl (fl + i * 8) (jcells (x, xs i))) := hid (fun W hW c v hc => by
    have hc8 : c < 8 := (List.getElem?_eq_some_iff.1 hc).1
    rw [hW.cell (p := ⟨gl, fl + i * 8 + c, none⟩) hgl, hcs i x HX.out c hc8]; exact hc)
   have HBW : Hid (Below w0.heap.size w0 wc) := hid (HB.out.trans (HI4.out.be.mono HB.out.size))
   clear hcs hgl
   obtain ⟨u9, hu9⟩ : ∃ u, sliced pl 0 at9 cl 8 = u := ⟨_, rfl⟩
   have HU9 := hid hu9
   have HUX : Hid (JsX wc u9 (rs.take at9)) := hid (by rw [← hu9]; exact HI4.out.js.lo hat)
   clear hu9
   have HEA : Hid (∀ q ∈ rs, JV wc (fun k => SepC g 0 nv2 k) q) := hid (fun q hq => (HI4.out.js.each q hq).mono (fun k _ hk => hk.1))
   have HXG : Hid (goodJ x = true) := hid ((goodL_iff l).1 HGL.out x (List.mem_of_getElem? HX.out))
   have HXS : Hid (szJ x ≤ 20000000) := hid (by have := szL_in HX.out; have := HSZ.out; omega)
   have HMK : Hid (∀ wq, Below wc.heap.size wc wq → (fun wq => wq.cell? ⟨g + 2, 6, none⟩ = some (Value.slice pl rs.length cl) ∧ wq.cell? ⟨g, 6, none⟩ = some (Value.slice (some ⟨gl, fl, none⟩) l.length c1) ∧ Below wc.heap.size wc wq) wq) := hid (fun wq hq => by
    have h1 := HI4.out.below hq
    exact ⟨h1.out.cell 6 _ rfl, (HCC.out _ _ h1.v).cell 6 _ rfl, hq⟩)
   have HB0 : Hid (Below wc.heap.size wc wc.drew) := hid (Below.refl _ _).drew
   have hS0 := HMK.out _ HB0.out
   go_upto_region 15 with fail
   obtain ⟨wo, rfl⟩ : ∃ W, W = wc := ⟨wc, rfl⟩
   go_cut [7] from 62 to 75 (fun s7 wB => ∃ vB lvA nvA, vB = s7 ∧ JsV wB (g + 3) (SepC g 0 nv2) vB (rs.take at9 ++ [(sortJ x, lvA, nvA)]) ∧ Below wo.heap.size wo wB ∧ ∀ k, vB.ownBlock = some k → wo.heap.size ≤ k)
   case first =>
    refine wp_region_held_drew (S := (fun wq => wq.cell? ⟨g + 2, 6, none⟩ = some (Value.slice pl rs.length cl) ∧ wq.cell? ⟨g, 6, none⟩ = some (Value.slice (some ⟨gl, fl, none⟩) l.length c1) ∧ Below wo.heap.size wo wq)) (by kernel_rfl) hS0 (fun hHeld0 => ?_)
    obtain ⟨wd, hwd⟩ : ∃ wd, wo.drew = wd := ⟨_, rfl⟩
    rw [hwd] at HB0 hHeld0 ⊢
    clear hwd hS0
    refine held_ta 0 hHeld0 ?_
    refine held_ta 1 hHeld0 ?_
    refine held_ta 2 hHeld0 ?_
    refine held_ta 3 hHeld0 ?_
    refine held_tv 4 u9 rfl (fun wq hSq => by rw [← HU9.out]; exact exec_slice_h _ _ rfl und_jsons (size_json _) rfl rfl (Nat.le_trans HAT.out HCL.out)) hHeld0 ?_
    refine held_ta 6 hHeld0 ?_
    refine held_ta 7 hHeld0 ?_
    refine held_ta 8 hHeld0 ?_
    refine held_ta 9 hHeld0 ?_
    refine held_tv 10 (jval (x, xs i)) rfl (fun wq hSq => exec_load8 _ rfl rfl (x, xs i) (HRA.out wq (HBW.out.trans (hSq.2.2.mono HBW.out.size)))) hHeld0 ?_
    refine held_st 5 rfl (fun K hK => ?_)
    refine oper_append_jsons _ _ rfl (g + 3) (SepC g 0 nv2) (.slice none 0 0) u9 [] (rs.take at9) rfl (JsV.nil _ _ _) rfl (HUX.out.below HB0.out) (fun q hq => ((HEA.out q (List.mem_of_mem_take hq)).bel HB0.out).mono (fun k _ hk => ⟨hk, fun e => by cases e⟩)) ?ha0 ?hb0 (fun vA wA h1 h2 h3 => ?_)
    case ha0 => rw [List.length_take, List.length_nil]; omega
    case hb0 => have := HI4.out.out.lt; have := HB0.out.size; omega
    rw [List.nil_append] at h1
    have HBA : Hid (Below wo.heap.size wo wA) := hid (HB0.out.grown h2 HB0.out.size (fun k hk => by cases hk))
    have HNA := hid h1
    have HFA : Hid (∀ k, vA.ownBlock = some k → wo.heap.size ≤ k) := hid (fun k hk => by
     rcases h3 k hk with h9 | h9
     ·cases h9
     exact Nat.le_trans HB0.out.size h9)
    clear h1 h2 h3
    try simp only [Act.put, List.setIfInBounds_toArray, List.set_cons_zero, List.set_cons_succ]
    refine hK.out _ _ (HMK.out _ HBA.out) (fun hHeld1 => ?_)
    clear hK K hHeld0
    refine held_st 11 rfl (fun K hK => ?_)
    go_simp
    refine (HIH.out i x HX.out wA (HBW.out.trans (HBA.out.mono HBW.out.size)) HXG.out HXS.out).mono ?_
    rintro ez wE ⟨lvA, nvA, rfl, hJA, hBA⟩
    have HBE : Hid (Below wo.heap.size wo wE) := hid (HBA.out.trans (hBA.mono HBA.out.size))
    have HNE := hid (HNA.out.below hBA)
    have HJE := hid hJA
    have HLA : Hid (∀ k, vA.ownBlock = some k → k < wA.heap.size) := hid (fun k hk => (HNA.out.lt hk).2)
    clear hBA hJA
    refine hK.out _ _ (HMK.out _ HBE.out) (fun hHeld2 => ?_)
    clear hK K hHeld1
    refine held_st 12 rfl (fun K hK => ?_)
    refine oper_buildJ _ rfl (sortJ x, lvA, nvA) rfl ?_
    intro wF hBxF
    have HBF : Hid (Below wo.heap.size wo wF) := hid (HBE.out.trans (hBxF.be.mono HBE.out.size))
    have HNF := hid (HNE.out.below hBxF.be)
    have HJF := hid (HJE.out.bel hBxF.be)
    have HXF : Hid (JsX wF (.slice (some ⟨wE.heap.size, 0, none⟩) 1 1) [(sortJ x, lvA, nvA)]) := hid (.inr ⟨wE.heap.size, 0, 1, rfl, fun i q hq => by
     cases i with
     | zero => simp only [List.getElem?_cons_zero, Option.some.injEq] at hq; subst hq; intro c v hc; rw [show 0 + 0 * 8 + c = c by omega]; exact hBxF.row.cell c v hc
     | succ i => simp at hq⟩)
    clear hBxF
    refine hK.out _ _ (HMK.out _ HBF.out) (fun hHeld3 => ?_)
    clear hK K hHeld2
    refine held_st 13 rfl (fun K hK => ?_)
    refine oper_append_jsons _ _ rfl (g + 3) (SepC g 0 nv2) vA _ (rs.take at9) [(sortJ x, lvA, nvA)] rfl HNF.out rfl HXF.out ?hq1 ?ha1 ?hb1 (fun vB wB h1 h2 h3 => ?_)
    case hq1 => intro q hq; rw [List.mem_singleton.1 hq]; exact HJF.out.mono (fun k _ hk => ⟨⟨⟨by have := HI4.out.out.lt; have := HBA.out.size; omega, fun e => by have := (World.ownsRow.lt HI4.out.nm k e).2; have := HBA.out.size; omega⟩, by have := HI4.out.out.lt; have := HBA.out.size; omega⟩, fun e => by have := HLA.out k e; omega⟩)
    case ha1 => rw [List.length_take, List.length_singleton]; omega
    case hb1 => have := HI4.out.out.lt; have := HBF.out.size; omega
    have HBB : Hid (Below wo.heap.size wo wB) := hid (HBF.out.grown h2 HBF.out.size (fun k hk => HFA.out k hk))
    have HNB := hid h1
    have HFB : Hid (∀ k, vB.ownBlock = some k → wo.heap.size ≤ k) := hid (fun k hk => by
     rcases h3 k hk with h9 | h9
     ·exact HFA.out k h9
     exact Nat.le_trans HBF.out.size h9)
    clear h1 h2 h3
    try simp only [Act.put, List.setIfInBounds_toArray, List.set_cons_zero, List.set_cons_succ]
    refine hK.out _ _ (HMK.out _ HBB.out) (fun hHeld4 => ?_)
    clear hK K hHeld3
    refine held_ta 14 hHeld4 ?_
    refine wpAnyH_done (by kernel_rfl) ?_ _
    clear hHeld4
    go_wp2_with fail
    go_meet
    exact ⟨_, _, _, rfl, HNB.out, HBB.out, HFB.out⟩
   obtain ⟨vB, lvA, nvA, rfl, hnb, hbb, hfb⟩ := hcut
   have HNB := hid hnb
   have HBB := hid hbb
   have HFB := hid hfb
   clear hnb hbb hfb
   have HIB := hid (HI4.out.below HBB.out)
   have o6 : _ = some (Value.slice pl rs.length cl) := HIB.out.out.cell 6 _ rfl
   have HQD : Hid (∀ q ∈ rs.drop at9, JV wc (fun k => SepC g 0 nv2 k ∧ vB.ownBlock ≠ some k) q) := hid (fun q hq => ((HEA.out q (List.mem_of_mem_drop hq)).mono (fun k hk hs => ⟨hs, fun e => by have := HFB.out k e; omega⟩)).bel HBB.out)
   go_wp2_with (first | (refine wpList_hiJ rfl _ _ rfl HIB.out.js rfl rfl rfl HAT.out ?_; intro uC hUC) | (at_builtin; go_must (refine wpList_append_jsons rfl _ _ rfl (g + 3) (SepC g 0 nv2) vB uC (rs.take at9 ++ [(sortJ x, lvA, nvA)]) (rs.drop at9) rfl HNB.out rfl hUC HQD.out ?hc ?hd ?_)))
   case hc => have := HRL.out; have := HSZ.out; have := HAT.out; first | omega | (simp only [List.length_append, List.length_take, List.length_drop, List.length_singleton]; omega)
   case hd => have := HI4.out.out.lt; have := HBB.out.size; omega
   intro vC wC h1 h2 h3
   have HBC : Hid (Below wo.heap.size wo wC) := hid (HBB.out.grown h2 HBB.out.size (fun k hk => HFB.out k hk))
   try simp only [List.append_assoc, List.cons_append, List.nil_append] at h1
   have HIC := hid ((HI4.out.below HBC.out).newL h1)
   have HOC := hid (HI4.out.below HBC.out).out
   have HMP : Hid ((rs.take at9 ++ (sortJ x, lvA, nvA) :: rs.drop at9).map (·.1) = (srS k l ns (i + 1)).2) := hid (by rw [HSP.out, ← HRS.out]; simp [List.map_take, List.map_drop])
   obtain ⟨RS9, hRS9⟩ : ∃ R, rs.take at9 ++ (sortJ x, lvA, nvA) :: rs.drop at9 = R := ⟨_, rfl⟩
   rw [hRS9] at h1 HIC HMP
   clear hRS9
   obtain ⟨pv9, cv9, hvC⟩ := h1.forms
   obtain ⟨m9, hm9⟩ : ∃ m, RS9.length = m := ⟨_, rfl⟩
   rw [hm9] at hvC
   clear hm9
   subst hvC
   have k6 := HOC.out.cell 6 _ rfl
   have f6 := HOC.out.free 6
   clear h1 h2 h3 o6 hUC
   go_wp2_with fail
   go_roundg (l.length - (i + 1))
   case measure => have := Hki.out; omega
   exact ⟨i + 1, _, _, _, rfl, by omega, by go_num, HIC.out, HMP.out⟩
  have hlti : ¬ (i : Int) < (l.length : Int) := by omega
  obtain rfl : i = l.length := by omega
  obtain ⟨pn, cn, hnv⟩ := HI.out.nm.forms
  rw [hnv] at HI
  clear hnv
  obtain ⟨NL, hNL⟩ : ∃ m, (srS k l ns l.length).1.length = m := ⟨_, rfl⟩
  rw [hNL] at HI
  clear hNL
  have HDN : Hid (JV wr (fun k => g + 3 ≤ k) (CJ, .slice pl rs.length cl, .slice pn NL cn)) := hid (by
   have h9 := HI.out.done
   rw [HRS.out, show R1.1 = J.mk k b n t l ns from HR1.out] at h9
   rw [← HSE.out]
   exact h9)
  have HOU : Hid (RowAt wr (g + 2) (jcells (CJ, .slice pl rs.length cl, .slice pn NL cn))) := hid (by
   have h9 := HI.out.out
   rw [show R1.1 = J.mk k b n t l ns from HR1.out] at h9
   rw [← HSE.out]
   exact h9)
  skip
  go_wp2_with (first | with_reducible refine stop_ret ?_ | refine wpList_loadJ rfl _ rfl (CJ, .slice pl rs.length cl, .slice pn NL cn) HOU.out rfl ?_ | (refine wpList_storeJ rfl _ _ rfl rfl HI.out.res rfl (CJ, .slice pl rs.length cl, .slice pn NL cn) ⟨rfl, rfl⟩ rfl rfl ?_; intro wS hSx))
  refine hid ?_
  refine bodyPost_retJ (CJ, .slice pl rs.length cl, .slice pn NL cn) rfl rfl rfl hSx.row ?_
  exact ⟨_, _, rfl, (HDN.out.apart hSx.apart (fun k hk _ e => by omega)).mono (fun k _ hk => by have := HG0.out; omega), hSx.below HI.out.be (by have := HG0.out; omega) HI.out.be.size⟩
end Go.Proofs.YtfclfaidmipjpaaGreatDoor
