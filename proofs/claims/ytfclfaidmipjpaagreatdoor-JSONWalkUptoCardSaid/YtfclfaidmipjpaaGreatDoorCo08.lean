/- Texts of this claim, joined: Jp3, Jp4, Ix1. -/
import Derived.Test.YtfclfaidmipjpaaGreatDoorCo07
namespace Go.Proofs.YtfclfaidmipjpaaGreatDoor
set_option maxRecDepth 100000
set_option maxHeartbeats 20000000
open Go.Lib (hid)
open Go.RowKit
theorem frac_no {r : List UInt8} (h : (oneS [46] r).1 = 0) : fracR r = some r := by unfold fracR; rw [h]; rfl
theorem frac_yes {r r' : List UInt8} (h : (oneS [46] r).1 = 46) (h2 : (oneS [46] r).2 = r') : fracR r = if (digsS r').length = 0 then none else some (r'.drop (digsS r').length) := by
 unfold fracR
 rw [if_pos h, h2, rest_drop]
 by_cases h3 : digsS r' = []
 ·rw [if_pos h3, if_pos (by rw [h3]; rfl)]
 rw [if_neg h3, if_neg (by rw [List.length_eq_zero_iff]; exact h3)]
theorem pow_no {r : List UInt8} (h : (oneS [101, 69] r).1 = 0) : powR2 r = some r := by unfold powR2; rw [if_pos h]
theorem pow_yes {r r1 r2 : List UInt8} (h : (oneS [101, 69] r).1 ≠ 0) (h1 : (oneS [101, 69] r).2 = r1) (h2 : (oneS [43, 45] r1).2 = r2) : powR2 r = if (digsS r2).length = 0 then none else some (r2.drop (digsS r2).length) := by
 unfold powR2
 rw [if_neg h, h1, h2, rest_drop]
 by_cases h3 : digsS r2 = []
 ·rw [if_pos h3, if_pos (by rw [h3]; rfl)]
 rw [if_neg h3, if_neg (by rw [List.length_eq_zero_iff]; exact h3)]
theorem ext_drop (l : List UInt8) (a : Nat) : (⟨l.toArray⟩ : ByteArray).extract a l.length = ⟨(l.drop a).toArray⟩ := by rw [Lib.extract_eq]; rw [List.take_of_length_le (by simp)]
theorem head_drop (l : List UInt8) (a : Nat) (h : a < l.length) : (l.drop a).head? = some (l.getD a 0) := by
 rw [List.head?_drop, List.getD_eq_getElem?_getD, List.getElem?_eq_getElem h]; rfl
theorem numberP_calls (w : World) (l : List UInt8) (hl : l.length ≤ 1000000000) : Calls Tryz.prog 84 #[.string ⟨l.toArray⟩] w (NumP w l) := by
 obtain ⟨a, ha1, hal, hone, hsg⟩ := one_drop [45] l
 have HN := hid (numR_at hone)
 have HSG := hid hsg
 clear hone hsg
 go_enter Tryz.func84, Tryz.ntmps84
 go_wp2_with fail
 refine (same (Tryz.strings_HasPrefix ⟨(l).toArray⟩ ⟨#[45]⟩ _)).mono ?_
 rintro e w1 ⟨rfl, rfl⟩
 rw [show Lib.hasPrefix (⟨(l).toArray⟩ : ByteArray).data.toList (⟨#[45]⟩ : ByteArray).data.toList = ((l).head? == some 45) from pre_one (l) 45]
 go_upto_if 6 with fail
 go_cut [3] from 6 to 6 (fun s3 wc => s3 = .int .i64 (a : Int) ∧ w = wc)
 case first =>
  rcases HSG.out with ⟨rfl, c, h1, h2, _⟩ | ⟨rfl, _, h3⟩
  ·
   have hb : (l.head? == some 45) = true := by
    simp only [List.contains_cons, List.contains_nil, Bool.or_false, beq_iff_eq] at h2
    rw [h1, h2]; rfl
   rw [hb]
   go_wp2_with fail
   go_meet
   exact ⟨rfl, rfl⟩
  have hb : (l.head? == some 45) = false := by
   rw [beq_eq_false_iff_ne]
   intro e
   have := h3 45 e
   revert this; decide
  rw [hb]
  go_wp2_with fail
  go_meet
  exact ⟨rfl, rfl⟩
 obtain ⟨rfl, rfl⟩ := hcut
 have hext := ext_drop l a
 have hal2 : (a : Int) ≤ (l.length : Int) := by omega
 go_wp2_with fail
 refine (digits_calls w (l.drop a) (by rw [List.length_drop]; omega)).mono ?_
 rintro e w1 ⟨rfl, rfl⟩
 have hdl := digs_le (l.drop a)
 rw [List.length_drop] at hdl
 have HD : Hid (digsS (l.drop a) = [] ↔ (digsS (l.drop a)).length = 0) := hid List.length_eq_zero_iff.symm
 have HD0 : Hid (0 < (digsS (l.drop a)).length → (digsS (l.drop a)).getD 0 0 = l.getD a 0) := hid (fun h => by
  have h9 := digs_le (l.drop a)
  rw [List.length_drop] at h9
  have h8 : a < l.length := by omega
  have h7 : digsS (l.drop a) = l.getD a 0 :: (digsS (l.drop a)).tail := by
   unfold digsS at h ⊢
   rw [show l.drop a = l.getD a 0 :: l.drop (a + 1) from drop_at h8] at h ⊢
   rw [List.takeWhile_cons] at h ⊢
   split
   ·rfl
   rename_i h6; rw [if_neg h6] at h; simp at h
  rw [h7]; rfl)
 generalize digsS (l.drop a) = D at *
 obtain ⟨n1, hn1⟩ : ∃ n, D.length = n := ⟨_, rfl⟩
 rw [hn1] at HN HD HD0 hdl ⊢
 clear hn1
 go_upto_region 5 with fail
 go_cut [22] from 11 to 22 (fun s22 wc => ∃ bb : Bool, s22 = .bool bb ∧ w = wc ∧ ((bb = true ∧ numR l = none) ∨ (bb = false ∧ numR l = (fracR (l.drop (a + n1))).bind powR2)))
 case first =>
  by_cases h0 : n1 = 0
  ·
   have HZ : Hid (numR l = none) := hid (by rw [HN.out, if_pos (.inl (HD.out.2 h0))])
   subst h0
   go_wp2_with fail
   go_meet
   exact ⟨true, rfl, rfl, .inl ⟨rfl, HZ.out⟩⟩
  have h0b : ((n1 : Int) == 0) = false := by rw [beq_eq_false_iff_ne]; omega
  by_cases h1 : 1 < n1
  ·
   have h1i : (1 : Int) < (n1 : Int) := by omega
   have halt : a < l.length := by omega
   have halt2 : (a : Int) < (l.length : Int) := by omega
   have hij := byte_at l a halt
   have HG := hid (HD0.out (by omega))
   by_cases h48 : (l.getD a 0).toNat = 48
   ·
    have HZ : Hid (numR l = none) := hid (by rw [HN.out, if_pos (.inr ⟨by rw [HG.out]; exact UInt8.toNat_inj.1 (by rw [h48]; rfl), h1⟩)])
    have hcb : (((l.getD a 0).toNat : Int) == 48) = true := by rw [beq_iff_eq]; omega
    generalize l.getD a 0 = c at *
    go_wp2_with fail
    go_meet
    exact ⟨true, rfl, rfl, .inl ⟨rfl, HZ.out⟩⟩
   have HZ : Hid (numR l = (fracR (l.drop (a + n1))).bind powR2) := hid (by
    rw [HN.out, if_neg]
    rintro (h | ⟨h, _⟩)
    ·exact h0 (HD.out.1 h)
    rw [HG.out] at h; exact h48 (by rw [h]; rfl))
   have hcb : (((l.getD a 0).toNat : Int) == 48) = false := by rw [beq_eq_false_iff_ne]; omega
   generalize l.getD a 0 = c at *
   go_wp2_with fail
   go_meet
   exact ⟨false, rfl, rfl, .inr ⟨rfl, HZ.out⟩⟩
  have h1i : ¬ (1 : Int) < (n1 : Int) := by omega
  have h1d : decide ((1 : Int) < (n1 : Int)) = false := by rw [decide_eq_false_iff_not]; exact h1i
  have HZ : Hid (numR l = (fracR (l.drop (a + n1))).bind powR2) := hid (by
   rw [HN.out, if_neg]
   rintro (h | ⟨_, h⟩)
   ·exact h0 (HD.out.1 h)
   exact h1 h)
  go_wp2_with fail
  go_meet
  exact ⟨false, rfl, rfl, .inr ⟨rfl, HZ.out⟩⟩
 obtain ⟨bb, rfl, rfl, hnum⟩ := hcut
 rcases hnum with ⟨rfl, hz⟩ | ⟨rfl, hnum⟩
 ·
  have HZ := hid hz
  clear hz
  go_wp2_with fail
  go_ret
  exact ⟨rfl, 0, rfl, .inl ⟨rfl, HZ.out⟩⟩
 have HNUM := hid hnum
 clear hnum HN HD HD0 HSG
 obtain ⟨b, hb⟩ : ∃ b, a + n1 = b := ⟨_, rfl⟩
 have hbl : b ≤ l.length := by omega
 have hbi : (a : Int) + (n1 : Int) = (b : Int) := by omega
 rw [hb] at HNUM
 have hbl2 : (b : Int) ≤ (l.length : Int) := by omega
 have hextb := ext_drop l b
 have hwr : IntKind.i64.wrap ((a : Int) + (n1 : Int)) = (b : Int) := by rw [hbi]; exact IntWalk.i64_in _ (by omega)
 go_wp2_with fail
 refine (same (Tryz.strings_HasPrefix ⟨(l.drop b).toArray⟩ ⟨#[46]⟩ _)).mono ?_
 rintro e w1 ⟨rfl, rfl⟩
 rw [show Lib.hasPrefix (⟨(l.drop b).toArray⟩ : ByteArray).data.toList (⟨#[46]⟩ : ByteArray).data.toList = ((l.drop b).head? == some 46) from pre_one (l.drop b) 46]
 obtain ⟨a2, ha2, ha2l, hone2, hsg2⟩ := one_drop [46] (l.drop b)
 rw [List.length_drop] at ha2l
 rw [List.drop_drop] at hone2
 have HS2 := hid hsg2
 have HO2 := hid hone2
 clear hsg2 hone2 hwr hb
 go_upto_if 29 with fail
 go_cut [3, 4] from 29 to 40 (fun s3 s4 wc => ∃ b2 : Nat, s3 = .int .i64 (b2 : Int) ∧ b2 ≤ l.length ∧ w = wc ∧ fracR (l.drop b) = some (l.drop b2))
 case first =>
  rcases HS2.out with ⟨rfl, c, h1, h2, h3⟩ | ⟨rfl, h3, h4⟩
  ·
   have hc46 : c = 46 := by simpa using h2
   subst hc46
   have hbt : ((l.drop b).head? == some 46) = true := by rw [h1]; rfl
   have hbt2 : (l[b]? == some 46) = true := by rw [← List.head?_drop]; exact hbt
   have HFR := hid (frac_yes h3 HO2.out)
   clear h1 h2 h3
   obtain ⟨b1, hb1⟩ : ∃ q, b + 1 = q := ⟨_, rfl⟩
   have hb1l : b1 ≤ l.length := by omega
   have hb1i : (b1 : Int) ≤ (l.length : Int) := by omega
   have hextb1 := ext_drop l b1
   have hb1c : (b : Int) + 1 = (b1 : Int) := by omega
   rw [hb1] at HFR
   rw [hbt2]
   go_wp2_with fail
   refine (digits_calls w (l.drop b1) (by rw [List.length_drop]; omega)).mono ?_
   rintro e w1 ⟨rfl, rfl⟩
   have hdl2 := digs_le (l.drop b1)
   rw [List.length_drop] at hdl2
   generalize (digsS (l.drop b1)).length = n2 at *
   by_cases h0 : n2 = 0
   ·
    have HZ : Hid (numR l = none) := hid (by rw [HNUM.out, HFR.out, if_pos h0]; rfl)
    subst h0
    go_wp2_with fail
    go_ret
    exact ⟨rfl, 0, rfl, .inl ⟨rfl, HZ.out⟩⟩
   have h0b : ((n2 : Int) == 0) = false := by rw [beq_eq_false_iff_ne]; omega
   have HZ : Hid (fracR (l.drop b) = some (l.drop (b + (1 + n2)))) := hid (by rw [HFR.out, if_neg h0, List.drop_drop, ← hb1, Nat.add_assoc])
   go_wp2_with fail
   go_meet
   exact ⟨b + (1 + n2), by go_num, by omega, rfl, HZ.out⟩
  have hbt : ((l.drop b).head? == some 46) = false := by
   rw [beq_eq_false_iff_ne]
   intro e
   have := h4 46 e
   revert this; decide
  have hbt2 : (l[b]? == some 46) = false := by rw [← List.head?_drop]; exact hbt
  have HZ := hid (frac_no h3)
  clear h3 h4
  rw [hbt2]
  go_wp2_with fail
  go_meet
  exact ⟨b, rfl, hbl, rfl, HZ.out⟩
 obtain ⟨b2, rfl, hb2, rfl, hfr⟩ := hcut
 have HP : Hid (numR l = powR2 (l.drop b2)) := hid (by rw [HNUM.out, hfr]; rfl)
 clear hfr HNUM HS2 HO2 hextb hext hbl2 hbi hbl ha2l
 go_upto_region 13 with fail
 go_cut [56] from 41 to 56 (fun s56 wc => ∃ bb : Bool, s56 = .bool bb ∧ w = wc ∧ ((bb = true ∧ b2 < l.length ∧ [101, 69].contains (l.getD b2 0) = true) ∨ (bb = false ∧ powR2 (l.drop b2) = some (l.drop b2))))
 case first =>
  by_cases hlt : b2 < l.length
  ·
   have hlt2 : (b2 : Int) < (l.length : Int) := by omega
   have hij := byte_at l b2 hlt
   by_cases hE : [101, 69].contains (l.getD b2 0) = true
   ·
    have HE := hid hE
    generalize l.getD b2 0 = c at *
    have hcc : ((c.toNat : Int) == 101) = true ∨ (((c.toNat : Int) == 101) = false ∧ ((c.toNat : Int) == 69) = true) := by
     simp only [List.contains_cons, List.contains_nil, Bool.or_false, Bool.or_eq_true, beq_iff_eq] at hE
     rcases hE with rfl | rfl
     ·exact .inl rfl
     exact .inr ⟨rfl, rfl⟩
    clear hE
    rcases hcc with k1 | ⟨k1, k2⟩
    ·
     go_wp2_with fail
     go_meet
     exact ⟨true, rfl, rfl, .inl ⟨rfl, hlt, HE.out⟩⟩
    go_wp2_with fail
    go_meet
    exact ⟨true, rfl, rfl, .inl ⟨rfl, hlt, HE.out⟩⟩
   have HZ : Hid (powR2 (l.drop b2) = some (l.drop b2)) := by
    refine hid (pow_no ?_)
    rw [show l.drop b2 = l.getD b2 0 :: l.drop (b2 + 1) from drop_at hlt, oneS_cons', if_neg hE]
   generalize l.getD b2 0 = c at *
   have k1 : ((c.toNat : Int) == 101) = false := by
    rw [beq_eq_false_iff_ne]
    intro e
    have h9 : c.toNat = 101 := by omega
    have : c = 101 := UInt8.toNat_inj.1 (by rw [h9]; rfl)
    subst this
    exact hE rfl
   have k2 : ((c.toNat : Int) == 69) = false := by
    rw [beq_eq_false_iff_ne]
    intro e
    have h9 : c.toNat = 69 := by omega
    have : c = 69 := UInt8.toNat_inj.1 (by rw [h9]; rfl)
    subst this
    exact hE rfl
   clear hE
   go_wp2_with fail
   go_meet
   exact ⟨false, rfl, rfl, .inr ⟨rfl, HZ.out⟩⟩
  have hlt2 : ¬ (b2 : Int) < (l.length : Int) := by omega
  have hlt3 : decide ((b2 : Int) < (l.length : Int)) = false := by rw [decide_eq_false_iff_not]; exact hlt2
  have HZ : Hid (powR2 (l.drop b2) = some (l.drop b2)) := hid (by rw [List.drop_of_length_le (show l.length ≤ b2 by omega)]; rfl)
  go_wp2_with fail
  go_meet
  exact ⟨false, rfl, rfl, .inr ⟨rfl, HZ.out⟩⟩
 obtain ⟨bb, rfl, rfl, hE⟩ := hcut
 go_upto_if 56 with fail
 go_cut [3, 4] from 57 to 85 (fun s3 s4 wc => ∃ b3 : Nat, s3 = .int .i64 (b3 : Int) ∧ b3 ≤ l.length ∧ w = wc ∧ powR2 (l.drop b2) = some (l.drop b3))
 case first =>
  rcases hE with ⟨rfl, hlt, hE⟩ | ⟨rfl, hz⟩
  ·
   obtain ⟨m, hm⟩ : ∃ m, b2 + 1 = m := ⟨_, rfl⟩
   have hmi : (b2 : Int) + 1 = (m : Int) := by omega
   have hml : m ≤ l.length := by omega
   obtain ⟨a4, ha4, ha4l, hone4, hsg4⟩ := one_drop [43, 45] (l.drop m)
   rw [List.length_drop] at ha4l
   rw [List.drop_drop] at hone4
   have HS4 := hid hsg4
   have HPW : Hid (powR2 (l.drop b2) = if (digsS (l.drop (m + a4))).length = 0 then none else some ((l.drop (m + a4)).drop (digsS (l.drop (m + a4))).length)) := by
    refine hid (pow_yes ?_ ?_ hone4)
    ·rw [show l.drop b2 = l.getD b2 0 :: l.drop (b2 + 1) from drop_at hlt, oneS_cons', if_pos hE]
     intro e
     have e2 : l.getD b2 0 = 0 := e
     rw [e2] at hE
     revert hE; decide
    rw [show l.drop b2 = l.getD b2 0 :: l.drop (b2 + 1) from drop_at hlt, oneS_cons', if_pos hE, hm]
   clear hsg4 hone4 hE
   go_upto_region 15 with fail
   go_cut [74] from 59 to 74 (fun s74 wc => s74 = .bool (decide (a4 = 1)) ∧ w = wc)
   case first =>
    by_cases hml2 : m < l.length
    ·
     have hml3 : (m : Int) < (l.length : Int) := by omega
     have hijm := byte_at l m hml2
     have hsg4 := HS4.out
     rw [head_drop l m hml2] at hsg4
     generalize l.getD m 0 = d at *
     rcases hsg4 with ⟨rfl, d2, h1, h2, _⟩ | ⟨rfl, _, h3⟩
     ·
      cases h1
      have hcc : ((d.toNat : Int) == 43) = true ∨ (((d.toNat : Int) == 43) = false ∧ ((d.toNat : Int) == 45) = true) := by
       simp only [List.contains_cons, List.contains_nil, Bool.or_false, Bool.or_eq_true, beq_iff_eq] at h2
       rcases h2 with rfl | rfl
       ·exact .inl rfl
       exact .inr ⟨rfl, rfl⟩
      clear h2
      rcases hcc with k1 | ⟨k1, k2⟩
      ·
       go_wp2_with fail
       go_meet
       exact ⟨rfl, rfl⟩
      go_wp2_with fail
      go_meet
      exact ⟨rfl, rfl⟩
     have k0 := h3 d rfl
     have k1 : ((d.toNat : Int) == 43) = false := by
      rw [beq_eq_false_iff_ne]
      intro e
      have h9 : d.toNat = 43 := by omega
      have : d = 43 := UInt8.toNat_inj.1 (by rw [h9]; rfl)
      subst this
      revert k0; decide
     have k2 : ((d.toNat : Int) == 45) = false := by
      rw [beq_eq_false_iff_ne]
      intro e
      have h9 : d.toNat = 45 := by omega
      have : d = 45 := UInt8.toNat_inj.1 (by rw [h9]; rfl)
      subst this
      revert k0; decide
     clear k0 h3
     go_wp2_with fail
     go_meet
     exact ⟨rfl, rfl⟩
    have hml3 : ¬ (m : Int) < (l.length : Int) := by omega
    have hml4 : decide ((m : Int) < (l.length : Int)) = false := by rw [decide_eq_false_iff_not]; exact hml3
    obtain rfl : a4 = 0 := by omega
    go_wp2_with fail
    go_meet
    exact ⟨rfl, rfl⟩
   obtain ⟨rfl, rfl⟩ := hcut
   clear HS4
   go_upto_if 74 with fail
   go_cut [3] from 75 to 76 (fun s3 wc => s3 = .int .i64 ((m + a4 : Nat) : Int) ∧ w = wc)
   case first =>
    have h01 : a4 = 0 ∨ a4 = 1 := by omega
    rcases h01 with rfl | rfl
    ·
     go_wp2_with fail
     go_meet
     exact ⟨by go_num, rfl⟩
    go_wp2_with fail
    go_meet
    exact ⟨by go_num, rfl⟩
   obtain ⟨rfl, rfl⟩ := hcut
   obtain ⟨q, hq⟩ : ∃ q, m + a4 = q := ⟨_, rfl⟩
   rw [hq] at HPW ⊢
   have hql : q ≤ l.length := by omega
   have hql2 : (q : Int) ≤ (l.length : Int) := by omega
   have hextq := ext_drop l q
   clear hq
   go_wp2_with fail
   refine (digits_calls w (l.drop q) (by rw [List.length_drop]; omega)).mono ?_
   rintro e w1 ⟨rfl, rfl⟩
   have hdl3 := digs_le (l.drop q)
   rw [List.length_drop] at hdl3
   generalize (digsS (l.drop q)).length = n3 at *
   by_cases h0 : n3 = 0
   ·
    have HZ : Hid (numR l = none) := hid (by rw [HP.out, HPW.out, if_pos h0])
    subst h0
    go_wp2_with fail
    go_ret
    exact ⟨rfl, 0, rfl, .inl ⟨rfl, HZ.out⟩⟩
   have h0b : ((n3 : Int) == 0) = false := by rw [beq_eq_false_iff_ne]; omega
   have HZ : Hid (powR2 (l.drop b2) = some (l.drop (q + n3))) := hid (by rw [HPW.out, if_neg h0, List.drop_drop])
   go_wp2_with fail
   go_meet
   exact ⟨q + n3, by go_num, by omega, rfl, HZ.out⟩
  go_wp2_with fail
  go_meet
  exact ⟨b2, rfl, hb2, rfl, hz⟩
 obtain ⟨b3, rfl, hb3, rfl, hpw⟩ := hcut
 have HZ : Hid (numR l = some (l.drop b3)) := hid (by rw [HP.out, hpw])
 clear hpw
 go_wp2_with fail
 go_ret
 refine ⟨rfl, b3, rfl, .inr ⟨?_, hb3, HZ.out⟩⟩
 have h9 := numR_len HZ.out
 rw [List.length_drop] at h9
 omega
open Go.RowKit
def hexL : List UInt8 := [48, 49, 50, 51, 52, 53, 54, 55, 56, 57, 97, 98, 99, 100, 101, 102, 65, 66, 67, 68, 69, 70]
def hexOK (c : UInt8) : Bool := match hexV c with
 | none => decide (Lib.indexByte hexL c < 0)
 | some d => decide (d < 16) && (decide (Lib.indexByte hexL c = d) || decide (Lib.indexByte hexL c = d + 6 ∧ 10 ≤ d))
theorem hex_all : ((List.range 256).all fun n => hexOK (UInt8.ofNat n)) = true := by decide +kernel
theorem hex_ok (c : UInt8) : hexOK c = true := by
 have h := List.all_eq_true.1 hex_all c.toNat (List.mem_range.2 c.toNat_lt)
 rw [UInt8.ofNat_toNat] at h
 exact h
theorem or16 {x d : Nat} (hx : x ≤ 4095) (hd : d < 16) : bits BinOp.or IntKind.i32 ((x : Int) * 16) (d : Int) = ((16 * x + d : Nat) : Int) := by
 have h1 : (BitVec.ofInt 32 ((x : Int) * 16)).toNat = 16 * x := by
  rw [BitVec.toNat_ofInt]
  omega
 have h2 : (BitVec.ofInt 32 (d : Int)).toNat = d := by
  rw [BitVec.toNat_ofInt]
  omega
 have h3 : (16 * x) ||| d = 16 * x + d := (Nat.two_pow_add_eq_or_of_lt (i := 4) hd x).symm
 show IntKind.i32.wrap (((BitVec.ofInt 32 ((x : Int) * 16)) ||| (BitVec.ofInt 32 (d : Int))).toNat : Int) = _
 rw [BitVec.toNat_or, h1, h2, h3]
 exact IntWalk.i32_in _ (by omega)
def HexP (w : World) (l : List UInt8) (e : Ending) (w' : World) : Prop :=
 Below w.heap.size w w' ∧ ((hexN 4 0 l = none ∧ e = .returned (.tuple #[.int .i32 0, .bool false])) ∨ ∃ y, y ≤ 65535 ∧ hexN 4 0 l = some (y, l.drop 4) ∧ e = .returned (.tuple #[.int .i32 (y : Int), .bool true]))
theorem hex_short {l : List UInt8} (h : l.length < 4) : hexN 4 0 l = none := by
 cases hh : hexN 4 0 l with
 | none => rfl
 | some x => obtain ⟨y, r⟩ := x; have := hexN_len _ _ _ _ _ hh; omega
theorem hexP_calls (w : World) (l : List UInt8) (hl : l.length ≤ 1000000000) : Calls Tryz.prog 115 #[.string ⟨l.toArray⟩] w (HexP w l) := by
 go_enter Tryz.func115, Tryz.ntmps115
 by_cases h4 : l.length < 4
 ·have h4i : (l.length : Int) < 4 := by omega
  have HS := hid (hex_short h4)
  clear h4
  go_wp2_with fail
  first | go_ret | go_ret2
  exact ⟨Below.refl _ _, .inl ⟨HS.out, rfl⟩⟩
 have h4i : ¬ (l.length : Int) < 4 := by omega
 have h4j : (4 : Int) ≤ (l.length : Int) := by omega
 have htl : (l.take 4).length = 4 := by rw [List.length_take]; omega
 obtain ⟨cap, hcv, hwv, hbe⟩ := waitV_string w (l.take 4) (by rw [htl]; decide)
 rw [htl] at hcv hwv
 have hcell : ∀ j, j < 4 → (Lib.bytesWorld w 5 ⟨(l.take 4).toArray⟩).cell? ⟨w.heap.size, j, none⟩ = some (.int .u8 ((l.getD j 0).toNat : Int)) := fun j hj => by
  have h := hwv.byts.at j (by rw [htl]; exact hj)
  rw [Nat.zero_add] at h
  rw [h]
  congr 4
  simp only [List.getD_eq_getElem?_getD, List.getElem?_take, if_pos hj]
 have hext : (⟨l.toArray⟩ : ByteArray).extract 0 4 = ⟨(l.take 4).toArray⟩ := by rw [Lib.extract_eq]; simp
 have HC := hid hcell
 have HB := hid hbe
 clear hwv htl hcell hbe
 go_upto_region 5 with fail
 generalize Lib.bytesWorld w 5 ⟨(l.take 4).toArray⟩ = w1 at *
 clear hcv
 go_wp2_with fail
 go_loopg [4, 15] 4 (fun k s4 s15 wr => ∃ (j x : Nat), k = 4 - j ∧ j ≤ 4 ∧ s4 = .int .i32 (x : Int) ∧ s15 = .int .i64 (j : Int) ∧ x < 16 ^ j ∧ hexN 4 0 l = hexN (4 - j) x (l.drop j) ∧ w1 = wr)
 case atStart => exact ⟨0, 0, rfl, by omega, rfl, rfl, by decide, rfl, rfl⟩
 obtain ⟨j, x, hk, hj, rfl, rfl, hx, hh, rfl⟩ := hrel
 have Hk := hid hk
 have HH := hid hh
 have HX := hid hx
 clear hk hh
 by_cases hlt : j < 4
 ·have hlt2 : (j : Int) < 4 := by omega
  have hx4 : x ≤ 4095 := by
   have h9 : (16 : Nat) ^ j ≤ 16 ^ 3 := Nat.pow_le_pow_right (by omega) (by omega)
   omega
  have hcc := HC.out j hlt
  have HN := hid (hexN_at l j (4 - (j + 1)) x)
  rw [show 4 - (j + 1) + 1 = 4 - j by omega] at HN
  have HOK := hid (hex_ok (l.getD j 0))
  have HJL : Hid (j < l.length) := hid (by omega)
  clear hx
  generalize l.getD j 0 = c at *
  go_wp2_with fail
  refine (same (Tryz.strings_IndexByte ⟨hexL.toArray⟩ _ _)).mono ?_
  rintro e w2 ⟨rfl, rfl⟩
  have hcl : (c.toNat : Int).toNat.toUInt8 = c := by simp
  have hix : Lib.indexByte (⟨hexL.toArray⟩ : ByteArray).data.toList c = Lib.indexByte hexL c := rfl
  rw [hcl, hix]
  have hok := HOK.out
  unfold hexOK at hok
  cases hv : hexV c with
  | none =>
   rw [hv] at hok
   have hneg : Lib.indexByte hexL c < 0 := by simpa using hok
   have HF : Hid (hexN 4 0 l = none) := hid (by rw [HH.out, HN.out, hv])
   generalize Lib.indexByte hexL c = ix at *
   clear hok hcl hix hv
   go_wp2_with fail
   first | go_ret | go_ret2
   exact ⟨HB.out, .inl ⟨HF.out, rfl⟩⟩
  | some d =>
   rw [hv] at hok
   simp only [Bool.and_eq_true, Bool.or_eq_true, decide_eq_true_eq] at hok
   obtain ⟨hd, hix2⟩ := hok
   have HF : Hid (hexN 4 0 l = hexN (4 - (j + 1)) (16 * x + d) (l.drop (j + 1))) := hid (by rw [HH.out, HN.out, hv])
   generalize Lib.indexByte hexL c = ix at *
   clear hcl hix hv
   rcases hix2 with h9 | ⟨h9, h8⟩
   ·subst h9
    have hn0 : ¬ (d : Int) < 0 := by omega
    have hn1 : ¬ (15 : Int) < (d : Int) := by omega
    have hor := or16 hx4 hd
    have HD := hid hd
    clear hd
    go_wp2_with fail
    go_roundg (4 - (j + 1))
    case measure => have := Hk.out; omega
    exact ⟨j + 1, 16 * x + d, rfl, by omega, rfl, by go_num, by have := HX.out; have := HD.out; rw [Nat.pow_succ]; omega, HF.out, rfl⟩
   subst h9
   have hn0 : ¬ (d : Int) + 6 < 0 := by omega
   have hn1 : (15 : Int) < (d : Int) + 6 := by omega
   have hor := or16 hx4 hd
   have HD := hid hd
   go_wp2_with fail
   go_roundg (4 - (j + 1))
   case measure => have := Hk.out; omega
   exact ⟨j + 1, 16 * x + d, rfl, by omega, rfl, by go_num, by have := HX.out; have := HD.out; rw [Nat.pow_succ]; omega, HF.out, rfl⟩
 obtain rfl : j = 4 := by omega
 have hlt2 : ¬ (4 : Int) < 4 := by omega
 have HF : Hid (hexN 4 0 l = some (x, l.drop 4)) := hid (by rw [HH.out]; rfl)
 have HX6 : Hid (x ≤ 65535) := hid (by have := HX.out; omega)
 go_wp2_with fail
 first | go_ret | go_ret2
 exact ⟨HB.out, .inr ⟨x, HX6.out, HF.out, rfl⟩⟩
open Go.RowKit
theorem validRune_calls (r : Int) (w : World) (h : (128 ≤ r ∧ r < 55296) ∨ (57343 < r ∧ r ≤ 1114111)) :
  Calls Tryz.prog 143 #[.int .i32 r] w fun e w' => e = .returned (.bool true) ∧ w = w' := by
 go_enter Tryz.func143, Tryz.ntmps143
 by_cases h1 : r < 55296
 ·have h0 : 0 ≤ r := by omega
  go_wp2
  go_ret
  exact ⟨rfl, rfl⟩
 ·have h0 : 0 ≤ r := by omega
  have h2 : 57343 < r := by omega
  have h3 : r ≤ 1114111 := by omega
  go_wp2
  go_ret
  exact ⟨rfl, rfl⟩
theorem idx_high (l : List UInt8) (c : UInt8) (h : ∀ x ∈ l, x.toNat < 128) (hc : 128 ≤ c.toNat) : Lib.indexByte l c = -1 := by
 induction l with
 | nil => rfl
 | cons b l ih =>
  have hb : (b == c) = false := by
   rw [beq_eq_false_iff_ne]
   intro e
   have := h b (List.mem_cons_self ..)
   rw [e] at this
   omega
  unfold Lib.indexByte
  rw [if_neg (by simp [hb]), ih (fun x hx => h x (List.mem_cons_of_mem _ hx))]
  rfl
def sevenL : List UInt8 := [34, 92, 8, 12, 10, 13, 9]
theorem idxBad_calls (w : World) : Calls Tryz.prog 105 #[.string ⟨#[34, 92, 8, 12, 10, 13, 9]⟩, .int .i32 65533] w fun e w' => e = .returned (.int .i64 (-1)) ∧ Below w.heap.size w w' := by
 obtain ⟨s, hs⟩ : ∃ s : ByteArray, (⟨#[34, 92, 8, 12, 10, 13, 9]⟩ : ByteArray) = s := ⟨_, rfl⟩
 have hsz : s.size = 7 := by rw [← hs]; rfl
 have hal : ∀ (pos : Nat) (h : pos < s.size), (s[pos]'h).toNat < 128 := by
  subst hs
  intro pos h
  have h7 : pos < 7 := h
  match pos, h7 with
  | 0, _ => show (34 : UInt8).toNat < 128; decide
  | 1, _ => show (92 : UInt8).toNat < 128; decide
  | 2, _ => show (8 : UInt8).toNat < 128; decide
  | 3, _ => show (12 : UInt8).toNat < 128; decide
  | 4, _ => show (10 : UInt8).toNat < 128; decide
  | 5, _ => show (13 : UInt8).toNat < 128; decide
  | 6, _ => show (9 : UInt8).toNat < 128; decide
 rw [hs]
 clear hs
 go_enter Tryz.func105, Tryz.ntmps105
 go_wp2
 go_loopw [] (fun wr => ∃ (pos : Nat), wr.heap[w.heap.size]? = some (.stringIter s pos) ∧ Below w.heap.size w wr) (fun wr => s.size - wr.iterPos w.heap.size)
 case atStart =>
  refine ⟨0, ?_, (Below.refl _ w).alloc (Nat.le_refl _) _⟩
  have := World.iter_heap w s 0
  simpa using this
 obtain ⟨pos, hit, hbw⟩ := hrel
 have hszw : w.heap.size < wr.heap.size := (Array.getElem?_eq_some_iff.1 hit).1
 by_cases hp : pos < s.size
 ·have hx := hal pos hp
  have hnx : ∀ ty, (Instr.next (.pointer (some ⟨w.heap.size, 0, none⟩)) true ty).run Tryz.prog wr = _ := fun ty => Lib.run_next_ascii_at wr w.heap.size s pos ty hit hp hx
  have hit2 := Lib.iterAt_heap wr w.heap.size s pos (pos + 1) hit
  have hbw2 := Lib.below_iterAt hbw (k := w.heap.size) (Nat.le_refl _) s (pos + 1)
  generalize (s[pos]'hp).toNat = x at *
  have hne : ¬ (x : Int) = 65533 := by omega
  go_wp2
  go_roundw
  case rel => exact ⟨pos + 1, hit2, hbw2⟩
  simp only [World.iterPos, hit2, hit]
  omega
 have hnx : ∀ ty, (Instr.next (.pointer (some ⟨w.heap.size, 0, none⟩)) true ty).run Tryz.prog wr = _ := fun ty => Lib.run_next_end_at wr w.heap.size s pos ty hit hp
 go_wp2
 go_ret
 exact ⟨rfl, hbw⟩
theorem idxHigh_calls (r : Int) (w : World) (h : (128 ≤ r ∧ r < 55296) ∨ (57343 < r ∧ r ≤ 1114111)) (hne : r ≠ 65533) : Calls Tryz.prog 105 #[.string ⟨#[34, 92, 8, 12, 10, 13, 9]⟩, .int .i32 r] w fun e w' => e = .returned (.int .i64 (-1)) ∧ Below w.heap.size w w' := by
 have h128 : 128 ≤ r := by omega
 have hv : Utf8.valid r = true := by rw [validRune_eq]; unfold validRune; simp; omega
 obtain ⟨e2, e4, el⟩ := encode_facts r hv h128
 have hn1 : ¬ r < 128 := by omega
 have hn0 : 0 ≤ r := by omega
 have H := hid h
 clear h hv
 go_enter Tryz.func105, Tryz.ntmps105
 have hcv : ∀ w', (convert 21 9 (.int .i32 r)).run Tryz.prog w' = .ok (.string (Utf8.encode r)) w' := fun w' => run_convert_int_string w' _ _ .i32 r (by rw [Tryz.underlying21]; rfl) Tryz.underlying9
 go_upto_region 1 with (refine (validRune_calls r w H.out).mono ?_; rintro e w' ⟨rfl, rfl⟩)
 refine wp_scope_straight ?_
 go_upto_region 2 with fail
 generalize Utf8.encode r = rs at *
 obtain ⟨⟨l⟩⟩ := rs
 have hl : 2 ≤ l.length ∧ l.length ≤ 4 := ⟨by simpa [ByteArray.size] using e2, by simpa [ByteArray.size] using e4⟩
 have W2 : IntKind.i64.wrap 2 = 2 := rfl
 have W3 : IntKind.i64.wrap 3 = 3 := rfl
 have W4 : IntKind.i64.wrap 4 = 4 := rfl
 match l, hl, e2, e4, el with
 | [y0, y1], _, e2, e4, el =>
  have hx : 128 ≤ (y1).toNat := el (by show 2 - 1 < 2; omega)
  clear el e2 e4
  have hxi : ¬ (y1.toNat : Int) = 92 := by omega
  have hxj : ¬ 92 = y1.toNat := by omega
  have g1 : ∀ h, (⟨#[34, 92, 8, 12, 10, 13, 9]⟩ : ByteArray)[1]'h = 92 := fun _ => rfl
  have g2 : ∀ h, (⟨⟨[y0, y1]⟩⟩ : ByteArray)[1]'h = y1 := fun _ => rfl
  have hca : ∀ (w : World), Calls Tryz.prog 114 #[.string ((⟨#[34, 92, 8, 12, 10, 13, 9]⟩ : ByteArray).extract 2 7), .int .u8 (y1.toNat : Int)] w fun e w' => e = .returned (.int .i64 (-1)) ∧ w' = w := fun w => by
   refine (Tryz.strings_IndexByte _ _ _).mono ?_
   rintro e w' ⟨rfl, hw⟩
   refine ⟨?_, hw⟩
   rw [show ((y1.toNat : Int).toNat.toUInt8) = y1 from by simp, idx_high _ _ (by decide) hx]
  go_wp2_with fail
  refine wp_loop_rounds 1 ?_
  rw [rounds_succ]
  go_wp2_with fail
  refine wp_scope_straight ?_
  go_upto_region 6 with fail
  go_quiet (fail)
  have hbq : Below w.heap.size w (w.drewN nq) := below_drewN (Below.refl _ _) nq
  generalize w.drewN nq = wq at *
  go_upto_region 7 with fail
  go_quiet ((go_at_call 114; exact Calls.quiet_of_same (hca _)))
  go_wp2_with fail
  dsimp only [Exit.noGoto, Exit.inBlock, Exit.then]
  go_ret
  exact ⟨rfl, below_drewN hbq _⟩
 | [y0, y1, y2], _, e2, e4, el =>
  have hx : 128 ≤ (y2).toNat := el (by show 3 - 1 < 3; omega)
  clear el e2 e4
  have hxi : ¬ (y2.toNat : Int) = 8 := by omega
  have hxj : ¬ 8 = y2.toNat := by omega
  have g1 : ∀ h, (⟨#[34, 92, 8, 12, 10, 13, 9]⟩ : ByteArray)[2]'h = 8 := fun _ => rfl
  have g2 : ∀ h, (⟨⟨[y0, y1, y2]⟩⟩ : ByteArray)[2]'h = y2 := fun _ => rfl
  have hca : ∀ (w : World), Calls Tryz.prog 114 #[.string ((⟨#[34, 92, 8, 12, 10, 13, 9]⟩ : ByteArray).extract 3 7), .int .u8 (y2.toNat : Int)] w fun e w' => e = .returned (.int .i64 (-1)) ∧ w' = w := fun w => by
   refine (Tryz.strings_IndexByte _ _ _).mono ?_
   rintro e w' ⟨rfl, hw⟩
   refine ⟨?_, hw⟩
   rw [show ((y2.toNat : Int).toNat.toUInt8) = y2 from by simp, idx_high _ _ (by decide) hx]
  go_wp2_with fail
  refine wp_loop_rounds 1 ?_
  rw [rounds_succ]
  go_wp2_with fail
  refine wp_scope_straight ?_
  go_upto_region 6 with fail
  go_quiet (fail)
  have hbq : Below w.heap.size w (w.drewN nq) := below_drewN (Below.refl _ _) nq
  generalize w.drewN nq = wq at *
  go_upto_region 7 with fail
  go_quiet ((go_at_call 114; exact Calls.quiet_of_same (hca _)))
  go_wp2_with fail
  dsimp only [Exit.noGoto, Exit.inBlock, Exit.then]
  go_ret
  exact ⟨rfl, below_drewN hbq _⟩
 | [y0, y1, y2, y3], _, e2, e4, el =>
  have hx : 128 ≤ (y3).toNat := el (by show 4 - 1 < 4; omega)
  clear el e2 e4
  have hxi : ¬ (y3.toNat : Int) = 12 := by omega
  have hxj : ¬ 12 = y3.toNat := by omega
  have g1 : ∀ h, (⟨#[34, 92, 8, 12, 10, 13, 9]⟩ : ByteArray)[3]'h = 12 := fun _ => rfl
  have g2 : ∀ h, (⟨⟨[y0, y1, y2, y3]⟩⟩ : ByteArray)[3]'h = y3 := fun _ => rfl
  have hca : ∀ (w : World), Calls Tryz.prog 114 #[.string ((⟨#[34, 92, 8, 12, 10, 13, 9]⟩ : ByteArray).extract 4 7), .int .u8 (y3.toNat : Int)] w fun e w' => e = .returned (.int .i64 (-1)) ∧ w' = w := fun w => by
   refine (Tryz.strings_IndexByte _ _ _).mono ?_
   rintro e w' ⟨rfl, hw⟩
   refine ⟨?_, hw⟩
   rw [show ((y3.toNat : Int).toNat.toUInt8) = y3 from by simp, idx_high _ _ (by decide) hx]
  go_wp2_with fail
  refine wp_loop_rounds 1 ?_
  rw [rounds_succ]
  go_wp2_with fail
  refine wp_scope_straight ?_
  go_upto_region 6 with fail
  go_quiet (fail)
  have hbq : Below w.heap.size w (w.drewN nq) := below_drewN (Below.refl _ _) nq
  generalize w.drewN nq = wq at *
  go_upto_region 7 with fail
  go_quiet ((go_at_call 114; exact Calls.quiet_of_same (hca _)))
  go_wp2_with fail
  dsimp only [Exit.noGoto, Exit.inBlock, Exit.then]
  go_ret
  exact ⟨rfl, below_drewN hbq _⟩
end Go.Proofs.YtfclfaidmipjpaaGreatDoor
