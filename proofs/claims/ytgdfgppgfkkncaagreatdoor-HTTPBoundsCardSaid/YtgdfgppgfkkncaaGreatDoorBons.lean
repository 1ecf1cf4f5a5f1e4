/- The walk of HTTPBounds: over any world. Printed by gen_bons2.py. -/
import Derived.Test.YtgdfgppgfkkncaaGreatDoorBon
import Derived.Test.YtgdfgppgfkkncaaGreatDoorHtQ
namespace Go.Proofs.YtgdfgppgfkkncaaGreatDoor
open Go.RowKit

set_option maxHeartbeats 20000000 in
set_option maxRecDepth 100000 in
theorem bounds_calls (w : World) (he : Env w) : Calls Tryz.prog 5 #[] w fun e w' => e = .returned (.bool true) ∧ Below w.heap.size w w' := by
  have He := Lib.hid he
  clear he
  go_enter Tryz.func5, Tryz.ntmps5
  go_wp2_with fail
  refine (new_calls w).mono ?_
  rintro e w1 ⟨rfl, hcn, hb⟩
  obtain ⟨c1, hc1⟩ : ∃ x, w.heap.size = x := ⟨_, rfl⟩
  have HE0 := Lib.hid hb
  rw [hc1] at hcn ⊢
  have HK1 := Lib.hid hcn
  have hlt1 : c1 < w1.heap.size := hcn.row.lt
  clear hcn hb
  go_wp2_with fail
  refine (new_calls w1).mono ?_
  rintro e w2 ⟨rfl, hcn, hb⟩
  obtain ⟨c2, hc2⟩ : ∃ x, w1.heap.size = x := ⟨_, rfl⟩
  have HK2 := Lib.hid (HK1.out.below hb)
  clear HK1
  have HE3 := Lib.hid (HE0.out.trans (hb.mono HE0.out.size))
  clear HE0
  rw [hc2] at hcn ⊢
  have HK4 := Lib.hid hcn
  have hlt2 : c2 < w2.heap.size := hcn.row.lt
  clear hcn hb
  go_wp2_with fail
  refine (new_calls w2).mono ?_
  rintro e w3 ⟨rfl, hcn, hb⟩
  obtain ⟨c3, hc3⟩ : ∃ x, w2.heap.size = x := ⟨_, rfl⟩
  have HK5 := Lib.hid (HK2.out.below hb)
  clear HK2
  have HK6 := Lib.hid (HK4.out.below hb)
  clear HK4
  have HE7 := Lib.hid (HE3.out.trans (hb.mono HE3.out.size))
  clear HE3
  rw [hc3] at hcn ⊢
  have HK8 := Lib.hid hcn
  have hlt3 : c3 < w3.heap.size := hcn.row.lt
  clear hcn hb
  go_wp2_with fail
  refine (new_calls w3).mono ?_
  rintro e w4 ⟨rfl, hcn, hb⟩
  obtain ⟨c4, hc4⟩ : ∃ x, w3.heap.size = x := ⟨_, rfl⟩
  have HK9 := Lib.hid (HK5.out.below hb)
  clear HK5
  have HK10 := Lib.hid (HK6.out.below hb)
  clear HK6
  have HK11 := Lib.hid (HK8.out.below hb)
  clear HK8
  have HE12 := Lib.hid (HE7.out.trans (hb.mono HE7.out.size))
  clear HE7
  rw [hc4] at hcn ⊢
  have HK13 := Lib.hid hcn
  have hlt4 : c4 < w4.heap.size := hcn.row.lt
  clear hcn hb
  go_wp2_with fail
  refine (new_calls w4).mono ?_
  rintro e w5 ⟨rfl, hcn, hb⟩
  obtain ⟨c5, hc5⟩ : ∃ x, w4.heap.size = x := ⟨_, rfl⟩
  have HK14 := Lib.hid (HK9.out.below hb)
  clear HK9
  have HK15 := Lib.hid (HK10.out.below hb)
  clear HK10
  have HK16 := Lib.hid (HK11.out.below hb)
  clear HK11
  have HK17 := Lib.hid (HK13.out.below hb)
  clear HK13
  have HE18 := Lib.hid (HE12.out.trans (hb.mono HE12.out.size))
  clear HE12
  rw [hc5] at hcn ⊢
  have HK19 := Lib.hid hcn
  have hlt5 : c5 < w5.heap.size := hcn.row.lt
  clear hcn hb
  obtain ⟨K0, hK0⟩ : ∃ x, w5.heap.size = x := ⟨_, rfl⟩
  have HC1 := Lib.hid hc1
  have h12 : c1 < c2 := by omega
  have h23 : c2 < c3 := by omega
  have h34 : c3 < c4 := by omega
  have h45 : c4 < c5 := by omega
  have h5K : c5 < K0 := by omega
  have hKw : K0 ≤ w5.heap.size := by omega
  clear hc1 hc2 hc3 hc4 hc5 hlt1 hlt2 hlt3 hlt4 hlt5 hK0
  obtain ⟨F1, hF1⟩ : ∃ F, fillS 16353 = F := ⟨_, rfl⟩
  have HL1 : Hid (F1.length = 16384) := Lib.hid (by rw [← hF1, fillS_len])
  obtain ⟨q1, hq1⟩ := fill_take 16353 (by decide)
  have hfill := fill_calls w5 16353 16384 (by decide) (by decide)
  rw [hF1] at hfill hq1
  have ht1 : takeS [] false F1 = ([q1], 0, [], false) := by rw [takeS_live, List.nil_append, hq1]
  have Ht1 := Lib.hid ht1
  clear hF1 hq1 ht1
  go_wp2_with fail
  refine hfill.mono ?_
  rintro e w6 ⟨rfl, hb6⟩
  clear hfill
  have HK20 := Lib.hid (HK14.out.below hb6)
  clear HK14
  have HK21 := Lib.hid (HK15.out.below hb6)
  clear HK15
  have HK22 := Lib.hid (HK16.out.below hb6)
  clear HK16
  have HK23 := Lib.hid (HK17.out.below hb6)
  clear HK17
  have HK24 := Lib.hid (HK19.out.below hb6)
  clear HK19
  have HE25 := Lib.hid (HE18.out.trans (hb6.mono HE18.out.size))
  clear HE18
  have hKw26 : K0 ≤ w6.heap.size := Nat.le_trans hKw hb6.size
  clear hKw
  clear hb6
  obtain ⟨cap27, hconv27, hwv, hb⟩ := waitV_string w6 F1 (by have := HL1.out; omega)
  obtain ⟨w7, hnw⟩ : ∃ x, Lib.bytesWorld w6 5 ⟨F1.toArray⟩ = x := ⟨_, rfl⟩
  rw [hnw] at hconv27 hwv hb
  clear hnw
  obtain ⟨g27, hg27⟩ : ∃ x, w6.heap.size = x := ⟨_, rfl⟩
  have hgk27 : K0 ≤ g27 := by omega
  rw [hg27] at hconv27 hwv
  have HX27 := Lib.hid hwv
  have hgl27 : g27 < w7.heap.size := (hwv.lt rfl).2
  have HK28 := Lib.hid (HK20.out.below hb)
  clear HK20
  have HK29 := Lib.hid (HK21.out.below hb)
  clear HK21
  have HK30 := Lib.hid (HK22.out.below hb)
  clear HK22
  have HK31 := Lib.hid (HK23.out.below hb)
  clear HK23
  have HK32 := Lib.hid (HK24.out.below hb)
  clear HK24
  have HE33 := Lib.hid (HE25.out.trans (hb.mono HE25.out.size))
  clear HE25
  have hKw34 : K0 ≤ w7.heap.size := Nat.le_trans hKw26 hb.size
  clear hKw26
  clear hb hwv hg27
  go_wp2_with fail
  refine (take_calls w w7 He.out HE33.out HK28.out (by have := HC1.out; omega) HX27.out.byts (by have := HL1.out; simp; omega)).mono ?_
  rintro e w8 ⟨Bt35, x35, rs35, v35, rfl, hBt35, hr35, hm35, hcn, hap, hfr, hown⟩
  simp only [Ht1.out] at hm35 hcn ⊢
  obtain ⟨T35, hT35⟩ : ∃ x, w7.heap.size = x := ⟨_, rfl⟩
  have hTK35 : K0 ≤ T35 := by omega
  rw [hT35] at hown hBt35
  have HK36 := Lib.hid (HK29.out.keep hap (by omega) (fun k hk => absurd hk (own_nil k)) (fun k hk => absurd hk (own_nil k)) (fun k hk => absurd hk (own_nil k)))
  clear HK29
  have HK37 := Lib.hid (HK30.out.keep hap (by omega) (fun k hk => absurd hk (own_nil k)) (fun k hk => absurd hk (own_nil k)) (fun k hk => absurd hk (own_nil k)))
  clear HK30
  have HK38 := Lib.hid (HK31.out.keep hap (by omega) (fun k hk => absurd hk (own_nil k)) (fun k hk => absurd hk (own_nil k)) (fun k hk => absurd hk (own_nil k)))
  clear HK31
  have HK39 := Lib.hid (HK32.out.keep hap (by omega) (fun k hk => absurd hk (own_nil k)) (fun k hk => absurd hk (own_nil k)) (fun k hk => absurd hk (own_nil k)))
  clear HK32
  have HE40 := Lib.hid (TakeOut.below HE33.out HK28.out (by have := HC1.out; omega) hap)
  clear HE33
  have HO41 : Hid (∀ k, v35.ownBlock = some k → T35 ≤ k) := fun k hk => (hown k hk).resolve_left (own_nil k)
  have HK42 := Lib.hid hcn
  clear HK28
  have hKw43 : K0 ≤ w8.heap.size := Nat.le_trans hKw34 hap.size
  clear hKw34
  have hrl35 : rs35.length = 1 := by simpa using congrArg List.length hm35
  have HQ35 := Lib.hid hr35
  obtain ⟨px35, cx35, rfl⟩ := hr35.forms
  rw [hrl35] at HQ35 ⊢
  clear hcn hap hown hfr hr35 hT35
  clear hconv27 HX27 Ht1 HL1
  clear HK42
  obtain ⟨F2, hF2⟩ : ∃ F, fillS 16354 = F := ⟨_, rfl⟩
  have HL2 : Hid (F2.length = 16385) := Lib.hid (by rw [← hF2, fillS_len])
  have hq2 := fill_err 16354 (by decide)
  have hfm := fill_more 16354 16383 (by decide) (by decide)
  have hfl := fill_late 16354 16384 (by decide) (by decide)
  have hfillA := fun w => fill_calls w 16354 16385 (by decide) (by decide)
  rw [hF2] at hq2 hfm hfl
  simp only [hF2] at hfillA
  have ht2 : takeS [] false F2 = ([], 382, [], true) := by rw [takeS_live, List.nil_append, hq2]
  have Ht2 := Lib.hid ht2
  clear hF2 hq2 ht2
  obtain ⟨P1, hP1⟩ : ∃ P, F2.take 16383 = P := ⟨_, rfl⟩
  obtain ⟨P2, hP2⟩ : ∃ P, (F2.drop 16383).take 1 = P := ⟨_, rfl⟩
  have hPP : P1 ++ P2 = F2.take 16384 := by rw [← hP1, ← hP2, ← List.take_add]
  have HLP1 : Hid (P1.length = 16383) := Lib.hid (by have := HL2.out; rw [← hP1, List.length_take]; omega)
  have HLP2 : Hid (P2.length = 1) := Lib.hid (by have := HL2.out; rw [← hP2, List.length_take, List.length_drop]; omega)
  have ht3 : takeS [] false P1 = ([], 0, P1, false) := by rw [takeS_live, List.nil_append, ← hP1, hfm]
  have ht4 : takeS P1 false P2 = ([], 382, [], true) := by rw [takeS_live, hPP, hfl]
  have Ht3 := Lib.hid ht3
  have Ht4 := Lib.hid ht4
  have HP1 := Lib.hid hP1
  have HP2 := Lib.hid hP2
  have HFA := Lib.hid hfillA
  clear hfm hfl hPP ht3 ht4 hP1 hP2 hfillA
  go_wp2_with fail
  refine (HFA.out w8).mono ?_
  rintro e w9 ⟨rfl, hb9⟩
  have HK44 := Lib.hid (HK36.out.below hb9)
  clear HK36
  have HK45 := Lib.hid (HK37.out.below hb9)
  clear HK37
  have HK46 := Lib.hid (HK38.out.below hb9)
  clear HK38
  have HK47 := Lib.hid (HK39.out.below hb9)
  clear HK39
  have HE48 := Lib.hid (HE40.out.trans (hb9.mono HE40.out.size))
  clear HE40
  have hKw49 : K0 ≤ w9.heap.size := Nat.le_trans hKw43 hb9.size
  clear hKw43
  clear hb9
  obtain ⟨cap50, hconv50, hwv, hb⟩ := waitV_string w9 F2 (by have := HL2.out; omega)
  obtain ⟨w10, hnw⟩ : ∃ x, Lib.bytesWorld w9 5 ⟨F2.toArray⟩ = x := ⟨_, rfl⟩
  rw [hnw] at hconv50 hwv hb
  clear hnw
  obtain ⟨g50, hg50⟩ : ∃ x, w9.heap.size = x := ⟨_, rfl⟩
  have hgk50 : K0 ≤ g50 := by omega
  rw [hg50] at hconv50 hwv
  have HX50 := Lib.hid hwv
  have hgl50 : g50 < w10.heap.size := (hwv.lt rfl).2
  have HK51 := Lib.hid (HK44.out.below hb)
  clear HK44
  have HK52 := Lib.hid (HK45.out.below hb)
  clear HK45
  have HK53 := Lib.hid (HK46.out.below hb)
  clear HK46
  have HK54 := Lib.hid (HK47.out.below hb)
  clear HK47
  have HE55 := Lib.hid (HE48.out.trans (hb.mono HE48.out.size))
  clear HE48
  have hKw56 : K0 ≤ w10.heap.size := Nat.le_trans hKw49 hb.size
  clear hKw49
  clear hb hwv hg50
  go_wp2_with fail
  refine (take_calls w w10 He.out HE55.out HK51.out (by have := HC1.out; omega) HX50.out.byts (by have := HL2.out; simp; omega)).mono ?_
  rintro e w11 ⟨Bt57, x57, rs57, v57, rfl, hBt57, hr57, hm57, hcn, hap, hfr, hown⟩
  simp only [Ht2.out] at hm57 hcn ⊢
  obtain ⟨T57, hT57⟩ : ∃ x, w10.heap.size = x := ⟨_, rfl⟩
  have hTK57 : K0 ≤ T57 := by omega
  rw [hT57] at hown hBt57
  have HK58 := Lib.hid (HK52.out.keep hap (by omega) (fun k hk => absurd hk (own_nil k)) (fun k hk => absurd hk (own_nil k)) (fun k hk => absurd hk (own_nil k)))
  clear HK52
  have HK59 := Lib.hid (HK53.out.keep hap (by omega) (fun k hk => absurd hk (own_nil k)) (fun k hk => absurd hk (own_nil k)) (fun k hk => absurd hk (own_nil k)))
  clear HK53
  have HK60 := Lib.hid (HK54.out.keep hap (by omega) (fun k hk => absurd hk (own_nil k)) (fun k hk => absurd hk (own_nil k)) (fun k hk => absurd hk (own_nil k)))
  clear HK54
  have HE61 := Lib.hid (TakeOut.below HE55.out HK51.out (by have := HC1.out; omega) hap)
  clear HE55
  have HO62 : Hid (∀ k, v57.ownBlock = some k → T57 ≤ k) := fun k hk => (hown k hk).resolve_left (own_nil k)
  have HK63 := Lib.hid hcn
  clear HK51
  have hKw64 : K0 ≤ w11.heap.size := Nat.le_trans hKw56 hap.size
  clear hKw56
  have hrl57 : rs57.length = 0 := by simpa using congrArg List.length hm57
  have HQ57 := Lib.hid hr57
  obtain ⟨px57, cx57, rfl⟩ := hr57.forms
  rw [hrl57] at HQ57 ⊢
  clear hcn hap hown hfr hr57 hT57
  clear hconv50 HX50 Ht2
  go_wp2_with fail
  refine (HFA.out w11).mono ?_
  rintro e w12 ⟨rfl, hb12⟩
  clear HFA
  have HK65 := Lib.hid (HK63.out.below hb12)
  clear HK63
  have HK66 := Lib.hid (HK58.out.below hb12)
  clear HK58
  have HK67 := Lib.hid (HK59.out.below hb12)
  clear HK59
  have HK68 := Lib.hid (HK60.out.below hb12)
  clear HK60
  have HE69 := Lib.hid (HE61.out.trans (hb12.mono HE61.out.size))
  clear HE61
  have hKw70 : K0 ≤ w12.heap.size := Nat.le_trans hKw64 hb12.size
  clear hKw64
  clear hb12
  obtain ⟨cap71, hconv71, hwv, hb⟩ := waitV_string w12 F2 (by have := HL2.out; omega)
  obtain ⟨w13, hnw⟩ : ∃ x, Lib.bytesWorld w12 5 ⟨F2.toArray⟩ = x := ⟨_, rfl⟩
  rw [hnw] at hconv71 hwv hb
  clear hnw
  obtain ⟨g71, hg71⟩ : ∃ x, w12.heap.size = x := ⟨_, rfl⟩
  have hgk71 : K0 ≤ g71 := by omega
  rw [hg71] at hconv71 hwv
  have HX71 := Lib.hid hwv
  have hgl71 : g71 < w13.heap.size := (hwv.lt rfl).2
  have HK72 := Lib.hid (HK65.out.below hb)
  clear HK65
  have HK73 := Lib.hid (HK66.out.below hb)
  clear HK66
  have HK74 := Lib.hid (HK67.out.below hb)
  clear HK67
  have HK75 := Lib.hid (HK68.out.below hb)
  clear HK68
  have HE76 := Lib.hid (HE69.out.trans (hb.mono HE69.out.size))
  clear HE69
  have hKw77 : K0 ≤ w13.heap.size := Nat.le_trans hKw70 hb.size
  clear hKw70
  clear hb hwv hg71
  go_upto_region 7 with fail
  have HX71b := Lib.hid (HX71.out.low hgk71)
  have hcp71 : 16385 ≤ cap71 := by
    obtain ⟨_, _, e9, h9, _⟩ := HX71.out.form
    injection e9 with _ _ e9
    have := HL2.out
    omega
  have hl2 := HL2.out
  rw [hl2]
  clear hconv71 hl2
  have HXA : Hid (BytS w13 (.slice (some ⟨g71, 0, none⟩) 16383 cap71) P1) := by have h9 := WaitV.take HX71b.out 16383 (by have := HL2.out; omega); rw [HP1.out] at h9; exact h9
  go_wp2_with fail
  refine (take_calls w w13 He.out HE76.out HK73.out (by have := HC1.out; omega) HXA.out (by have := HLP1.out; simp; omega)).mono ?_
  rintro e w14 ⟨Bt78, x78, rs78, v78, rfl, hBt78, hr78, hm78, hcn, hap, hfr, hown⟩
  simp only [Ht3.out] at hm78 hcn ⊢
  obtain ⟨T78, hT78⟩ : ∃ x, w13.heap.size = x := ⟨_, rfl⟩
  have hTK78 : K0 ≤ T78 := by omega
  rw [hT78] at hown hBt78
  have U2_78 : Hid (∀ k, (v57 : Value).ownBlock = some k → k < T78) := fun k hk => by have := (HK72.out.own (.inr hk)).2; omega
  have HK79 := Lib.hid (HK72.out.keep hap (by omega) (fun k hk => absurd hk (own_nil k)) (fun k hk => by have := HO62.out k hk; omega) (fun k hk => absurd hk (own_nil k)))
  clear HK72
  have HK80 := Lib.hid (HK74.out.keep hap (by omega) (fun k hk => absurd hk (own_nil k)) (fun k hk => absurd hk (own_nil k)) (fun k hk => absurd hk (own_nil k)))
  clear HK74
  have HK81 := Lib.hid (HK75.out.keep hap (by omega) (fun k hk => absurd hk (own_nil k)) (fun k hk => absurd hk (own_nil k)) (fun k hk => absurd hk (own_nil k)))
  clear HK75
  have HR82 := Lib.hid (HX71b.out.apart hap (fun k hk h9 => by cases hk; rcases h9 with h9 | h9; (· have h8 : g71 = c3 := h9; omega); exact own_nil _ h9))
  clear HX71b
  have HE83 := Lib.hid (TakeOut.below HE76.out HK73.out (by have := HC1.out; omega) hap)
  clear HE76
  have HO84 : Hid (∀ k, v78.ownBlock = some k → T78 ≤ k) := fun k hk => (hown k hk).resolve_left (own_nil k)
  have HK85 := Lib.hid hcn
  clear HK73
  have hKw86 : K0 ≤ w14.heap.size := Nat.le_trans hKw77 hap.size
  clear hKw77
  have hrl78 : rs78.length = 0 := by simpa using congrArg List.length hm78
  have HQ78 := Lib.hid hr78
  obtain ⟨px78, cx78, rfl⟩ := hr78.forms
  rw [hrl78] at HQ78 ⊢
  clear hcn hap hown hfr hr78 hT78
  clear HXA Ht3
  go_wp2_with fail
  refine (waiting_calls w14 HK85.out).mono ?_
  rintro e w9 ⟨rfl, rfl⟩
  rw [HLP1.out]
  have HXB : Hid (BytS w14 (.slice (some ⟨g71, 0 + 16383, none⟩) 1 (cap71 - 16383)) P2) := by
    have h9 := WaitV.drop HR82.out 16383 (by have := HL2.out; omega)
    have h8 : WaitV w14 K0 (.slice (some ⟨g71, 0 + 16383, none⟩) (F2.drop 16383).length (cap71 - 16383)) (F2.drop 16383) := by rw [List.length_drop]; exact h9
    have h7 := WaitV.take h8 1 (by have := HL2.out; rw [List.length_drop]; omega)
    rw [HP2.out] at h7
    exact h7
  rw [Nat.zero_add] at HXB
  go_wp2_with fail
  refine (take_calls w w14 He.out HE83.out HK85.out (by have := HC1.out; omega) HXB.out (by have := HLP1.out; have := HLP2.out; omega)).mono ?_
  rintro e w15 ⟨Bt87, x87, rs87, v87, rfl, hBt87, hr87, hm87, hcn, hap, hfr, hown⟩
  simp only [Ht4.out] at hm87 hcn ⊢
  obtain ⟨T87, hT87⟩ : ∃ x, w14.heap.size = x := ⟨_, rfl⟩
  have hTK87 : K0 ≤ T87 := by omega
  rw [hT87] at hown hBt87
  have U2_87 : Hid (∀ k, (v57 : Value).ownBlock = some k → k < T87) := fun k hk => by have := (HK79.out.own (.inr hk)).2; omega
  have HK88 := Lib.hid (HK79.out.keep hap (by omega) (fun k hk => by have := HO84.out k hk; omega) (fun k hk => by have := HO62.out k hk; omega) (fun k hk h9 => by have := HO84.out k hk; have := U2_78.out k h9; omega))
  clear HK79
  have HK89 := Lib.hid (HK80.out.keep hap (by omega) (fun k hk => by have := HO84.out k hk; omega) (fun k hk => absurd hk (own_nil k)) (fun k _ hk => own_nil k hk))
  clear HK80
  have HK90 := Lib.hid (HK81.out.keep hap (by omega) (fun k hk => by have := HO84.out k hk; omega) (fun k hk => absurd hk (own_nil k)) (fun k _ hk => own_nil k hk))
  clear HK81
  have HE91 := Lib.hid (TakeOut.below HE83.out HK85.out (by have := HC1.out; omega) hap)
  clear HE83
  have HO92 : Hid (∀ k, v87.ownBlock = some k → K0 ≤ k) := fun k hk => by rcases hown k hk with h9 | h9; (· have := HO84.out k h9; omega); omega
  have HK93 := Lib.hid hcn
  clear HK85
  have hKw94 : K0 ≤ w15.heap.size := Nat.le_trans hKw86 hap.size
  clear hKw86
  have hrl87 : rs87.length = 0 := by simpa using congrArg List.length hm87
  have HQ87 := Lib.hid hr87
  obtain ⟨px87, cx87, rfl⟩ := hr87.forms
  rw [hrl87] at HQ87 ⊢
  clear hcn hap hown hfr hr87 hT87
  clear HXB Ht4 HR82 HP1 HP2 HL2 HLP1 HLP2
  clear HK93
  go_wp2_with fail
  go_loopg [16, 17] 99 (fun k t i wr => ∃ j : Nat, k = 99 - j ∧ j ≤ 99 ∧ t = .string ⟨(manyS j).toArray⟩ ∧ i = .int .i64 j ∧ w15 = wr)
  case atStart => exact ⟨0, rfl, by omega, rfl, rfl, rfl⟩
  case round =>
    obtain ⟨j, hk, hj, rfl, rfl, rfl⟩ := hrel
    have Hk := Lib.hid hk
    clear hk
    have hml := manyS_len j
    by_cases hlt : j < 99
    ·
      have hlt2 : (j : Int) < 99 := by omega
      have hct : (⟨(manyS j).toArray⟩ : ByteArray) ++ ⟨#[97, 58, 13, 10]⟩ = ⟨(manyS (j + 1)).toArray⟩ := bytes_app (manyS j) [97, 58, 13, 10]
      have hsz : ¬ 9223372036854775807 < (manyS j).length + 4 := by omega
      obtain ⟨M, hM⟩ : ∃ M, manyS j = M := ⟨_, rfl⟩
      obtain ⟨M2, hM2⟩ : ∃ M, manyS (j + 1) = M := ⟨_, rfl⟩
      rw [hM] at hct hsz hml ⊢
      rw [hM2] at hct
      have HM2 := Lib.hid hM2
      clear hM hM2 hml
      go_wp2_with fail
      go_roundg (99 - (j + 1))
      case measure => have := Hk.out; omega
      case rel => exact ⟨j + 1, rfl, by omega, by rw [HM2.out], by go_num, rfl⟩
    ·
      obtain rfl : j = 99 := by omega
      have h100 := many_100
      have h101 := many_101
      obtain ⟨M1, hM1⟩ : ∃ M, manyS 99 ++ [13, 10] = M := ⟨_, rfl⟩
      obtain ⟨M2, hM2⟩ : ∃ M, manyS 99 ++ [97, 58, 13, 10, 13, 10] = M := ⟨_, rfl⟩
      rw [hM1] at h100
      rw [hM2] at h101
      have hcat1 : (⟨(manyS 99).toArray⟩ : ByteArray) ++ ⟨#[13, 10]⟩ = ⟨M1.toArray⟩ := by rw [← hM1]; exact bytes_app (manyS 99) [13, 10]
      have hcat2 : (⟨(manyS 99).toArray⟩ : ByteArray) ++ ⟨#[97, 58, 13, 10, 13, 10]⟩ = ⟨M2.toArray⟩ := by rw [← hM2]; exact bytes_app (manyS 99) [97, 58, 13, 10, 13, 10]
      have HLM1 : Hid (M1.length = 423) := Lib.hid (by rw [← hM1, List.length_append, hml]; rfl)
      have HLM2 : Hid (M2.length = 427) := Lib.hid (by rw [← hM2, List.length_append, hml]; rfl)
      clear hM1 hM2
      obtain ⟨MM, hMM⟩ : ∃ M, manyS 99 = M := ⟨_, rfl⟩
      rw [hMM] at hcat1 hcat2 hml ⊢
      have hs1 : ¬ 9223372036854775807 < MM.length + 2 := by omega
      have hs2 : ¬ 9223372036854775807 < MM.length + 6 := by omega
      clear hMM hml
      obtain ⟨⟨⟨m1, u1, qq1, hs1h, bd1, cl1⟩, n1, er1⟩, hH1⟩ : ∃ H, headS M1 = H := ⟨_, rfl⟩
      obtain ⟨⟨⟨m2, u2, qq2, hs2h, bd2, cl2⟩, n2, er2⟩, hH2⟩ : ∃ H, headS M2 = H := ⟨_, rfl⟩
      rw [hH1] at h100
      rw [hH2] at h101
      dsimp only at h100 h101
      obtain ⟨h100a, rfl⟩ := h100
      subst h101
      have HH1 := Lib.hid hH1
      have HH2 := Lib.hid hH2
      clear hH1 hH2
      obtain ⟨cap95, hconv95, hwv, hb⟩ := waitV_string w15 M1 (by have := HLM1.out; omega)
      obtain ⟨w16, hnw⟩ : ∃ x, Lib.bytesWorld w15 5 ⟨M1.toArray⟩ = x := ⟨_, rfl⟩
      rw [hnw] at hconv95 hwv hb
      clear hnw
      obtain ⟨g95, hg95⟩ : ∃ x, w15.heap.size = x := ⟨_, rfl⟩
      have hgk95 : K0 ≤ g95 := by omega
      rw [hg95] at hconv95 hwv
      have HX95 := Lib.hid hwv
      have hgl95 : g95 < w16.heap.size := (hwv.lt rfl).2
      have HK96 := Lib.hid (HK88.out.below hb)
      clear HK88
      have HK97 := Lib.hid (HK89.out.below hb)
      clear HK89
      have HK98 := Lib.hid (HK90.out.below hb)
      clear HK90
      have HE99 := Lib.hid (HE91.out.trans (hb.mono HE91.out.size))
      clear HE91
      have hKw100 : K0 ≤ w16.heap.size := Nat.le_trans hKw94 hb.size
      clear hKw94
      clear hb hwv hg95
      go_wp2_with fail
      refine (head_calls w16 (He.out.below HE99.out) _ M1 HX95.out.byts (by have := HLM1.out; omega)).mono ?_
      rintro e w17 ⟨⟨hvh, hhh, rfl⟩, hbh⟩
      rw [HH1.out] at hhh ⊢
      dsimp only at hhh ⊢
      obtain ⟨ph, ch, rfl⟩ := hhh.forms
      rw [h100a] at hhh ⊢
      have HK101 := Lib.hid (HK96.out.below hbh)
      clear HK96
      have HK102 := Lib.hid (HK97.out.below hbh)
      clear HK97
      have HK103 := Lib.hid (HK98.out.below hbh)
      clear HK98
      have HE104 := Lib.hid (HE99.out.trans (hbh.mono HE99.out.size))
      clear HE99
      have hKw105 : K0 ≤ w17.heap.size := Nat.le_trans hKw100 hbh.size
      clear hKw100
      clear hbh
      have hal : Below w17.heap.size w17 (w17.alloc (Obj.cells #[Value.string ⟨m1.toArray⟩, .string ⟨u1.toArray⟩, .string ⟨qq1.toArray⟩, .slice ph 100 ch, .slice none 0 0, .bool cl1] 40)) := (Below.refl _ _).alloc (Nat.le_refl _) _
      have HRW := Lib.hid (RowAt.new w17 #[Value.string ⟨m1.toArray⟩, .string ⟨u1.toArray⟩, .string ⟨qq1.toArray⟩, .slice ph 100 ch, .slice none 0 0, .bool cl1] 40)
      obtain ⟨w18, hw18⟩ : ∃ x, w17.alloc (Obj.cells #[Value.string ⟨m1.toArray⟩, .string ⟨u1.toArray⟩, .string ⟨qq1.toArray⟩, .slice ph 100 ch, .slice none 0 0, .bool cl1] 40) = x := ⟨_, rfl⟩
      obtain ⟨gq, hgq⟩ : ∃ x, w17.heap.size = x := ⟨_, rfl⟩
      have hgqK : K0 ≤ gq := by omega
      go_upto_region 16 with fail
      rw [hw18] at hal HRW
      rw [hgq] at HRW
      have hgq18 : gq < w18.heap.size := HRW.out.lt
      have HK106 := Lib.hid (HK101.out.below hal)
      clear HK101
      have HK107 := Lib.hid (HK102.out.below hal)
      clear HK102
      have HK108 := Lib.hid (HK103.out.below hal)
      clear HK103
      have HE109 := Lib.hid (HE104.out.trans (hal.mono HE104.out.size))
      clear HE104
      have hKw110 : K0 ≤ w18.heap.size := Nat.le_trans hKw105 hal.size
      clear hKw105 hal hw18 hgq hconv95 HX95 hcat1 hs1 hhh
      obtain ⟨g18, hg18⟩ : ∃ x, gq = x := ⟨_, rfl⟩
      rw [hg18] at HRW hgqK hgq18 ⊢
      clear hg18
      have hg18K : K0 ≤ g18 := hgqK
      clear hgqK
      obtain ⟨p18, hp18⟩ : ∃ x, ph = x := ⟨_, rfl⟩
      rw [hp18] at HRW ⊢
      clear hp18
      obtain ⟨cc18, hcc18⟩ : ∃ x, ch = x := ⟨_, rfl⟩
      rw [hcc18] at HRW ⊢
      clear hcc18
      obtain ⟨cap111, hconv111, hwv, hb⟩ := waitV_string w18 M2 (by have := HLM2.out; omega)
      obtain ⟨w19, hnw⟩ : ∃ x, Lib.bytesWorld w18 5 ⟨M2.toArray⟩ = x := ⟨_, rfl⟩
      rw [hnw] at hconv111 hwv hb
      clear hnw
      obtain ⟨g111, hg111⟩ : ∃ x, w18.heap.size = x := ⟨_, rfl⟩
      have hgk111 : K0 ≤ g111 := by omega
      rw [hg111] at hconv111 hwv
      have HX111 := Lib.hid hwv
      have hgl111 : g111 < w19.heap.size := (hwv.lt rfl).2
      have HK112 := Lib.hid (HK106.out.below hb)
      clear HK106
      have HK113 := Lib.hid (HK107.out.below hb)
      clear HK107
      have HK114 := Lib.hid (HK108.out.below hb)
      clear HK108
      have HR115 := Lib.hid (HRW.out.below hb)
      clear HRW
      have HE116 := Lib.hid (HE109.out.trans (hb.mono HE109.out.size))
      clear HE109
      have hKw117 : K0 ≤ w19.heap.size := Nat.le_trans hKw110 hb.size
      clear hKw110
      clear hb hwv hg111
      go_wp2_with fail
      refine (head_calls w19 (He.out.below HE116.out) _ M2 HX111.out.byts (by have := HLM2.out; omega)).mono ?_
      rintro e w20 ⟨⟨hvh, hhh, rfl⟩, hbh⟩
      rw [HH2.out] at hhh ⊢
      dsimp only at hhh ⊢
      obtain ⟨ph, ch, rfl⟩ := hhh.forms
      have HK118 := Lib.hid (HK112.out.below hbh)
      clear HK112
      have HK119 := Lib.hid (HK113.out.below hbh)
      clear HK113
      have HK120 := Lib.hid (HK114.out.below hbh)
      clear HK114
      have HR121 := Lib.hid (HR115.out.below hbh)
      clear HR115
      have HE122 := Lib.hid (HE116.out.trans (hbh.mono HE116.out.size))
      clear HE116
      have hKw123 : K0 ≤ w20.heap.size := Nat.le_trans hKw117 hbh.size
      clear hKw117
      clear hbh
      have hal : Below w20.heap.size w20 (w20.alloc (Obj.cells #[Value.string ⟨m2.toArray⟩, .string ⟨u2.toArray⟩, .string ⟨qq2.toArray⟩, .slice ph hs2h.length ch, .slice none 0 0, .bool cl2] 40)) := (Below.refl _ _).alloc (Nat.le_refl _) _
      obtain ⟨w21, hw21⟩ : ∃ x, w20.alloc (Obj.cells #[Value.string ⟨m2.toArray⟩, .string ⟨u2.toArray⟩, .string ⟨qq2.toArray⟩, .slice ph hs2h.length ch, .slice none 0 0, .bool cl2] 40) = x := ⟨_, rfl⟩
      obtain ⟨gq, hgq⟩ : ∃ x, w20.heap.size = x := ⟨_, rfl⟩
      have hgqK : K0 ≤ gq := by omega
      go_upto_region 17 with fail
      rw [hw21] at hal
      have HK124 := Lib.hid (HK118.out.below hal)
      clear HK118
      have HK125 := Lib.hid (HK119.out.below hal)
      clear HK119
      have HK126 := Lib.hid (HK120.out.below hal)
      clear HK120
      have HR127 := Lib.hid (HR121.out.below hal)
      clear HR121
      have HE128 := Lib.hid (HE122.out.trans (hal.mono HE122.out.size))
      clear HE122
      have hKw129 : K0 ≤ w21.heap.size := Nat.le_trans hKw123 hal.size
      clear hKw123 hal hw21 hconv111 HX111 hcat2 hs2 hhh
      obtain ⟨D6, hD6⟩ : ∃ D, bd6 = D := ⟨_, rfl⟩
      have hcat6 : (⟨#[80, 85, 84, 32, 47, 32, 72, 84, 84, 80, 47, 49, 46, 49, 13, 10, 104, 111, 115, 116, 58, 13, 10, 99, 111, 110, 116, 101, 110, 116, 45, 108, 101, 110, 103, 116, 104, 58, 48, 48, 48, 48, 48, 48, 48, 48, 48, 48]⟩ : ByteArray) ++ ⟨#[49, 48, 52, 56, 53, 55, 54, 13, 10, 13, 10]⟩ = ⟨D6.toArray⟩ := by rw [← hD6]; exact bytes_app bdS [49, 48, 52, 56, 53, 55, 54, 13, 10, 13, 10]
      have HL6 : Hid (D6.length = 59) := Lib.hid (by rw [← hD6]; rfl)
      have hm6 := bd6_more
      have hbod := bd6_body
      rw [hD6] at hm6
      simp only [hD6] at hbod
      have ht6 : takeS [] false D6 = ([], 0, D6, false) := by rw [takeS_live, List.nil_append, hm6]
      have Ht6 := Lib.hid ht6
      have HBOD := Lib.hid hbod
      clear hD6 hm6 ht6 hbod
      obtain ⟨cap130, hconv130, hwv, hb⟩ := waitV_string w21 D6 (by have := HL6.out; omega)
      obtain ⟨w22, hnw⟩ : ∃ x, Lib.bytesWorld w21 5 ⟨D6.toArray⟩ = x := ⟨_, rfl⟩
      rw [hnw] at hconv130 hwv hb
      clear hnw
      obtain ⟨g130, hg130⟩ : ∃ x, w21.heap.size = x := ⟨_, rfl⟩
      have hgk130 : K0 ≤ g130 := by omega
      rw [hg130] at hconv130 hwv
      have HX130 := Lib.hid hwv
      have hgl130 : g130 < w22.heap.size := (hwv.lt rfl).2
      have HK131 := Lib.hid (HK124.out.below hb)
      clear HK124
      have HK132 := Lib.hid (HK125.out.below hb)
      clear HK125
      have HK133 := Lib.hid (HK126.out.below hb)
      clear HK126
      have HR134 := Lib.hid (HR127.out.below hb)
      clear HR127
      have HE135 := Lib.hid (HE128.out.trans (hb.mono HE128.out.size))
      clear HE128
      have hKw136 : K0 ≤ w22.heap.size := Nat.le_trans hKw129 hb.size
      clear hKw129
      clear hb hwv hg130
      go_wp2_with fail
      refine (take_calls w w22 He.out HE135.out HK132.out (by have := HC1.out; omega) HX130.out.byts (by have := HL6.out; simp; omega)).mono ?_
      rintro e w23 ⟨Bt137, x137, rs137, v137, rfl, hBt137, hr137, hm137, hcn, hap, hfr, hown⟩
      simp only [Ht6.out] at hm137 hcn ⊢
      obtain ⟨T137, hT137⟩ : ∃ x, w22.heap.size = x := ⟨_, rfl⟩
      have hTK137 : K0 ≤ T137 := by omega
      rw [hT137] at hown hBt137
      have U2_137 : Hid (∀ k, (v57 : Value).ownBlock = some k → k < T137) := fun k hk => by have := (HK131.out.own (.inr hk)).2; omega
      have HK138 := Lib.hid (HK131.out.keep hap (by omega) (fun k hk => absurd hk (own_nil k)) (fun k hk => by have := HO62.out k hk; omega) (fun k hk => absurd hk (own_nil k)))
      clear HK131
      have HK139 := Lib.hid (HK133.out.keep hap (by omega) (fun k hk => absurd hk (own_nil k)) (fun k hk => absurd hk (own_nil k)) (fun k hk => absurd hk (own_nil k)))
      clear HK133
      have hgT137 : g18 < T137 := by have := HR134.out.lt; omega
      have HR140 := Lib.hid (HR134.out.apart hap (fun h9 => by rcases h9 with h9 | h9; (· omega); exact own_nil _ h9))
      clear HR134
      have HE141 := Lib.hid (TakeOut.below HE135.out HK132.out (by have := HC1.out; omega) hap)
      clear HE135
      have HO142 : Hid (∀ k, v137.ownBlock = some k → T137 ≤ k) := fun k hk => (hown k hk).resolve_left (own_nil k)
      have HK143 := Lib.hid hcn
      clear HK132
      have hKw144 : K0 ≤ w23.heap.size := Nat.le_trans hKw136 hap.size
      clear hKw136
      have hrl137 : rs137.length = 0 := by simpa using congrArg List.length hm137
      have HQ137 := Lib.hid hr137
      obtain ⟨px137, cx137, rfl⟩ := hr137.forms
      rw [hrl137] at HQ137 ⊢
      clear hcn hap hown hfr hr137 hT137
      clear hconv130 HX130 Ht6 hcat6
      obtain ⟨kN, hkN⟩ : ∃ x : Nat, x = 1048576 := ⟨_, rfl⟩
      have HkN := Lib.hid hkN
      clear hkN
      go_wp2_with (at_make; go_must (refine wpList_make_bytes rfl _ _ rfl _ _ kN rfl rfl ?h1 ?h2 ?h3 ?_))
      case h1 => have := HkN.out; omega
      case h2 => have := HkN.out; omega
      case h3 => have := HkN.out; omega
      intro w24 hvz hbz
      have HK145 := Lib.hid (HK138.out.below hbz)
      clear HK138
      have HK146 := Lib.hid (HK143.out.below hbz)
      clear HK143
      have HK147 := Lib.hid (HK139.out.below hbz)
      clear HK139
      have HR148 := Lib.hid (HR140.out.below hbz)
      clear HR140
      have HE149 := Lib.hid (HE141.out.trans (hbz.mono HE141.out.size))
      clear HE141
      have hKw150 : K0 ≤ w24.heap.size := Nat.le_trans hKw144 hbz.size
      clear hKw144
      clear hbz
      obtain ⟨Z, hZ⟩ : ∃ Z, List.replicate kN (0 : UInt8) = Z := ⟨_, rfl⟩
      have HZl : Hid (Z.length = 1048576) := Lib.hid (by rw [← hZ, List.length_replicate, HkN.out])
      rw [hZ] at hvz
      obtain ⟨q7, hq7, hq7b⟩ := HBOD.out Z HZl.out
      have ht7 : takeS D6 false Z = ([q7], 0, [], false) := by rw [takeS_live, hq7]
      have Ht7 := Lib.hid ht7
      have HVZ := Lib.hid (BytV.byts hvz)
      have Hq7b := Lib.hid hq7b
      clear hZ hvz hq7 ht7 HBOD hq7b
      go_wp2_with fail
      refine (take_calls w w24 He.out HE149.out HK146.out (by have := HC1.out; omega) HVZ.out (by have := HL6.out; have := HZl.out; omega)).mono ?_
      rintro e w25 ⟨Bt151, x151, rs151, v151, rfl, hBt151, hr151, hm151, hcn, hap, hfr, hown⟩
      simp only [Ht7.out] at hm151 hcn ⊢
      obtain ⟨T151, hT151⟩ : ∃ x, w24.heap.size = x := ⟨_, rfl⟩
      have hTK151 : K0 ≤ T151 := by omega
      rw [hT151] at hown hBt151
      have U2_151 : Hid (∀ k, (v57 : Value).ownBlock = some k → k < T151) := fun k hk => by have := (HK145.out.own (.inr hk)).2; omega
      have HK152 := Lib.hid (HK145.out.keep hap (by omega) (fun k hk => by have := HO142.out k hk; omega) (fun k hk => by have := HO62.out k hk; omega) (fun k hk h9 => by have := HO142.out k hk; have := U2_137.out k h9; omega))
      clear HK145
      have HK153 := Lib.hid (HK147.out.keep hap (by omega) (fun k hk => by have := HO142.out k hk; omega) (fun k hk => absurd hk (own_nil k)) (fun k _ hk => own_nil k hk))
      clear HK147
      have hgT151 : g18 < T151 := by have := HR148.out.lt; omega
      have HR154 := Lib.hid (HR148.out.apart hap (fun h9 => by rcases h9 with h9 | h9; (· omega); have := HO142.out _ h9; omega))
      clear HR148
      have HE155 := Lib.hid (TakeOut.below HE149.out HK146.out (by have := HC1.out; omega) hap)
      clear HE149
      have HO156 : Hid (∀ k, v151.ownBlock = some k → K0 ≤ k) := fun k hk => by rcases hown k hk with h9 | h9; (· have := HO142.out k h9; omega); omega
      have HK157 := Lib.hid hcn
      clear HK146
      have hKw158 : K0 ≤ w25.heap.size := Nat.le_trans hKw150 hap.size
      clear hKw150
      have hrl151 : rs151.length = 1 := by simpa using congrArg List.length hm151
      have HQ151 := Lib.hid hr151
      obtain ⟨px151, cx151, rfl⟩ := hr151.forms
      rw [hrl151] at HQ151 ⊢
      clear hcn hap hown hfr hr151 hT151
      clear HVZ Ht7 HL6 HZl
      clear HK157
      obtain ⟨D7, hD7⟩ : ∃ D, bd7 = D := ⟨_, rfl⟩
      have hcat7 : (⟨#[80, 85, 84, 32, 47, 32, 72, 84, 84, 80, 47, 49, 46, 49, 13, 10, 104, 111, 115, 116, 58, 13, 10, 99, 111, 110, 116, 101, 110, 116, 45, 108, 101, 110, 103, 116, 104, 58, 48, 48, 48, 48, 48, 48, 48, 48, 48, 48]⟩ : ByteArray) ++ ⟨#[49, 48, 52, 56, 53, 55, 55, 13, 10, 13, 10]⟩ = ⟨D7.toArray⟩ := by rw [← hD7]; exact bytes_app bdS [49, 48, 52, 56, 53, 55, 55, 13, 10, 13, 10]
      have HL7 : Hid (D7.length = 59) := Lib.hid (by rw [← hD7]; rfl)
      have hm8 := bd7_err
      rw [hD7] at hm8
      have ht8 : takeS [] false D7 = ([], 381, [], true) := by rw [takeS_live, List.nil_append, hm8]
      have Ht8 := Lib.hid ht8
      clear hD7 hm8 ht8
      obtain ⟨cap159, hconv159, hwv, hb⟩ := waitV_string w25 D7 (by have := HL7.out; omega)
      obtain ⟨w26, hnw⟩ : ∃ x, Lib.bytesWorld w25 5 ⟨D7.toArray⟩ = x := ⟨_, rfl⟩
      rw [hnw] at hconv159 hwv hb
      clear hnw
      obtain ⟨g159, hg159⟩ : ∃ x, w25.heap.size = x := ⟨_, rfl⟩
      have hgk159 : K0 ≤ g159 := by omega
      rw [hg159] at hconv159 hwv
      have HX159 := Lib.hid hwv
      have hgl159 : g159 < w26.heap.size := (hwv.lt rfl).2
      have HK160 := Lib.hid (HK152.out.below hb)
      clear HK152
      have HK161 := Lib.hid (HK153.out.below hb)
      clear HK153
      have HR162 := Lib.hid (HR154.out.below hb)
      clear HR154
      have HR163 := Lib.hid (HQ151.out.below hb)
      clear HQ151
      have HE164 := Lib.hid (HE155.out.trans (hb.mono HE155.out.size))
      clear HE155
      have hKw165 : K0 ≤ w26.heap.size := Nat.le_trans hKw158 hb.size
      clear hKw158
      clear hb hwv hg159
      go_wp2_with fail
      refine (take_calls w w26 He.out HE164.out HK161.out (by have := HC1.out; omega) HX159.out.byts (by have := HL7.out; simp; omega)).mono ?_
      rintro e w27 ⟨Bt166, x166, rs166, v166, rfl, hBt166, hr166, hm166, hcn, hap, hfr, hown⟩
      simp only [Ht8.out] at hm166 hcn ⊢
      obtain ⟨T166, hT166⟩ : ∃ x, w26.heap.size = x := ⟨_, rfl⟩
      have hTK166 : K0 ≤ T166 := by omega
      rw [hT166] at hown hBt166
      have U2_166 : Hid (∀ k, (v57 : Value).ownBlock = some k → k < T166) := fun k hk => by have := (HK160.out.own (.inr hk)).2; omega
      have HK167 := Lib.hid (HK160.out.keep hap (by omega) (fun k hk => absurd hk (own_nil k)) (fun k hk => by have := HO62.out k hk; omega) (fun k hk => absurd hk (own_nil k)))
      clear HK160
      have hgT166 : g18 < T166 := by have := HR162.out.lt; omega
      have HR168 := Lib.hid (HR162.out.apart hap (fun h9 => by rcases h9 with h9 | h9; (· omega); exact own_nil _ h9))
      clear HR162
      have HR169 := Lib.hid (HR163.out.apart hap (fun k hk _ h9 => by rcases h9 with h9 | h9; (· omega); exact own_nil _ h9))
      clear HR163
      have HE170 := Lib.hid (TakeOut.below HE164.out HK161.out (by have := HC1.out; omega) hap)
      clear HE164
      have HO171 : Hid (∀ k, v166.ownBlock = some k → T166 ≤ k) := fun k hk => (hown k hk).resolve_left (own_nil k)
      have HK172 := Lib.hid hcn
      clear HK161
      have hKw173 : K0 ≤ w27.heap.size := Nat.le_trans hKw165 hap.size
      clear hKw165
      have hrl166 : rs166.length = 0 := by simpa using congrArg List.length hm166
      have HQ166 := Lib.hid hr166
      obtain ⟨px166, cx166, rfl⟩ := hr166.forms
      rw [hrl166] at HQ166 ⊢
      clear hcn hap hown hfr hr166 hT166
      clear hconv159 HX159 Ht8 hcat7 HL7
      clear HK172
      obtain ⟨D0, hD0⟩ : ∃ D, bd0 = D := ⟨_, rfl⟩
      have hcat0 : (⟨#[80, 85, 84, 32, 47, 32, 72, 84, 84, 80, 47, 49, 46, 49, 13, 10, 104, 111, 115, 116, 58, 13, 10, 99, 111, 110, 116, 101, 110, 116, 45, 108, 101, 110, 103, 116, 104, 58, 48, 48, 48, 48, 48, 48, 48, 48, 48, 48]⟩ : ByteArray) ++ ⟨#[48, 48, 48, 48, 48, 48, 48, 48, 48, 13, 10, 13, 10]⟩ = ⟨D0.toArray⟩ := by rw [← hD0]; exact bytes_app bdS [48, 48, 48, 48, 48, 48, 48, 48, 48, 13, 10, 13, 10]
      have HL0 : Hid (D0.length = 61) := Lib.hid (by rw [← hD0]; rfl)
      have h380 := bd0_err
      rw [hD0] at h380
      obtain ⟨⟨⟨m3, u3, qq3, hs3h, bd3, cl3⟩, n3, er3⟩, hH3⟩ : ∃ H, headS D0 = H := ⟨_, rfl⟩
      rw [hH3] at h380
      dsimp only at h380
      subst h380
      have HH3 := Lib.hid hH3
      clear hH3 hD0
      obtain ⟨cap174, hconv174, hwv, hb⟩ := waitV_string w27 D0 (by have := HL0.out; omega)
      obtain ⟨w28, hnw⟩ : ∃ x, Lib.bytesWorld w27 5 ⟨D0.toArray⟩ = x := ⟨_, rfl⟩
      rw [hnw] at hconv174 hwv hb
      clear hnw
      obtain ⟨g174, hg174⟩ : ∃ x, w27.heap.size = x := ⟨_, rfl⟩
      have hgk174 : K0 ≤ g174 := by omega
      rw [hg174] at hconv174 hwv
      have HX174 := Lib.hid hwv
      have hgl174 : g174 < w28.heap.size := (hwv.lt rfl).2
      have HK175 := Lib.hid (HK167.out.below hb)
      clear HK167
      have HR176 := Lib.hid (HR168.out.below hb)
      clear HR168
      have HR177 := Lib.hid (HR169.out.below hb)
      clear HR169
      have HE178 := Lib.hid (HE170.out.trans (hb.mono HE170.out.size))
      clear HE170
      have hKw179 : K0 ≤ w28.heap.size := Nat.le_trans hKw173 hb.size
      clear hKw173
      clear hb hwv hg174
      go_wp2_with fail
      refine (head_calls w28 (He.out.below HE178.out) _ D0 HX174.out.byts (by have := HL0.out; omega)).mono ?_
      rintro e w29 ⟨⟨hvh, hhh, rfl⟩, hbh⟩
      rw [HH3.out] at hhh ⊢
      dsimp only at hhh ⊢
      obtain ⟨ph, ch, rfl⟩ := hhh.forms
      have HK180 := Lib.hid (HK175.out.below hbh)
      clear HK175
      have HR181 := Lib.hid (HR176.out.below hbh)
      clear HR176
      have HR182 := Lib.hid (HR177.out.below hbh)
      clear HR177
      have HE183 := Lib.hid (HE178.out.trans (hbh.mono HE178.out.size))
      clear HE178
      have hKw184 : K0 ≤ w29.heap.size := Nat.le_trans hKw179 hbh.size
      clear hKw179
      clear hbh
      have hal : Below w29.heap.size w29 (w29.alloc (Obj.cells #[Value.string ⟨m3.toArray⟩, .string ⟨u3.toArray⟩, .string ⟨qq3.toArray⟩, .slice ph hs3h.length ch, .slice none 0 0, .bool cl3] 40)) := (Below.refl _ _).alloc (Nat.le_refl _) _
      obtain ⟨w30, hw30⟩ : ∃ x, w29.alloc (Obj.cells #[Value.string ⟨m3.toArray⟩, .string ⟨u3.toArray⟩, .string ⟨qq3.toArray⟩, .slice ph hs3h.length ch, .slice none 0 0, .bool cl3] 40) = x := ⟨_, rfl⟩
      obtain ⟨gq, hgq⟩ : ∃ x, w29.heap.size = x := ⟨_, rfl⟩
      have hgqK : K0 ≤ gq := by omega
      rw [hw30] at hal
      have HK185 := Lib.hid (HK180.out.below hal)
      clear HK180
      have HR186 := Lib.hid (HR181.out.below hal)
      clear HR181
      have HR187 := Lib.hid (HR182.out.below hal)
      clear HR182
      have HE188 := Lib.hid (HE183.out.trans (hal.mono HE183.out.size))
      clear HE183
      obtain ⟨r7, hr7⟩ := List.length_eq_one_iff.1 hrl151
      rw [hr7] at hm151
      have hrq : r7.1 = q7 := by simpa using hm151
      have k18 := HR186.out.cell 3 _ rfl
      have hRS := HR187.out.reqsS
      obtain ⟨pb7, cb7, hbv7⟩ := (HR187.out.bod r7 (by rw [hr7]; exact List.mem_singleton.2 rfl)).forms
      obtain ⟨gt, ot, hpx⟩ : ∃ gt, ∃ ot : Unit, px151 = some ⟨gt, 0, none⟩ := by
        rcases HR187.out.row.2 with ⟨h9, h8⟩ | ⟨g, c, cur, h9, _⟩
        · rw [hr7] at h8; cases h8
        · simp only [Value.slice.injEq] at h9; exact ⟨g, (), h9.1⟩
      subst hpx
      have y4 := HR187.out.at hrl151.symm (j := 0) (r := r7) (by rw [hr7]; rfl) 4 (by decide)
      rw [show (reqCells r7)[4]? = some r7.2.2 from rfl, hbv7, hrq, Nat.zero_mul, Nat.zero_add] at y4
      have hqb : ((q7.body.length : Int) == 1048576) = true := by have := Hq7b.out; rw [beq_iff_eq]; omega
      clear hRS hbv7 hrq hm151 hr7 hrl151
      go_wp2_with fail
      refine (num_calls _ _).mono ?_
      rintro e9 w9 ⟨rfl, rfl⟩
      go_wp2_with fail
      refine (num_calls _ _).mono ?_
      rintro e9 w9 ⟨rfl, rfl⟩
      go_wp2_with fail
      refine (dead_calls _ HK185.out).mono ?_
      rintro e9 w9 ⟨rfl, rfl⟩
      go_wp2_with fail
      refine (num_calls _ _).mono ?_
      rintro e9 w9 ⟨rfl, rfl⟩
      go_wp2_with fail
      refine (num_calls _ _).mono ?_
      rintro e9 w9 ⟨rfl, rfl⟩
      go_wp2_with fail
      refine (num_calls _ _).mono ?_
      rintro e9 w9 ⟨rfl, rfl⟩
      go_wp2_with fail
      refine (num_calls _ _).mono ?_
      rintro e9 w9 ⟨rfl, rfl⟩
      go_wp2_with fail
      refine (num_calls _ _).mono ?_
      rintro e9 w9 ⟨rfl, rfl⟩
      go_wp2_with fail
      refine (num_calls _ _).mono ?_
      rintro e9 w9 ⟨rfl, rfl⟩
      go_wp2_with fail
      refine (num_calls _ _).mono ?_
      rintro e9 w9 ⟨rfl, rfl⟩
      go_wp2_with fail
      refine (num_calls _ _).mono ?_
      rintro e9 w9 ⟨rfl, rfl⟩
      go_wp2_with fail
      refine (works_calls _ (He.out.below HE188.out)).mono ?_
      rintro e9 w9 ⟨rfl, hb9⟩
      go_wp2_with fail
      go_ret
      exact ⟨rfl, HE188.out.trans (hb9.mono HE188.out.size)⟩
end Go.Proofs.YtgdfgppgfkkncaaGreatDoor
