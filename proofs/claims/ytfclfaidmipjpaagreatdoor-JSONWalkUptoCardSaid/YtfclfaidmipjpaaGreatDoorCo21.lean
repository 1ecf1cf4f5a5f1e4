/- Texts of this claim, joined: Ptr, Jp5. -/
import Derived.Test.YtfclfaidmipjpaaGreatDoorCo20
namespace Go.Proofs.YtfclfaidmipjpaaGreatDoor
set_option maxRecDepth 100000
set_option maxHeartbeats 20000000
open Go.Lib (hid)
open Go.RowKit
theorem nam4 (w : World) (a b : List UInt8) : NamS (w.alloc (.cells #[.string ⟨#[126, 48]⟩, .string ⟨a.toArray⟩, .string ⟨#[126, 49]⟩, .string ⟨b.toArray⟩] 9)) (fun _ => True) (.slice (some ⟨w.heap.size, 0, none⟩) 4 4) (keysL a b) := by
 refine ⟨_, 4, rfl, by simp [keysL], by simp [keysL, maxLen], fun _ => ⟨w.heap.size, 0, rfl, InS.any _ _ _ _, by simp, fun i s hi => ?_⟩⟩
 rw [World.cell?_alloc_at _ _ _ _ rfl, Nat.zero_add]
 match i with
 | 0 => cases hi; rfl
 | 1 => cases hi; rfl
 | 2 => cases hi; rfl
 | 3 => cases hi; rfl
 | i + 4 => simp [keysL] at hi
theorem splitC_le (c : UInt8) : ∀ (s p : List UInt8), p ∈ splitC c s → p.length ≤ s.length
 | [], p, h => by simp [splitC] at h; subst h; simp
 | x :: t, p, h => by
  obtain ⟨h0, r, e⟩ := splitC_ne c t
  have ih := splitC_le c t
  rw [e] at ih
  rw [splitC] at h
  by_cases hx : x = c
  ·rw [if_pos hx, e] at h
   rcases List.mem_cons.1 h with rfl | h
   ·simp
   have := ih p h; simp; omega
  rw [if_neg hx, e] at h
  simp only at h
  rcases List.mem_cons.1 h with rfl | h
  ·have := ih h0 (by simp); simp; omega
  have := ih p (by simp [h]); simp; omega
theorem names_set {h0 : List UInt8} {ps : List (List UInt8)} {i : Nat} {x : List UInt8} {f : List UInt8 → List UInt8} (hx : ps[i]? = some x) : (h0 :: ((ps.take i).map f ++ ps.drop i)).set (i + 1) (f x) = h0 :: ((ps.take (i + 1)).map f ++ ps.drop (i + 1)) := by
 have hi := (List.getElem?_eq_some_iff.1 hx).1
 have hd : ps.drop i = x :: ps.drop (i + 1) := by
  rw [List.drop_eq_getElem_cons hi]
  congr 1
  exact (List.getElem?_eq_some_iff.1 hx).2
 rw [List.set_cons_succ, List.set_append_right _ _ (by simp; omega), hd, List.take_add_one, hx]
 simp
 rw [show i - min i ps.length = 0 by omega]
 simp
theorem splitC_len (c : UInt8) : ∀ s : List UInt8, (splitC c s).length ≤ s.length + 1
 | [] => by simp [splitC]
 | x :: t => by
  have ih := splitC_len c t
  obtain ⟨h0, r, e⟩ := splitC_ne c t
  rw [splitC]
  by_cases hx : x = c
  ·rw [if_pos hx]; simp; omega
  rw [if_neg hx, e]
  rw [e] at ih
  simp at ih ⊢; omega
theorem kind_lens {v : J} (h : goodJ v = true) : v.kind = 5 → v.ns.length = v.l.length := by
 obtain ⟨k, b, n, t, l, ns⟩ := v
 exact fun e => ((cp_len (so := false) h).2 e).1
theorem good_mem {v x : J} (h : goodJ v = true) (hx : x ∈ v.l) : goodJ x = true ∧ szJ x ≤ szJ v := by
 obtain ⟨k, b, n, t, l, ns⟩ := v
 obtain ⟨i, hi⟩ := List.getElem?_of_mem hx
 refine ⟨good_in h hi, ?_⟩
 have h1 := szL_in hi
 simp only [szJ]
 simp only [J.l] at h1
 omega
def PtrC (w2 : World) (A : J × Int) (v : J) (s : List UInt8) (u : Value) (wc : World) : Prop := ∃ q, u = .bool q ∧ Below w2.heap.size w2 wc ∧ (q = true → A = (J.zero, 2)) ∧ (q = false → A = ptrK v (pathS s) ∧ goodJ v = true ∧ (s = [] ∨ s.head? = some 47))
def PtrD (w3 : World) (s : List UInt8) (u : Value) (wc : World) : Prop := ∃ (h0 : List UInt8) (ps : List (List UInt8)) (q : Option Addr), u = .slice q ps.length ps.length ∧ (0 < ps.length → q = some ⟨w3.heap.size, 1, none⟩) ∧ RowAt wc w3.heap.size (txts (h0 :: ps)) ∧ Below w3.heap.size w3 wc ∧ pathS s = tilAll ps ∧ ps.length ≤ 100000000 ∧ ∀ q ∈ ps, q.length ≤ 90000000
def PtrTo (w : World) (q : J × Int) (e : Ending) (w' : World) : Prop := ∃ lv nv, e = .returned (.tuple #[jval (q.1, lv, nv), .int .i64 q.2]) ∧ JV w' (fun k => w.heap.size ≤ k) (q.1, lv, nv) ∧ Below w.heap.size w w'
theorem pointer_calls {w0 : World} {S1 : Nat → Prop} {r1 : JR} (h1 : JV w0 S1 r1) (hTab : Tab w0) (hE : Errs w0) (hT : Lib.Utf8Tabs 0 1 w0) (m : Int) (hML : w0.cell? ⟨2, 0, none⟩ = some (.int .i64 m)) (w : World) (hb : Below w0.heap.size w0 w) (hsz : szJ r1.1 ≤ 20000000) (s : List UInt8) (hs : s.length ≤ 90000000) :
  Calls Tryz.prog 19 #[jval r1, .string ⟨s.toArray⟩] w (PtrTo w (ptrJ r1.1 s)) := by
 have HB := hid hb
 have HSZ := hid hsz
 have HE := hid hE
 have HML := hid hML
 have HSJ1 := hid h1.slJ
 obtain ⟨ANS, hA⟩ : ∃ q, ptrJ r1.1 s = q := ⟨_, rfl⟩
 have HA := hid hA
 rw [hA]
 clear hb hsz hE hML hA
 go_enter Tryz.func19, Tryz.ntmps19
 go_upto_region 1 with (first | (refine wpList_boxJ rfl _ rfl r1 rfl ?_; intro w1 hBx) | (refine wpList_allocJ rfl rfl ?_; intro w2 hBy))
 have HV := hid (hBx.row.below hBy.be)
 have HR := hid hBy.row
 have HW1 : Hid (Below w.heap.size w w2) := hid (hBy.below hBx.be hBx.be.size)
 have HW : Hid (Below w0.heap.size w0 w2) := hid (HB.out.trans (HW1.out.mono HB.out.size))
 have hz := hBx.size
 have hzy := hBy.size
 obtain ⟨g1, hg1⟩ : ∃ g, w.heap.size = g := ⟨_, rfl⟩
 have hg2 : w1.heap.size = g1 + 1 := by omega
 have HG : Hid (w.heap.size = g1 ∧ w2.heap.size = g1 + 2) := hid ⟨hg1, by omega⟩
 rw [hg1] at HV ⊢
 rw [hg2] at HR ⊢
 clear hBx hBy hg1 hg2 hz hzy
 go_cut [25] from 14 to 26 (fun u25 wc => PtrC w2 ANS r1.1 s u25 wc)
 case first =>
  go_wp2_with (refine wpList_loadJ rfl _ rfl r1 HV.out rfl ?_)
  refine (checkJ_calls h1 hTab hT w2 HW.out HSZ.out).mono ?_
  rintro e w3 ⟨rfl, hb3⟩
  have HBC := hid hb3
  clear hb3 HV HR HW1 HW
  obtain ⟨c, hc⟩ : ∃ c, checkJ r1.1 = c := ⟨_, rfl⟩
  have HC := hid hc
  rw [hc]
  clear hc
  by_cases hc0 : c = 0
  rotate_left
  ·
   have n0 : ((c : Int) == 0) = false := by rw [beq_eq_false_iff_ne]; exact hc0
   have HA2 : Hid (ANS = (J.zero, 2)) := hid (by rw [← HA.out]; unfold ptrJ; rw [if_pos (by rw [HC.out]; exact hc0)])
   go_wp2_with fail
   go_meet
   exact ⟨true, rfl, HBC.out, fun _ => HA2.out, fun h => (nomatch h)⟩
  subst hc0
  have HA1 : Hid (ANS = ptrK r1.1 (pathS s)) := hid (by rw [← HA.out]; unfold ptrJ; rw [if_neg (by rw [HC.out]; simp)])
  clear HA
  have HGD := hid (checkJ_zero.1 HC.out).1
  rcases (show s = [] ∨ ∃ ch t, s = ch :: t by cases s <;> simp) with hsn | ⟨ch, t, hst⟩
  ·
   subst hsn
   go_wp2_with fail
   go_meet
   exact ⟨false, rfl, HBC.out, fun h => (nomatch h), fun _ => ⟨HA1.out, HGD.out, .inl rfl⟩⟩
  have HQ : Hid ((ch ≠ 47 → ANS = (J.zero, 2)) ∧ (ch = 47 → s.head? = some 47)) := hid ⟨fun h => by rw [HA1.out, hst, pathS_none ch t h]; rfl, fun h => by rw [hst, h]; rfl⟩
  have hue : s.isEmpty = false := by rw [hst]; rfl
  have hue2 : (s == []) = false := by rw [hst]; rfl
  have hc1 : s.getD 0 0 = ch := by rw [hst]; rfl
  have hl1 : 0 < s.length := by rw [hst]; simp
  have hij := byte_at s 0 hl1
  have hlp : (0 : Int) < (s.length : Int) := by omega
  rw [hc1] at hij
  clear hst hc1
  by_cases hch : ch = 47
  ·
   subst hch
   have HHD : Hid (s.head? = some 47) := hid (HQ.out.2 rfl)
   clear HQ
   go_wp2_with fail
   go_meet
   exact ⟨false, rfl, HBC.out, fun h => (nomatch h), fun _ => ⟨HA1.out, HGD.out, .inr HHD.out⟩⟩
  have hn47 : (((ch.toNat : Nat) : Int) == 47) = false := by rw [beq_eq_false_iff_ne]; intro e; exact hch (by apply UInt8.toNat_inj.1; show ch.toNat = 47; omega)
  have HA2 := hid (HQ.out.1 hch)
  clear hch HQ
  go_wp2_with fail
  go_meet
  have hn47b : (((ch.toNat : Nat) : Int) != 47) = true := by rw [bne, hn47]; rfl
  exact ⟨true, by rw [hn47b], HBC.out, fun _ => HA2.out, fun h => (nomatch h)⟩
 case rest =>
  obtain ⟨q, rfl, hbc, hq1, hq2⟩ := hcut
  obtain ⟨w3, hw3⟩ : ∃ W, wc = W := ⟨_, rfl⟩
  rw [hw3] at hbc ⊢
  have HV3 := hid (HV.out.below hbc)
  have HR3 := hid (HR.out.below hbc)
  have HB3 := hid (HW1.out.trans (hbc.mono HW1.out.size))
  have HW3 := hid (HW.out.trans (hbc.mono HW.out.size))
  have HG3 : Hid (g1 + 2 ≤ w3.heap.size) := hid (by have := HG.out; have := hbc.size; omega)
  clear hbc hw3 HV HR HW1 HW HA
  cases q with
  | true =>
   have HA2 := hid (hq1 rfl)
   clear hq1 hq2
   go_wp2_with (first | with_reducible refine stop_ret ?_ | (refine wpList_storeJ rfl _ _ rfl rfl HR3.out rfl jzero slJ_zero rfl rfl ?_; intro wS hSx))
   refine hid ?_
   refine bodyPost_retJt jzero rfl rfl rfl rfl hSx.row ?_
   have HAN : ANS = (J.zero, 2) := HA2.out
   rw [HAN]
   exact ⟨.slice none 0 0, .slice none 0 0, rfl, JV.zero _ _, hSx.below HB3.out (by have := HG.out; omega) HB3.out.size⟩
  | false =>
   obtain ⟨hans, hgd, hok⟩ := hq2 rfl
   have HPS := hid (pathS_split s hok)
   have HA := hid hans
   have HGD := hid hgd
   clear hans hgd hok hq1 hq2
   go_upto_region 3 with fail
   go_cut [6] from 27 to 29 (fun u6 wc => PtrD w3 s u6 wc)
   case first =>
    go_wp2_with fail
    refine (split_calls s w3 m ((HW3.out.cell (p := ⟨2, 0, none⟩) (by have := HE.out.lt; show 2 < w0.heap.size; omega)).trans HML.out) (by omega)).mono ?_
    rintro e w4 ⟨rfl, hn4, hb4⟩
    obtain ⟨h0, ps, hsp⟩ := splitC_ne 47 s
    have HPB : Hid (ps.length ≤ 100000000) := hid (by have h9 := splitC_len 47 s; rw [hsp, List.length_cons] at h9; omega)
    have HPL : Hid (∀ q ∈ ps, q.length ≤ 90000000) := hid (fun q hq => Nat.le_trans (splitC_le 47 s q (by rw [hsp]; simp [hq])) hs)
    rw [hsp] at hn4 HPS ⊢
    have hpl : (h0 :: ps).length = ps.length + 1 := rfl
    rw [hpl]
    have HPT : Hid (pathS s = tilAll ps) := hid HPS.out
    have HN4 := hid hn4
    have HB4 := hid hb4
    clear hn4 hb4 HPS hpl hsp
    have h1le : (1 : Int) ≤ ((ps.length + 1 : Nat) : Int) := by omega
    by_cases hp0 : ps = []
    ·
     subst hp0
     go_wp2_with fail
     go_meet
     exact ⟨h0, [], _, rfl, fun h => absurd h (Nat.lt_irrefl 0), HN4.out, HB4.out, HPT.out, HPB.out, HPL.out⟩
    have hpp : 0 < ps.length := by have h9 : ps.length ≠ 0 := fun e => hp0 (List.length_eq_zero_iff.1 e); omega
    go_wp2_with fail
    go_meet
    exact ⟨h0, ps, _, rfl, fun _ => rfl, HN4.out, HB4.out, HPT.out, HPB.out, HPL.out⟩
   obtain ⟨h0, ps, pn, rfl, hpn, hn4, hb4, hpt, hpb, hpl⟩ := hcut
   obtain ⟨w4, hw4⟩ : ∃ W, wc = W := ⟨_, rfl⟩
   rw [hw4] at hn4 hb4 ⊢
   have HPT := hid hpt
   have HPL := hid hpl
   obtain ⟨gs, hgs⟩ : ∃ g, w3.heap.size = g := ⟨_, rfl⟩
   rw [hgs] at hn4 hpn
   have HPN := hid hpn
   have HN4 := hid hn4
   have HV4 := hid (HV3.out.below hb4)
   have HR4 := hid (HR3.out.below hb4)
   have HB4 := hid (HB3.out.trans (hb4.mono HB3.out.size))
   have HW4 := hid (HW3.out.trans (hb4.mono HW3.out.size))
   have HG4 : Hid (g1 + 1 < gs ∧ gs < w4.heap.size) := hid ⟨by have := HG3.out; omega, hn4.lt⟩
   clear hn4 hb4 hpt hpl hpn HV3 HR3 HB3 HW3 HG3 HPS hgs hw4
   go_wp2_with fail
   refine (nr_calls _ [126] [47] (nam4 w4 [126] [47])).mono ?_
   rintro e w5 ⟨g7, rfl, hrp, hb5⟩
   have HB45 : Hid (Below w4.heap.size w4 w5) := hid (((Below.refl w4.heap.size w4).alloc (Nat.le_refl _) _).trans (hb5.mono (by rw [World.size_alloc]; omega)))
   rw [World.size_alloc] at hrp
   obtain ⟨lo, hlo⟩ : ∃ l, w4.heap.size + 1 = l := ⟨_, rfl⟩
   rw [hlo] at hrp
   have HI : Hid (PtI w w5 g1 gs lo g7 r1 (h0 :: ps)) := hid ⟨HB4.out.trans (HB45.out.mono HB4.out.size), HV4.out.below HB45.out, HR4.out.below HB45.out, HN4.out.below HB45.out, hrp, ⟨HG.out.1, HG4.out.1, by have := HG4.out; omega⟩⟩
   clear hrp hb5 hlo HB45 HB4 HV4 HR4 HN4 HG4 HW4 HG
   go_wp2_with fail
   go_loopg [34] ps.length (fun kk s34 wr => ∃ (i : Nat), kk = ps.length - i ∧ i ≤ ps.length ∧ s34 = .int .i64 (i : Int) ∧ PtI w wr g1 gs lo g7 r1 (h0 :: ((ps.take i).map (replS [126] [47]) ++ ps.drop i)) ∧ ∀ q ∈ ps.take i, tilN q ≠ none)
   case atStart => exact ⟨0, rfl, Nat.zero_le _, rfl, HI.out, by simp⟩
   obtain ⟨i, hki, hi, rfl, hI, htl⟩ := hrel
   have Hki := hid hki
   have HJ := hid hI
   have HTL := hid htl
   clear hki hI htl HI
   by_cases hlt : i < ps.length
   ·
    have hlti : (i : Int) < (ps.length : Int) := by omega
    obtain rfl := HPN.out (by omega)
    clear HPN
    obtain ⟨x, hx⟩ : ∃ x, ps[i]? = some x := ⟨_, List.getElem?_eq_getElem hlt⟩
    have HL0 : Hid ((h0 :: ((ps.take i).map (replS [126] [47]) ++ ps.drop i))[i + 1]? = some x) := hid (by rw [List.getElem?_cons_succ, List.getElem?_append_right (by simp; omega)]; simp [List.getElem?_drop]; rw [show i + (i - min i ps.length) = i by omega]; exact hx)
    have HLL : Hid ((h0 :: ((ps.take i).map (replS [126] [47]) ++ ps.drop i)).length = ps.length + 1) := hid (by simp; omega)
    have HXL : Hid (x.length ≤ 90000000) := hid (HPL.out x (List.mem_of_getElem? hx))
    have HLN : Hid ((h0 :: ((ps.take i).map (replS [126] [47]) ++ ps.drop i)).set (i + 1) (replS [126] [47] x) = h0 :: ((ps.take (i + 1)).map (replS [126] [47]) ++ ps.drop (i + 1))) := hid (names_set hx)
    have HTN : Hid (tilN x ≠ none → ∀ q ∈ ps.take (i + 1), tilN q ≠ none) := hid (fun h q hq => by rw [List.take_add_one, hx] at hq; rcases List.mem_append.1 hq with h9 | h9; (exact HTL.out q h9); (simp at h9; rw [h9]; exact h))
    have HBD : Hid (tilN x = none → tilAll ps = none) := hid (fun h => tilAll_none ps x (List.mem_of_getElem? hx) h)
    obtain ⟨L, hL⟩ : ∃ L, h0 :: ((ps.take i).map (replS [126] [47]) ++ ps.drop i) = L := ⟨_, rfl⟩
    rw [hL] at HJ HL0 HLL HLN
    clear hL hx
    have hnc : _ = some (Value.string ⟨x.toArray⟩) := HJ.out.nm.cell (i + 1) _ (by unfold txts; rw [List.getElem?_map, HL0.out]; rfl)
    have hnz := HJ.out.nm.free (i + 1)
    rw [show i + 1 = 1 + i by omega] at hnc hnz
    go_wp2_with fail
    clear hnc hnz
    refine (nr_calls _ [] [] (nam4 wr [] [])).mono ?_
    rintro e w6 ⟨g8, rfl, hrp, hb6⟩
    have HB6 : Hid (Below wr.heap.size wr w6) := hid (((Below.refl wr.heap.size wr).alloc (Nat.le_refl _) _).trans (hb6.mono (by rw [World.size_alloc]; omega)))
    rw [World.size_alloc] at hrp
    have HRP := hid hrp
    clear hrp hb6
    go_wp2_with fail
    refine (rep_calls w6 HRP.out (by simp) x (by have := HXL.out; omega)).mono ?_
    rintro e w7 ⟨rfl, _, hap⟩
    have HB7 : Hid (Below wr.heap.size wr w7) := hid (HB6.out.trans (hap.below HB6.out.size (fun i hi e => by have := HRP.out.hlo; omega)))
    clear hap HB6
    go_wp2_with fail
    refine (Any.strings_Contains_one Tryz.lays144 ⟨(replS [] [] x).toArray⟩ 126 w7).mono ?_
    rintro e w8 ⟨rfl, rfl⟩
    have HI7 := hid (HJ.out.below HB7.out)
    clear HJ HB7 HRP
    have hct : decide (0 ≤ Lib.indexByte (⟨(replS [] [] x).toArray⟩ : ByteArray).data.toList 126) = (replS [] [] x).contains 126 := has_til _
    rw [hct]
    have HTB : Hid ((replS [] [] x).contains 126 = true ↔ tilN x = none) := hid (by rw [(tilN_none x).1]; simp)
    obtain ⟨q, hq⟩ : ∃ q, (replS [] [] x).contains 126 = q := ⟨_, rfl⟩
    rw [hq] at HTB ⊢
    clear hct hq
    cases q with
    | true =>
     have HA2 : Hid (ANS = (J.zero, 2)) := hid (by rw [HA.out, HPT.out, HBD.out (HTB.out.1 rfl)]; rfl)
     clear HA HTB HBD HTN
     go_wp2_with (first | with_reducible refine stop_ret ?_ | (refine wpList_storeJ rfl _ _ rfl rfl HI7.out.res rfl jzero slJ_zero rfl rfl ?_; intro wS hSx))
     refine hid ?_
     refine bodyPost_retJt jzero rfl rfl rfl rfl hSx.row ?_
     have HAN : ANS = (J.zero, 2) := HA2.out
     rw [HAN]
     exact ⟨.slice none 0 0, .slice none 0 0, rfl, JV.zero _ _, hSx.below HI7.out.be (by have := HI7.out.at_; omega) HI7.out.be.size⟩
    | false =>
     have HTF : Hid (tilN x ≠ none) := hid (fun e => by have := HTB.out.2 e; cases this)
     clear HTB HBD
     go_wp2_with fail
     refine (rep_calls w8 HI7.out.rp (by simp) x (by have := HXL.out; omega)).mono ?_
     rintro e w9 ⟨rfl, hrp9, hap9⟩
     have HI9 := hid (HI7.out.turned hrp9 hap9)
     clear hrp9 hap9 HI7
     have hnc : _ = some (Value.string ⟨x.toArray⟩) := HI9.out.nm.cell (i + 1) _ (by unfold txts; rw [List.getElem?_map, HL0.out]; rfl)
     have hnz := HI9.out.nm.free (i + 1)
     rw [show i + 1 = 1 + i by omega] at hnc hnz
     go_wp2_with fail
     have hput := HI9.out.put (i + 1) (by rw [HLL.out]; omega) (replS [126] [47] x)
     rw [HLN.out] at hput
     have HPU := hid hput
     clear hput
     go_roundg (ps.length - (i + 1))
     case measure => have := Hki.out; omega
     exact ⟨i + 1, rfl, by omega, by go_num, by have h9 := HPU.out; rw [show (⟨gs, i + 1, none⟩ : Addr) = ⟨gs, 1 + i, none⟩ by rw [Nat.add_comm]] at h9; exact h9, HTN.out HTF.out⟩
   obtain rfl : i = ps.length := by omega
   have hni : ¬ ((ps.length : Nat) : Int) < (ps.length : Int) := by omega
   have HTA : Hid (pathS s = some (ps.map (replS [126] [47]))) := hid (by rw [HPT.out]; exact tilAll_some ps (fun q hq => HTL.out q (by rw [List.take_length]; exact hq)))
   have HUL : Hid (∀ u ∈ ps.map (replS [126] [47]), u.length ≤ 1000000000) := hid (fun u hu => by obtain ⟨q, hq, rfl⟩ := List.mem_map.1 hu; have h1 := HPL.out q hq; have h2 := replS_len [126] [47] (by simp) _ q (Nat.le_refl _); omega)
   have HU : Hid (PtI w wr g1 gs lo g7 r1 (h0 :: ps.map (replS [126] [47]))) := hid (by have h9 := HJ.out; rw [List.take_length, List.drop_length, List.append_nil] at h9; exact h9)
   have hul : (ps.map (replS [126] [47])).length = ps.length := by simp
   obtain ⟨us, hus⟩ : ∃ us, ps.map (replS [126] [47]) = us := ⟨_, rfl⟩
   rw [hus] at HTA HUL HU hul
   rw [← hul] at HPN ⊢
   have hub : us.length ≤ 100000000 := by omega
   clear hul
   clear hus HTL HPT HPL HJ Hki hlt hni hi
   rw [HTA.out] at HA
   clear HTA
   go_wp2_with fail
   go_loopg [54] us.length (fun kk s54 wz => ∃ (i : Nat) (r : JR), kk = us.length - i ∧ i ≤ us.length ∧ s54 = .int .i64 (i : Int) ∧ PtI w wz g1 gs lo g7 r (h0 :: us) ∧ JV w0 S1 r ∧ goodJ r.1 = true ∧ szJ r.1 ≤ 20000000 ∧ walkJ r1.1 us = walkJ r.1 (us.drop i))
   case atStart => exact ⟨0, r1, rfl, Nat.zero_le _, rfl, HU.out, h1, HGD.out, HSZ.out, rfl⟩
   obtain ⟨i, r, hki, hi, rfl, hI, hJ, hgr, hzr, hwk⟩ := hrel
   have Hki := hid hki
   have HI := hid hI
   have HJR := hid hJ
   have HGR := hid hgr
   have HZR := hid hzr
   have HWK := hid hwk
   clear hki hI hJ hgr hzr hwk HU HGD HSZ h1 HSJ1
   by_cases hlt : i < us.length
   ·
    have hlti : (i : Int) < (us.length : Int) := by omega
    obtain rfl := HPN.out (by omega)
    clear HPN
    obtain ⟨x, hx⟩ : ∃ x, us[i]? = some x := ⟨_, List.getElem?_eq_getElem hlt⟩
    have HUX : Hid (x.length ≤ 1000000000) := hid (HUL.out x (List.mem_of_getElem? hx))
    have HDX : Hid (us.drop i = x :: us.drop (i + 1)) := hid (by rw [List.drop_eq_getElem_cons hlt]; congr 1; exact (List.getElem?_eq_some_iff.1 hx).2)
    have hnc : _ = some (Value.string ⟨x.toArray⟩) := HI.out.nm.cell (i + 1) _ (by unfold txts; rw [List.getElem?_map, List.getElem?_cons_succ, hx]; rfl)
    rw [show i + 1 = 1 + i by omega] at hnc
    go_wp2_with (refine wpList_loadJ rfl _ rfl r HI.out.v rfl ?_)
    clear hnc hx
    refine (step_calls HJR.out hTab HE.out _ (HB.out.trans (HI.out.be.mono HB.out.size)) (kind_lens HGR.out) (by have := HZR.out; omega) x HUX.out).mono ?_
    rintro e w9 ⟨hst, hb9⟩
    have HI9 := hid (HI.out.below hb9)
    clear hb9 HI
    rcases hst with ⟨r2, hs2, hm2, hJ2, rfl⟩ | ⟨hs2, rfl⟩
    ·
     have HSL := hid hJ2.slJ
     have HJ2 := hid hJ2
     have HG2 := hid (good_mem HGR.out hm2)
     have HW2 : Hid (walkJ r1.1 us = walkJ r2.1 (us.drop (i + 1))) := hid (by rw [HWK.out, HDX.out, walkJ_some hs2])
     clear hJ2 hm2 hs2
     go_upto_region 16 with (first | (refine wpList_allocJ rfl rfl ?_; intro wa hBx) | (refine wpList_storeJ rfl _ _ rfl rfl hBx.row rfl r2 (by first | exact slJ_zero | exact HSL.out) rfl rfl ?_; intro wS hSx))
     have HIS := hid (HI9.out.below (hSx.below hBx.be (Nat.le_refl _) hBx.be.size))
     have HRX := hid hSx.row
     clear hBx hSx HI9
     go_wp2_with (first | refine wpList_loadJ rfl _ rfl r2 HRX.out rfl ?_ | (refine wpList_storeJ rfl _ _ rfl rfl HIS.out.v rfl r2 HSL.out rfl rfl ?_; intro wT hTx))
     have HIT := hid (HIS.out.step hTx)
     clear hTx
     go_roundg (us.length - (i + 1))
     case measure => have := Hki.out; omega
     exact ⟨i + 1, r2, rfl, by omega, by go_num, HIT.out, HJ2.out, HG2.out.1, by have := HG2.out.2; have := HZR.out; omega, HW2.out⟩
    have HA2 : Hid (ANS = (J.zero, 7)) := hid (by rw [HA.out, ptrK, HWK.out, HDX.out, walkJ_none hs2])
    clear hs2 HA
    go_upto_region 16 with (first | (refine wpList_allocJ rfl rfl ?_; intro wa hBx) | (refine wpList_storeJ rfl _ _ rfl rfl hBx.row rfl jzero (by first | exact slJ_zero | exact HSL.out) rfl rfl ?_; intro wS hSx))
    have HIS := hid (HI9.out.below (hSx.below hBx.be (Nat.le_refl _) hBx.be.size))
    have HRX := hid hSx.row
    clear hBx hSx HI9
    go_wp2_with (first | with_reducible refine stop_ret ?_ | (refine wpList_storeJ rfl _ _ rfl rfl HIS.out.res rfl jzero slJ_zero rfl rfl ?_; intro wS hSx))
    refine hid ?_
    refine bodyPost_retJt jzero rfl rfl rfl rfl hSx.row ?_
    have HAN : ANS = (J.zero, 7) := HA2.out
    rw [HAN]
    exact ⟨.slice none 0 0, .slice none 0 0, rfl, JV.zero _ _, hSx.below HIS.out.be (by have := HIS.out.at_; omega) HIS.out.be.size⟩
   obtain rfl : i = us.length := by omega
   have hni : ¬ ((us.length : Nat) : Int) < (us.length : Int) := by omega
   have HA2 : Hid (ANS = (cpJ false r.1, 0)) := hid (by rw [HA.out, ptrK, HWK.out, List.drop_length]; rfl)
   clear HA HWK
   go_wp2_with (refine wpList_loadJ rfl _ rfl r HI.out.v rfl ?_)
   refine (copied_calls HJR.out false _ (HB.out.trans (HI.out.be.mono HB.out.size)) HGR.out (by have := HZR.out; omega)).mono ?_
   rintro e w4c ⟨lv, nv, rfl, hJc, hbc⟩
   have HI9 := hid (HI.out.below hbc)
   have HJC := hid hJc
   have HSL := hid hJc.slJ
   have HLO := hid HI.out.res.lt
   have HSZ9 := hid HI.out.be.size
   clear hJc hbc HI
   go_wp2_with (first | with_reducible refine stop_ret ?_ | (refine wpList_storeJ rfl _ _ rfl rfl HI9.out.res rfl (cpJ false r.1, lv, nv) HSL.out rfl rfl ?_; intro wS hSx))
   refine hid ?_
   refine bodyPost_retJt (cpJ false r.1, lv, nv) rfl rfl rfl rfl hSx.row ?_
   rw [HA2.out]
   exact ⟨lv, nv, rfl, (HJC.out.apart hSx.apart (fun k hk _ e => by have := HLO.out; omega)).mono (fun k _ hk => by have := HSZ9.out; omega), hSx.below HI9.out.be (by have := HI9.out.at_; omega) HI9.out.be.size⟩
open Go.RowKit
def qdS (l : List UInt8) : Option (List UInt8) := match l with
 | [] => none
 | c :: t => if c = 34 then qlS t else none
def QuoP (w : World) (l : List UInt8) (e : Ending) (w' : World) : Prop :=
 Below w.heap.size w w' ∧ ∃ n : Nat, e = .returned (.int .i64 (n : Int)) ∧ ((n = 0 ∧ qdS l = none) ∨ (0 < n ∧ n ≤ l.length ∧ qdS l = some (l.drop n)))
def escL : List UInt8 := [34, 92, 47, 98, 102, 110, 114, 116, 117]
theorem ql_eq {n : Nat} {s : List UInt8} (h : s.length < n) : qlN n s = qlS s := ql_fuel _ _ s h (Nat.lt_succ_self _)
theorem qlS_low {c : UInt8} {t : List UInt8} (h : c.toNat < 32) : qlS (c :: t) = none := by
 unfold qlS; simp only [List.length_cons, qlN]; rw [if_pos h]
theorem qlS_end {t : List UInt8} : qlS (34 :: t) = some t := by
 unfold qlS; simp only [List.length_cons, qlN]; rw [if_neg (by decide)]; simp
theorem qlS_plain {c : UInt8} {t : List UInt8} (h1 : ¬ c.toNat < 32) (h2 : c ≠ 34) (h3 : c ≠ 92) : qlS (c :: t) = qlS t := by
 unfold qlS; simp only [List.length_cons, qlN]; rw [if_neg h1, if_neg h2, if_neg h3]
theorem qlS_esc {t : List UInt8} : qlS (92 :: t) = match t with
  | [] => none
  | e :: t2 => if (plainS e).isSome then qlS t2 else if e = 117 then match hexN 4 0 t2 with
    | none => none
    | some (_, t3) => qlS t3
   else none := by
 cases t with
 | nil => rfl
 | cons e t2 =>
  have h0 : qlS (92 :: e :: t2) = qlN (t2.length + 1 + 1 + 1) (92 :: e :: t2) := rfl
  rw [h0]
  simp only [qlN]
  rw [if_neg (by decide), if_neg (by decide), if_pos trivial]
  rw [ql_eq (show t2.length < t2.length + 1 + 1 by omega)]
  cases hh : hexN 4 0 t2 with
  | none => rfl
  | some x =>
   obtain ⟨y, t3⟩ := x
   have := hexN_len _ _ _ _ _ hh
   simp only
   rw [ql_eq (show t3.length < t2.length + 1 + 1 by omega)]
theorem esc_in (e : UInt8) : escL.contains e = ((plainS e).isSome || e == 117) := by
 unfold plainS escL
 by_cases h1 : e = 34
 ·subst h1; rfl
 by_cases h2 : e = 92
 ·subst h2; rfl
 by_cases h3 : e = 47
 ·subst h3; rfl
 by_cases h4 : e = 98
 ·subst h4; rfl
 by_cases h5 : e = 102
 ·subst h5; rfl
 by_cases h6 : e = 110
 ·subst h6; rfl
 by_cases h7 : e = 114
 ·subst h7; rfl
 by_cases h8 : e = 116
 ·subst h8; rfl
 rw [if_neg h1, if_neg h2, if_neg h3, if_neg h4, if_neg h5, if_neg h6, if_neg h7, if_neg h8]
 simp [h1, h2, h3, h4, h5, h6, h7, h8]
 rw [Bool.eq_iff_iff]
 simp
theorem plain_u : plainS 117 = none := by decide
theorem quotedP_calls (w : World) (l : List UInt8) (hl : l.length ≤ 1000000000) : Calls Tryz.prog 79 #[.string ⟨l.toArray⟩] w (QuoP w l) := by
 go_enter Tryz.func79, Tryz.ntmps79
 go_wp2_with fail
 refine (same (Tryz.strings_HasPrefix ⟨l.toArray⟩ ⟨#[34]⟩ _)).mono ?_
 rintro e w1 ⟨rfl, rfl⟩
 rw [show Lib.hasPrefix (⟨l.toArray⟩ : ByteArray).data.toList (⟨#[34]⟩ : ByteArray).data.toList = (l.head? == some 34) from pre_one l 34]
 cases hp : (l.head? == some 34) with
 | false =>
  have HZ : Hid (qdS l = none) := hid (by
   cases l with
   | nil => rfl
   | cons c t =>
    unfold qdS
    simp only
    rw [if_neg]
    rintro rfl
    simp at hp)
  clear hp
  go_wp2_with fail
  go_ret
  exact ⟨Below.refl _ _, 0, rfl, .inl ⟨rfl, HZ.out⟩⟩
 | true =>
  have hql : 1 ≤ l.length ∧ qdS l = qlS (l.drop 1) := by
   cases l with
   | nil => simp at hp
   | cons c t =>
    have hc : c = 34 := by simpa using hp
    subst hc
    exact ⟨by simp, rfl⟩
  obtain ⟨h1l, hqd⟩ := hql
  have HQD := hid hqd
  clear hqd hp
  go_wp2_with fail
  go_loopg [3] (l.length - 1) (fun k s3 wr => ∃ i : Nat, k = l.length - i ∧ 1 ≤ i ∧ i ≤ l.length ∧ s3 = .int .i64 (i : Int) ∧ qlS (l.drop 1) = qlS (l.drop i) ∧ Below w.heap.size w wr)
  case atStart => exact ⟨1, rfl, Nat.le_refl _, h1l, rfl, rfl, Below.refl _ _⟩
  obtain ⟨i, hk, hi1, hi, rfl, hq, hbe⟩ := hrel
  have Hk := hid hk
  have HQ := hid (HQD.out.trans hq)
  have HQ0 := hid hq
  have HB := hid hbe
  clear hk hq hbe
  by_cases hlt : i < l.length
  ·have hlt2 : (i : Int) < (l.length : Int) := by omega
   have hij := byte_at l i hlt
   have HDR := hid (show l.drop i = l.getD i 0 :: l.drop (i + 1) from drop_at hlt)
   generalize l.getD i 0 = c at *
   by_cases c32 : c.toNat < 32
   ·have c32i : (c.toNat : Int) < 32 := by omega
    have HZ : Hid (qdS l = none) := hid (by rw [HQ.out, HDR.out, qlS_low c32])
    go_wp2_with fail
    go_ret
    exact ⟨HB.out, 0, rfl, .inl ⟨rfl, HZ.out⟩⟩
   have c32d : decide ((c.toNat : Int) < 32) = false := by rw [decide_eq_false_iff_not]; omega
   by_cases c34 : c.toNat = 34
   ·have c34b : ((c.toNat : Int) == 34) = true := by rw [beq_iff_eq]; omega
    have HZ : Hid (qdS l = some (l.drop (i + 1))) := hid (by rw [HQ.out, HDR.out, show c = 34 from UInt8.toNat_inj.1 (by rw [c34]; rfl), qlS_end])
    go_wp2_with fail
    go_ret
    exact ⟨HB.out, i + 1, by go_num, .inr ⟨by omega, by omega, HZ.out⟩⟩
   have c34b : ((c.toNat : Int) == 34) = false := by rw [beq_eq_false_iff_ne]; omega
   by_cases c92 : c.toNat = 92
   ·have c92b : ((c.toNat : Int) == 92) = true := by rw [beq_iff_eq]; omega
    have hc : c = 92 := UInt8.toNat_inj.1 (by rw [c92]; rfl)
    rw [hc] at HDR
    clear c92 c34 c32 hc
    obtain ⟨m, hm⟩ : ∃ m, i + 1 = m := ⟨_, rfl⟩
    have hmi : (i : Int) + 1 = (m : Int) := by omega
    rw [hm] at HDR
    have HQ1 : Hid (qlS (l.drop 1) = _) := hid (by rw [HQ0.out, HDR.out, qlS_esc])
    have HM := hid hm
    clear hm
    by_cases hml : m = l.length
    ·have hmb : ((m : Int) == (l.length : Int)) = true := by rw [beq_iff_eq]; omega
     have HZ : Hid (qdS l = none) := hid (by rw [HQD.out, HQ1.out, List.drop_of_length_le (by omega)])
     go_wp2_with fail
     go_ret
     exact ⟨HB.out, 0, rfl, .inl ⟨rfl, HZ.out⟩⟩
    have hmb : ((m : Int) == (l.length : Int)) = false := by rw [beq_eq_false_iff_ne]; omega
    have hml2 : m < l.length := by have := HM.out; omega
    have hml3 : (m : Int) < (l.length : Int) := by omega
    have hmj := byte_at l m hml2
    have HQ2 : Hid (qlS (l.drop 1) = if (plainS (l.getD m 0)).isSome then qlS (l.drop (m + 1)) else if l.getD m 0 = 117 then match hexN 4 0 (l.drop (m + 1)) with
      | none => none
      | some (_, t3) => qlS t3
     else none) := hid (by rw [HQ1.out, show l.drop m = l.getD m 0 :: l.drop (m + 1) from drop_at hml2])
    clear HQ1
    generalize l.getD m 0 = d at *
    go_wp2_with fail
    refine (same (Tryz.strings_IndexByte ⟨escL.toArray⟩ _ _)).mono ?_
    rintro e w2 ⟨rfl, rfl⟩
    have hcl : (d.toNat : Int).toNat.toUInt8 = d := by simp
    have hix : Lib.indexByte (⟨escL.toArray⟩ : ByteArray).data.toList d = Lib.indexByte escL d := rfl
    rw [hcl, hix]
    have hin := index_in escL d
    rw [esc_in] at hin
    clear hcl hix
    generalize Lib.indexByte escL d = ix at *
    cases hpl : (plainS d).isSome with
    | true =>
     rw [hpl] at hin
     have hixn : ¬ ix < 0 := by simpa using hin
     have h117 : ((d.toNat : Int) == 117) = false := by
      rw [beq_eq_false_iff_ne]
      intro e9
      have e8 : d.toNat = 117 := by omega
      have e7 : d = 117 := UInt8.toNat_inj.1 (by rw [e8]; rfl)
      rw [e7, plain_u] at hpl
      cases hpl
     have HZ : Hid (qlS (l.drop 1) = qlS (l.drop (m + 1))) := hid (by rw [HQ2.out, if_pos hpl])
     clear hin hpl
     go_wp2_with fail
     go_roundg (l.length - (m + 1))
     case measure => have := Hk.out; have := HM.out; omega
     exact ⟨m + 1, rfl, by omega, by omega, by go_num, HZ.out, HB.out⟩
    | false =>
     rw [hpl] at hin
     by_cases d117 : d = 117
     ·have hixn : ¬ ix < 0 := by rw [d117] at hin; simpa using hin
      have h117 : ((d.toNat : Int) == 117) = true := by rw [d117]; rfl
      obtain ⟨q, hq⟩ : ∃ q, m + 1 = q := ⟨_, rfl⟩
      have hqi : (m : Int) + 1 = (q : Int) := by omega
      have hql : q ≤ l.length := by omega
      have hqli : (q : Int) ≤ (l.length : Int) := by omega
      have hext := ext_drop l q
      have HQ3 : Hid (qlS (l.drop 1) = match hexN 4 0 (l.drop q) with
        | none => none
        | some (_, t3) => qlS t3) := hid (by rw [HQ2.out, hpl, if_neg (by decide), if_pos d117, hq])
      have HQQ := hid hq
      clear hin hpl d117 hq HQ2
      go_wp2_with fail
      refine (hexP_calls wr (l.drop q) (by rw [List.length_drop]; omega)).mono ?_
      rintro e w2 ⟨hb2, hh⟩
      have HB2 := hid (HB.out.trans (hb2.mono HB.out.size))
      clear hb2
      rcases hh with ⟨h1, rfl⟩ | ⟨y, hy, h1, rfl⟩
      ·have HZ : Hid (qdS l = none) := hid (by rw [HQD.out, HQ3.out, h1])
       go_wp2_with fail
       go_ret
       exact ⟨HB2.out, 0, rfl, .inl ⟨rfl, HZ.out⟩⟩
      have hl4 := hexN_len _ _ _ _ _ h1
      rw [List.length_drop, List.length_drop] at hl4
      have HZ : Hid (qlS (l.drop 1) = qlS (l.drop (m + 5))) := hid (by rw [HQ3.out, h1]; simp only; rw [List.drop_drop, ← HQQ.out])
      have HM5 : Hid (m + 5 ≤ l.length) := hid (by have := HQQ.out; omega)
      go_wp2_with fail
      go_roundg (l.length - (m + 5))
      case measure => have := Hk.out; have := HM.out; have := HM5.out; omega
      exact ⟨m + 5, rfl, by omega, HM5.out, by go_num, HZ.out, HB2.out⟩
     have hixn : ix < 0 := by
      have e9 : (d == 117) = false := by rw [beq_eq_false_iff_ne]; exact d117
      rw [e9] at hin
      simpa using hin
     have HZ : Hid (qdS l = none) := hid (by rw [HQD.out, HQ2.out, hpl, if_neg (by decide), if_neg d117])
     clear hin hpl d117
     go_wp2_with fail
     go_ret
     exact ⟨HB.out, 0, rfl, .inl ⟨rfl, HZ.out⟩⟩
   have c92b : ((c.toNat : Int) == 92) = false := by rw [beq_eq_false_iff_ne]; omega
   have HZ : Hid (qlS (l.drop 1) = qlS (l.drop (i + 1))) := hid (by rw [HQ0.out, HDR.out, qlS_plain c32 (fun e => c34 (by rw [e]; rfl)) (fun e => c92 (by rw [e]; rfl))])
   clear c92 c34 c32
   go_wp2_with fail
   go_roundg (l.length - (i + 1))
   case measure => have := Hk.out; omega
   exact ⟨i + 1, rfl, by omega, by omega, by go_num, HZ.out, HB.out⟩
  have hlt2 : ¬ (i : Int) < (l.length : Int) := by omega
  have hlt3 : decide ((i : Int) < (l.length : Int)) = false := by rw [decide_eq_false_iff_not]; exact hlt2
  have HZ : Hid (qdS l = none) := hid (by rw [HQ.out, List.drop_of_length_le (by omega)]; rfl)
  go_wp2_with fail
  go_ret
  exact ⟨HB.out, 0, rfl, .inl ⟨rfl, HZ.out⟩⟩
end Go.Proofs.YtfclfaidmipjpaaGreatDoor
