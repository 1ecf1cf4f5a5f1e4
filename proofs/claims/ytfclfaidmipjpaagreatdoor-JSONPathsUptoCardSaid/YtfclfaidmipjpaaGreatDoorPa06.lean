/- Texts of this claim, joined: Rtx. -/
import Derived.Test.YtfclfaidmipjpaaGreatDoorPa03
import Derived.Test.YtfclfaidmipjpaaGreatDoorPa04
import Derived.Test.YtfclfaidmipjpaaGreatDoorPa05
namespace Go.Proofs.YtfclfaidmipjpaaGreatDoor
set_option maxRecDepth 100000
set_option maxHeartbeats 20000000
open Go.Lib (hid)
open Go.RowKit
def TexTo (w : World) (v : J) (e : Ending) (w' : World) : Prop := e = .returned (.string ⟨(toldJ v).toArray⟩) ∧ Below w.heap.size w w'
theorem told_k {b : Bool} {n : Dec} {t : List UInt8} {l : List J} {ns : List (List UInt8)} (obj : Bool) : toldJ (.mk (kindI obj) b n t l ns) = (if obj then [123] else [91]) ++ toldL obj true l ns ++ (if obj then [125] else [93]) := by
 cases obj <;> simp [toldJ, kindI]
theorem toldL_le (obj : Bool) (l : List J) (ns : List (List UInt8)) : ∀ i, (toldL obj true (l.take i) ns).length ≤ (toldL obj true l ns).length := by
 have step : ∀ i, i < l.length → (toldL obj true (l.take i) ns).length ≤ (toldL obj true (l.take (i + 1)) ns).length := fun i hi => by
  rw [told_take obj l ns i hi]
  simp only [List.length_append]
  omega
 have key : ∀ d i, i + d = l.length → (toldL obj true (l.take i) ns).length ≤ (toldL obj true l ns).length := by
  intro d
  induction d with
  | zero => intro i hi; rw [List.take_of_length_le (by omega)]; exact Nat.le_refl _
  | succ d ih => intro i hi; exact Nat.le_trans (step i (by omega)) (ih (i + 1) (by omega))
 intro i
 rcases Nat.lt_or_ge i l.length with h9 | h9
 ·exact key (l.length - i) i (by omega)
 rw [List.take_of_length_le h9]; exact Nat.le_refl _
theorem quo_len7 (s : List UInt8) (h : s.length ≤ 20000000) : (quoT s).length ≤ 200000000 := by have := quoT_len s; omega
theorem textJ_calls {w0 : World} {S1 : Nat → Prop} {r1 : JR} (h1 : JV w0 S1 r1) (hTab : Tab w0) : ∀ (w : World), Below w0.heap.size w0 w → goodJ r1.1 = true → szJ r1.1 ≤ 20000000 → Calls Tryz.prog 41 #[jval r1] w (TexTo w r1.1) := by
 induction h1 with
 | mk r1 xs hn1 hl1 hs1 ih =>
  intro w hb hgd hsz
  obtain ⟨⟨k, b, ⟨ng, dg, ex⟩, t, l, ns⟩, lv0, nv0⟩ := r1
  obtain ⟨p1, c1, hp1, hc1, hm1, hL1⟩ := hl1
  change lv0 = Value.slice p1 l.length c1 at hp1
  obtain ⟨q1, e1, hq1, hcn1, hk1, hN1⟩ := hn1
  change nv0 = Value.slice q1 ns.length e1 at hq1
  subst hp1 hq1
  simp only [J.l] at hm1 hL1 hc1
  simp only [J.ns] at hN1
  have hsz0 := hsz
  simp only [szJ] at hsz
  have hln : l.length ≤ 20000000 := by have := szL_len l; omega
  have hnn : ns.length ≤ 20000000 := by have := szN_len ns; omega
  have HSZ : Hid (szL l ≤ 20000000 ∧ t.length ≤ 20000000 ∧ dg.length ≤ 20000000 ∧ szN ns ≤ 20000000) := hid ⟨by omega, by omega, by omega, by omega⟩
  have HTB : Hid (Tab w) := hid (hTab.below hb)
  obtain ⟨hh, hmb, hvt, hk5, hgl, hng⟩ := of_good hgd
  have HMB := hid hmb
  have HGL := hid hgl
  have HK5 := hid hk5
  have HTS := hid (told_sz _ hgd)
  have hkk : k = 0 ∨ k = 1 ∨ k = 2 ∨ k = 3 ∨ ∃ obj : Bool, k = kindI obj := by
   have h0 := hh.k0
   have h5 := hh.k5
   by_cases e4 : k = 4
   ·exact .inr (.inr (.inr (.inr ⟨false, e4⟩)))
   by_cases e5 : k = 5
   ·exact .inr (.inr (.inr (.inr ⟨true, e5⟩)))
   omega
  have HL := hid hL1
  have HN := hid hN1
  have HB := hid hb
  have HIH := hid ih
  have HS0 := hid hsz0
  have HKK := hid hkk
  clear hL1 hN1 hb ih hs1 hsz hsz0 hcn1 hk1 hc1 hm1 hh hmb hvt hk5 hgl hng hgd hkk
  go_enter Tryz.func41, Tryz.ntmps41
  go_upto_region 1 with (refine wpList_boxJ rfl _ rfl (J.mk k b ⟨ng, dg, ex⟩ t l ns, .slice p1 l.length c1, .slice q1 ns.length e1) rfl ?_; intro w1 hBx)
  have HV := hid hBx.row
  have HBE := hid hBx.be
  obtain ⟨g, hg⟩ : ∃ g, w.heap.size = g := ⟨_, rfl⟩
  rw [hg] at HV ⊢
  clear hBx hg
  have v0 : _ = some (Value.int .i64 k) := HV.out.cell 0 _ rfl
  have v1 : _ = some (Value.bool b) := HV.out.cell 1 _ rfl
  have v2 : _ = some (Value.bool ng) := HV.out.cell 2 _ rfl
  have v3 : _ = some (Value.string ⟨dg.toArray⟩) := HV.out.cell 3 _ rfl
  have v4 : _ = some (Value.int .i64 ex) := HV.out.cell 4 _ rfl
  have v5 : _ = some (Value.string ⟨t.toArray⟩) := HV.out.cell 5 _ rfl
  rcases HKK.out with rfl | rfl | rfl | rfl | ⟨obj, rfl⟩
  ·
   go_wp2_with fail
   go_ret
   exact ⟨rfl, HBE.out⟩
  ·
   cases b with
   | true =>
    go_wp2_with fail
    go_ret
    exact ⟨rfl, HBE.out⟩
   | false =>
    go_wp2_with fail
    go_ret
    exact ⟨rfl, HBE.out⟩
  ·
   go_wp2_with fail
   refine (textR_calls w1 ⟨ng, dg, ex⟩ HMB.out (HTB.out.below HBE.out)).mono ?_
   rintro e w2 ⟨rfl, hb2⟩
   have HB2 := hid (HBE.out.trans (hb2.mono HBE.out.size))
   clear hb2
   go_wp2_with fail
   go_ret
   exact ⟨by simp [toldJ, textS, HMB.out], HB2.out⟩
  ·
   go_wp2_with fail
   refine (quoteR_calls w1 t (by have := HSZ.out; omega)).mono ?_
   rintro e w2 ⟨rfl, hb2⟩
   have HB2 := hid (HBE.out.trans (hb2.mono HBE.out.size))
   clear hb2
   go_wp2_with fail
   go_ret
   exact ⟨by simp [toldJ], HB2.out⟩
  have HNO : Hid (obj = true → ns.length = l.length) := hid (fun e => HK5.out (by rw [e]; rfl))
  have HTO : Hid (toldJ (J.mk (kindI obj) b ⟨ng, dg, ex⟩ t l ns) = (if obj then [123] else [91]) ++ toldL obj true l ns ++ (if obj then [125] else [93])) := hid (told_k obj)
  have HTL : Hid ((toldL obj true l ns).length ≤ 6400000000) := hid (by have := HTS.out; rw [HTO.out] at this; simp only [List.length_append] at this; have h8 : szJ (J.mk (kindI obj) b ⟨ng, dg, ex⟩ t l ns) ≤ 20000000 := HS0.out; omega)
  clear v1 v2 v3 v4 v5
  have v6 : _ = some (Value.slice p1 l.length c1) := HV.out.cell 6 _ rfl
  have kk1 : ((kindI obj : Int) == 1) = false := by cases obj <;> rfl
  have kk2 : ((kindI obj : Int) == 2) = false := by cases obj <;> rfl
  have kk3 : ((kindI obj : Int) == 3) = false := by cases obj <;> rfl
  have kk4 : ((kindI obj : Int) == 4) = !obj := by cases obj <;> rfl
  have kk5 : ((kindI obj : Int) == 5) = obj := by cases obj <;> rfl
  cases obj with
  | false =>
   simp only [Bool.not_false] at kk4
   go_wp2_with fail
   clear v6 v0
   go_loopg [3, 4] l.length (fun kk s3 s4 wr => ∃ i : Nat, kk = l.length - i ∧ i ≤ l.length ∧ s4 = .int .i64 (i : Int) ∧ s3 = .string ⟨(toldL false true (l.take i) ns).toArray⟩ ∧ RowAt wr g (jcells (J.mk (kindI false) b ⟨ng, dg, ex⟩ t l ns, .slice p1 l.length c1, .slice q1 ns.length e1)) ∧ Below w.heap.size w wr)
   case atStart => exact ⟨0, rfl, Nat.zero_le _, rfl, rfl, HV.out, HBE.out⟩
   obtain ⟨i, hki, hi, rfl, rfl, hV, hB⟩ := hrel
   have Hki := hid hki
   have HV3 := hid hV
   have HBE3 := hid hB
   clear hki hV hB HV HBE
   have v0 : _ = some (Value.int .i64 (kindI false)) := HV3.out.cell 0 _ rfl
   have v6 : _ = some (Value.slice p1 l.length c1) := HV3.out.cell 6 _ rfl
   have HOL : Hid ((toldL false true (l.take i) ns).length ≤ 6400000000) := hid (Nat.le_trans (toldL_le false l ns i) HTL.out)
   by_cases hlt : i < l.length
   ·
    have hlti : (i : Int) < (l.length : Int) := by omega
    obtain ⟨x, hx⟩ : ∃ x, l[i]? = some x := ⟨_, List.getElem?_eq_getElem hlt⟩
    obtain ⟨gl, fl, rfl, _, hgl, hcs⟩ := HL.out (by omega)
    have HRA : Hid (∀ W, Below w.heap.size w W → W.rangeAt gl (fl + i * 8) (jcells (x, xs i))) := hid (fun W hW c v hc => by
     have hc8 : c < 8 := (List.getElem?_eq_some_iff.1 hc).1
     rw [hW.cell (p := ⟨gl, fl + i * 8 + c, none⟩) (Nat.lt_of_lt_of_le hgl HB.out.size), HB.out.cell (p := ⟨gl, fl + i * 8 + c, none⟩) hgl, hcs i x hx c hc8]; exact hc)
    have HTT : Hid (toldL false true (l.take (i + 1)) ns = toldL false true (l.take i) ns ++ ((if i = 0 then [] else [44]) ++ ((if false = true then quoT (ns.getD i []) ++ [58] else []) ++ toldJ x))) := hid (by
     have h9 := told_take false l ns i hlt
     rw [(List.getElem?_eq_some_iff.1 hx).2] at h9
     exact h9)
    have HX := hid hx
    have HXI := hid (szL_in hx)
    have HXG : Hid (goodJ x = true) := hid ((goodL_iff l).1 HGL.out x (List.mem_of_getElem? hx))
    clear hx hcs hgl
    obtain ⟨out, hout⟩ : ∃ o9, toldL false true (l.take i) ns = o9 := ⟨_, rfl⟩
    rw [hout] at HOL HTT ⊢
    clear hout
    skip
    go_upto_region 16 with fail
    have hcat1 := bytes_app out [44]
    have hsum1 : ¬ (9223372036854775807 < out.length + 1) := by have := HOL.out; omega
    by_cases hi0 : i = 0
    rotate_left
    ·
     have hi0i : (0 : Int) < (i : Int) := by omega
     have HO2 : Hid (toldL false true (l.take (i + 1)) ns = (out ++ [44]) ++ ((if false = true then quoT (ns.getD i []) ++ [58] else []) ++ toldJ x)) := hid (by rw [HTT.out, if_neg hi0, List.append_assoc])
     have HOL2 : Hid ((out ++ [44]).length ≤ 6400000001) := hid (by have := HOL.out; rw [List.length_append]; simp only [List.length_cons, List.length_nil]; omega)
     go_upto_region 18 with fail
     obtain ⟨o2, ho2⟩ : ∃ o9, (out ++ [44]) = o9 := ⟨_, rfl⟩
     try rw [hcat1]
     rw [ho2] at HO2 HOL2 ⊢
     clear ho2 hcat1 hsum1 hi0i HTT HOL
     have hra := HRA.out wr HBE3.out
     go_wp2_with (refine wpList_loadMd rfl _ rfl (x, xs i) hra rfl ?_)
     have HO3 : Hid (toldL false true (l.take (i + 1)) ns = o2 ++ toldJ x) := hid (by rw [HO2.out, if_neg (by decide), List.nil_append])
     have HOL3 : Hid (o2.length ≤ 6700000000) := hid (by have := HOL2.out; omega)
     obtain ⟨o3, ho3⟩ : ∃ o9, o2 = o9 := ⟨_, rfl⟩
     rw [ho3] at HO3 HOL3
     try rw [ho3]
     clear ho3
     refine (HIH.out i x HX.out wr (HB.out.trans (HBE3.out.mono HB.out.size)) HXG.out (by have := HXI.out; have := HSZ.out; show szJ x ≤ _; omega)).mono ?_
     rintro e w5 ⟨rfl, hb5⟩
     have HV5 := hid (HV3.out.below hb5)
     have HBE5 := hid (HBE3.out.trans (hb5.mono HBE3.out.size))
     clear hb5 hra
     have HXS : Hid ((toldJ x).length ≤ 6400000000) := hid (by have := told_sz x HXG.out; have := HXI.out; have := HSZ.out; omega)
     obtain ⟨tx, htx⟩ : ∃ q, toldJ x = q := ⟨_, rfl⟩
     rw [htx] at HXS HO3
     have HTX := hid htx
     clear htx
     have hcat4 := bytes_app o3 tx
     have hsum4 : ¬ (9223372036854775807 < o3.length + tx.length) := by have := HOL3.out; have := HXS.out; omega
     simp only [HTX.out]
     go_wp2_with fail
     go_roundg (l.length - (i + 1))
     case measure => have := Hki.out; omega
     exact ⟨i + 1, rfl, by omega, by go_num, by rw [HO3.out], HV5.out, HBE5.out⟩
    subst hi0
    have hi0i : ¬ (0 : Int) < ((0 : Nat) : Int) := by omega
    have HO2 : Hid (toldL false true (l.take (0 + 1)) ns = out ++ ((if false = true then quoT (ns.getD 0 []) ++ [58] else []) ++ toldJ x)) := hid (by rw [HTT.out, if_pos rfl, List.nil_append])
    have HOL2 : Hid (out.length ≤ 6400000001) := hid (by have := HOL.out; omega)
    go_upto_region 18 with fail
    obtain ⟨o2, ho2⟩ : ∃ o9, out = o9 := ⟨_, rfl⟩
    skip
    rw [ho2] at HO2 HOL2 ⊢
    clear ho2 hcat1 hsum1 hi0i HTT HOL
    have hra := HRA.out wr HBE3.out
    go_wp2_with (refine wpList_loadMd rfl _ rfl (x, xs 0) hra rfl ?_)
    have HO3 : Hid (toldL false true (l.take (0 + 1)) ns = o2 ++ toldJ x) := hid (by rw [HO2.out, if_neg (by decide), List.nil_append])
    have HOL3 : Hid (o2.length ≤ 6700000000) := hid (by have := HOL2.out; omega)
    obtain ⟨o3, ho3⟩ : ∃ o9, o2 = o9 := ⟨_, rfl⟩
    rw [ho3] at HO3 HOL3
    try rw [ho3]
    clear ho3
    refine (HIH.out 0 x HX.out wr (HB.out.trans (HBE3.out.mono HB.out.size)) HXG.out (by have := HXI.out; have := HSZ.out; show szJ x ≤ _; omega)).mono ?_
    rintro e w5 ⟨rfl, hb5⟩
    have HV5 := hid (HV3.out.below hb5)
    have HBE5 := hid (HBE3.out.trans (hb5.mono HBE3.out.size))
    clear hb5 hra
    have HXS : Hid ((toldJ x).length ≤ 6400000000) := hid (by have := told_sz x HXG.out; have := HXI.out; have := HSZ.out; omega)
    obtain ⟨tx, htx⟩ : ∃ q, toldJ x = q := ⟨_, rfl⟩
    rw [htx] at HXS HO3
    have HTX := hid htx
    clear htx
    have hcat4 := bytes_app o3 tx
    have hsum4 : ¬ (9223372036854775807 < o3.length + tx.length) := by have := HOL3.out; have := HXS.out; omega
    simp only [HTX.out]
    go_wp2_with fail
    go_roundg (l.length - (0 + 1))
    case measure => have := Hki.out; omega
    exact ⟨0 + 1, rfl, by omega, by go_num, by rw [HO3.out], HV5.out, HBE5.out⟩
   have hlti : ¬ (i : Int) < (l.length : Int) := by omega
   obtain rfl : i = l.length := by omega
   have hta : toldL false true (l.take l.length) ns = toldL false true l ns := by rw [List.take_of_length_le (Nat.le_refl _)]
   rw [hta] at HOL ⊢
   obtain ⟨out, hout⟩ : ∃ o9, toldL false true l ns = o9 := ⟨_, rfl⟩
   rw [hout] at HOL HTO ⊢
   clear hta hout
   have hcat1 := bytes_app [91] out
   have hcat2 := bytes_app ([91] ++ out) [93]
   have hsum1 : ¬ (9223372036854775807 < 1 + out.length) := by have := HOL.out; omega
   have hsum2 : ¬ (9223372036854775807 < 1 + out.length + 1) := by have := HOL.out; omega
   have hsum3 : ¬ (9223372036854775807 < out.length + 1) := by have := HOL.out; omega
   have hsum4 : ¬ (9223372036854775807 < out.length + 1 + 1) := by have := HOL.out; omega
   go_wp2_with fail
   go_ret
   exact ⟨by rw [HTO.out]; first | rfl | simp [bytes_eq, ByteArray.data_append] | (congr 2; exact bytes_eq (by simp [ByteArray.data_append])), HBE3.out⟩
  | true =>
   simp only [Bool.not_true] at kk4
   go_wp2_with fail
   clear v6 v0
   go_loopg [3, 4] l.length (fun kk s3 s4 wr => ∃ i : Nat, kk = l.length - i ∧ i ≤ l.length ∧ s4 = .int .i64 (i : Int) ∧ s3 = .string ⟨(toldL true true (l.take i) ns).toArray⟩ ∧ RowAt wr g (jcells (J.mk (kindI true) b ⟨ng, dg, ex⟩ t l ns, .slice p1 l.length c1, .slice q1 ns.length e1)) ∧ Below w.heap.size w wr)
   case atStart => exact ⟨0, rfl, Nat.zero_le _, rfl, rfl, HV.out, HBE.out⟩
   obtain ⟨i, hki, hi, rfl, rfl, hV, hB⟩ := hrel
   have Hki := hid hki
   have HV3 := hid hV
   have HBE3 := hid hB
   clear hki hV hB HV HBE
   have v0 : _ = some (Value.int .i64 (kindI true)) := HV3.out.cell 0 _ rfl
   have v6 : _ = some (Value.slice p1 l.length c1) := HV3.out.cell 6 _ rfl
   have HOL : Hid ((toldL true true (l.take i) ns).length ≤ 6400000000) := hid (Nat.le_trans (toldL_le true l ns i) HTL.out)
   by_cases hlt : i < l.length
   ·
    have hlti : (i : Int) < (l.length : Int) := by omega
    obtain ⟨x, hx⟩ : ∃ x, l[i]? = some x := ⟨_, List.getElem?_eq_getElem hlt⟩
    obtain ⟨gl, fl, rfl, _, hgl, hcs⟩ := HL.out (by omega)
    have HRA : Hid (∀ W, Below w.heap.size w W → W.rangeAt gl (fl + i * 8) (jcells (x, xs i))) := hid (fun W hW c v hc => by
     have hc8 : c < 8 := (List.getElem?_eq_some_iff.1 hc).1
     rw [hW.cell (p := ⟨gl, fl + i * 8 + c, none⟩) (Nat.lt_of_lt_of_le hgl HB.out.size), HB.out.cell (p := ⟨gl, fl + i * 8 + c, none⟩) hgl, hcs i x hx c hc8]; exact hc)
    have HTT : Hid (toldL true true (l.take (i + 1)) ns = toldL true true (l.take i) ns ++ ((if i = 0 then [] else [44]) ++ ((if true = true then quoT (ns.getD i []) ++ [58] else []) ++ toldJ x))) := hid (by
     have h9 := told_take true l ns i hlt
     rw [(List.getElem?_eq_some_iff.1 hx).2] at h9
     exact h9)
    have HX := hid hx
    have HXI := hid (szL_in hx)
    have HXG : Hid (goodJ x = true) := hid ((goodL_iff l).1 HGL.out x (List.mem_of_getElem? hx))
    clear hx hcs hgl
    obtain ⟨out, hout⟩ : ∃ o9, toldL true true (l.take i) ns = o9 := ⟨_, rfl⟩
    rw [hout] at HOL HTT ⊢
    clear hout
    skip
    go_upto_region 16 with fail
    have hcat1 := bytes_app out [44]
    have hsum1 : ¬ (9223372036854775807 < out.length + 1) := by have := HOL.out; omega
    by_cases hi0 : i = 0
    rotate_left
    ·
     have hi0i : (0 : Int) < (i : Int) := by omega
     have HO2 : Hid (toldL true true (l.take (i + 1)) ns = (out ++ [44]) ++ ((if true = true then quoT (ns.getD i []) ++ [58] else []) ++ toldJ x)) := hid (by rw [HTT.out, if_neg hi0, List.append_assoc])
     have HOL2 : Hid ((out ++ [44]).length ≤ 6400000001) := hid (by have := HOL.out; rw [List.length_append]; simp only [List.length_cons, List.length_nil]; omega)
     go_upto_region 18 with fail
     obtain ⟨o2, ho2⟩ : ∃ o9, (out ++ [44]) = o9 := ⟨_, rfl⟩
     try rw [hcat1]
     rw [ho2] at HO2 HOL2 ⊢
     clear ho2 hcat1 hsum1 hi0i HTT HOL
     have hili : (i : Int) < (ns.length : Int) := by have := HNO.out (by trivial); omega
     obtain ⟨s, hs⟩ : ∃ s, ns[i]? = some s := ⟨_, List.getElem?_eq_getElem (by have := HNO.out (by trivial); omega)⟩
     obtain ⟨gn, fn, rfl, _, hgn, hns⟩ := HN.out (by have := HNO.out (by trivial); omega)
     have n0 : wr.cell? ⟨gn, fn + i, none⟩ = some (.string ⟨s.toArray⟩) := (HBE3.out.cell (p := ⟨gn, fn + i, none⟩) (Nat.lt_of_lt_of_le hgn HB.out.size)).trans ((HB.out.cell (p := ⟨gn, fn + i, none⟩) hgn).trans (hns i s hs))
     have v7 : _ = some (Value.slice (some ⟨gn, fn, none⟩) ns.length e1) := HV3.out.cell 7 _ rfl
     have hsd : ns.getD i [] = s := by rw [List.getD_eq_getElem?_getD, hs]; rfl
     have HSL : Hid (s.length ≤ 20000000) := hid (by have := szN_in (List.mem_of_getElem? hs); have := HSZ.out; omega)
     rw [hsd] at HO2
     clear hs hns hgn hsd
     go_wp2_with fail
     refine (quoteR_calls wr s (by have := HSL.out; omega)).mono ?_
     rintro e w4 ⟨rfl, hb4⟩
     have HV4 := hid (HV3.out.below hb4)
     have HBE4 := hid (HBE3.out.trans (hb4.mono HBE3.out.size))
     clear hb4 n0 v0 v6 v7 HV3 HBE3
     have HQL := hid (quo_len7 s HSL.out)
     obtain ⟨qs, hqs⟩ : ∃ q, quoT s = q := ⟨_, rfl⟩
     rw [hqs] at HQL HO2 ⊢
     clear hqs
     have hcat2 := bytes_app o2 qs
     have hcat3 := bytes_app (o2 ++ qs) [58]
     have hsum2 : ¬ (9223372036854775807 < o2.length + qs.length) := by have := HOL2.out; have := HQL.out; omega
     have hsum3 : ¬ (9223372036854775807 < o2.length + qs.length + 1) := by have := HOL2.out; have := HQL.out; omega
     have v0 : _ = some (Value.int .i64 (kindI true)) := HV4.out.cell 0 _ rfl
     have v6 : _ = some (Value.slice (some ⟨gl, fl, none⟩) l.length c1) := HV4.out.cell 6 _ rfl
     have hra := HRA.out w4 HBE4.out
     go_wp2_with (refine wpList_loadMd rfl _ rfl (x, xs i) hra rfl ?_)
     have HO3 : Hid (toldL true true (l.take (i + 1)) ns = (o2 ++ (qs ++ [58])) ++ toldJ x) := hid (by rw [HO2.out, if_pos (by trivial)]; simp only [List.append_assoc])
     have HOL3 : Hid ((o2 ++ (qs ++ [58])).length ≤ 6700000000) := hid (by have := HOL2.out; have := HQL.out; simp only [List.length_append, List.length_cons, List.length_nil]; omega)
     obtain ⟨o3, ho3⟩ : ∃ o9, o2 ++ (qs ++ [58]) = o9 := ⟨_, rfl⟩
     rw [ho3] at HO3 HOL3
     try simp only [hcat2, hcat3]
     try rw [ho3]
     have HCC := hid ho3
     clear ho3 hcat2 hcat3 hsum2 hsum3
     refine (HIH.out i x HX.out w4 (HB.out.trans (HBE4.out.mono HB.out.size)) HXG.out (by have := HXI.out; have := HSZ.out; show szJ x ≤ _; omega)).mono ?_
     rintro e w5 ⟨rfl, hb5⟩
     have HV5 := hid (HV4.out.below hb5)
     have HBE5 := hid (HBE4.out.trans (hb5.mono HBE4.out.size))
     clear hb5 hra
     have HXS : Hid ((toldJ x).length ≤ 6400000000) := hid (by have := told_sz x HXG.out; have := HXI.out; have := HSZ.out; omega)
     obtain ⟨tx, htx⟩ : ∃ q, toldJ x = q := ⟨_, rfl⟩
     rw [htx] at HXS HO3
     have HTX := hid htx
     clear htx
     have hcat4 := bytes_app o3 tx
     have hsum4 : ¬ (9223372036854775807 < o3.length + tx.length) := by have := HOL3.out; have := HXS.out; omega
     simp only [HTX.out]
     go_wp2_with fail
     go_roundg (l.length - (i + 1))
     case measure => have := Hki.out; omega
     exact ⟨i + 1, rfl, by omega, by go_num, by rw [HO3.out], HV5.out, HBE5.out⟩
    subst hi0
    have hi0i : ¬ (0 : Int) < ((0 : Nat) : Int) := by omega
    have HO2 : Hid (toldL true true (l.take (0 + 1)) ns = out ++ ((if true = true then quoT (ns.getD 0 []) ++ [58] else []) ++ toldJ x)) := hid (by rw [HTT.out, if_pos rfl, List.nil_append])
    have HOL2 : Hid (out.length ≤ 6400000001) := hid (by have := HOL.out; omega)
    go_upto_region 18 with fail
    obtain ⟨o2, ho2⟩ : ∃ o9, out = o9 := ⟨_, rfl⟩
    skip
    rw [ho2] at HO2 HOL2 ⊢
    clear ho2 hcat1 hsum1 hi0i HTT HOL
    have hili : ((0 : Nat) : Int) < (ns.length : Int) := by have := HNO.out (by trivial); omega
    obtain ⟨s, hs⟩ : ∃ s, ns[0]? = some s := ⟨_, List.getElem?_eq_getElem (by have := HNO.out (by trivial); omega)⟩
    obtain ⟨gn, fn, rfl, _, hgn, hns⟩ := HN.out (by have := HNO.out (by trivial); omega)
    have n0 : wr.cell? ⟨gn, fn + 0, none⟩ = some (.string ⟨s.toArray⟩) := (HBE3.out.cell (p := ⟨gn, fn + 0, none⟩) (Nat.lt_of_lt_of_le hgn HB.out.size)).trans ((HB.out.cell (p := ⟨gn, fn + 0, none⟩) hgn).trans (hns 0 s hs))
    have v7 : _ = some (Value.slice (some ⟨gn, fn, none⟩) ns.length e1) := HV3.out.cell 7 _ rfl
    have hsd : ns.getD 0 [] = s := by rw [List.getD_eq_getElem?_getD, hs]; rfl
    have HSL : Hid (s.length ≤ 20000000) := hid (by have := szN_in (List.mem_of_getElem? hs); have := HSZ.out; omega)
    rw [hsd] at HO2
    clear hs hns hgn hsd
    rw [Nat.add_zero] at n0
    go_wp2_with fail
    refine (quoteR_calls wr s (by have := HSL.out; omega)).mono ?_
    rintro e w4 ⟨rfl, hb4⟩
    have HV4 := hid (HV3.out.below hb4)
    have HBE4 := hid (HBE3.out.trans (hb4.mono HBE3.out.size))
    clear hb4 n0 v0 v6 v7 HV3 HBE3
    have HQL := hid (quo_len7 s HSL.out)
    obtain ⟨qs, hqs⟩ : ∃ q, quoT s = q := ⟨_, rfl⟩
    rw [hqs] at HQL HO2 ⊢
    clear hqs
    have hcat2 := bytes_app o2 qs
    have hcat3 := bytes_app (o2 ++ qs) [58]
    have hsum2 : ¬ (9223372036854775807 < o2.length + qs.length) := by have := HOL2.out; have := HQL.out; omega
    have hsum3 : ¬ (9223372036854775807 < o2.length + qs.length + 1) := by have := HOL2.out; have := HQL.out; omega
    have v0 : _ = some (Value.int .i64 (kindI true)) := HV4.out.cell 0 _ rfl
    have v6 : _ = some (Value.slice (some ⟨gl, fl, none⟩) l.length c1) := HV4.out.cell 6 _ rfl
    have hra := HRA.out w4 HBE4.out
    go_wp2_with (refine wpList_loadMd rfl _ rfl (x, xs 0) hra rfl ?_)
    have HO3 : Hid (toldL true true (l.take (0 + 1)) ns = (o2 ++ (qs ++ [58])) ++ toldJ x) := hid (by rw [HO2.out, if_pos (by trivial)]; simp only [List.append_assoc])
    have HOL3 : Hid ((o2 ++ (qs ++ [58])).length ≤ 6700000000) := hid (by have := HOL2.out; have := HQL.out; simp only [List.length_append, List.length_cons, List.length_nil]; omega)
    obtain ⟨o3, ho3⟩ : ∃ o9, o2 ++ (qs ++ [58]) = o9 := ⟨_, rfl⟩
    rw [ho3] at HO3 HOL3
    try simp only [hcat2, hcat3]
    try rw [ho3]
    have HCC := hid ho3
    clear ho3 hcat2 hcat3 hsum2 hsum3
    refine (HIH.out 0 x HX.out w4 (HB.out.trans (HBE4.out.mono HB.out.size)) HXG.out (by have := HXI.out; have := HSZ.out; show szJ x ≤ _; omega)).mono ?_
    rintro e w5 ⟨rfl, hb5⟩
    have HV5 := hid (HV4.out.below hb5)
    have HBE5 := hid (HBE4.out.trans (hb5.mono HBE4.out.size))
    clear hb5 hra
    have HXS : Hid ((toldJ x).length ≤ 6400000000) := hid (by have := told_sz x HXG.out; have := HXI.out; have := HSZ.out; omega)
    obtain ⟨tx, htx⟩ : ∃ q, toldJ x = q := ⟨_, rfl⟩
    rw [htx] at HXS HO3
    have HTX := hid htx
    clear htx
    have hcat4 := bytes_app o3 tx
    have hsum4 : ¬ (9223372036854775807 < o3.length + tx.length) := by have := HOL3.out; have := HXS.out; omega
    simp only [HTX.out]
    go_wp2_with fail
    go_roundg (l.length - (0 + 1))
    case measure => have := Hki.out; omega
    exact ⟨0 + 1, rfl, by omega, by go_num, by rw [HO3.out], HV5.out, HBE5.out⟩
   have hlti : ¬ (i : Int) < (l.length : Int) := by omega
   obtain rfl : i = l.length := by omega
   have hta : toldL true true (l.take l.length) ns = toldL true true l ns := by rw [List.take_of_length_le (Nat.le_refl _)]
   rw [hta] at HOL ⊢
   obtain ⟨out, hout⟩ : ∃ o9, toldL true true l ns = o9 := ⟨_, rfl⟩
   rw [hout] at HOL HTO ⊢
   clear hta hout
   have hcat1 := bytes_app [123] out
   have hcat2 := bytes_app ([123] ++ out) [125]
   have hsum1 : ¬ (9223372036854775807 < 1 + out.length) := by have := HOL.out; omega
   have hsum2 : ¬ (9223372036854775807 < 1 + out.length + 1) := by have := HOL.out; omega
   have hsum3 : ¬ (9223372036854775807 < out.length + 1) := by have := HOL.out; omega
   have hsum4 : ¬ (9223372036854775807 < out.length + 1 + 1) := by have := HOL.out; omega
   go_wp2_with fail
   go_ret
   exact ⟨by rw [HTO.out]; first | rfl | simp [bytes_eq, ByteArray.data_append] | (congr 2; exact bytes_eq (by simp [ByteArray.data_append])), HBE3.out⟩
theorem check_eq {v : J} : (if goodJ v = false then (2 : Int) else if 64 < depR v then 182 else if 1048576 < (toldJ v).length then 3 else 0) = checkJ v := by
 unfold checkJ
 by_cases h : goodJ v = true
 ·rw [depR_good v h]
 rw [if_pos (by simpa using h), if_pos (by simpa using h)]
theorem checkR_calls {w0 : World} {S1 : Nat → Prop} {r1 : JR} (h1 : JV w0 S1 r1) (hTab : Tab w0) (w : World) (hb : Below w0.heap.size w0 w) (hsz : szJ r1.1 ≤ 20000000) :
  Calls Tryz.prog 23 #[jval r1] w fun e w' => e = .returned (.int .i64 (checkJ r1.1)) ∧ Below w.heap.size w w' := by
 have HB := hid hb
 have HCK : Hid (checkJ r1.1 = if goodJ r1.1 = false then (2 : Int) else if 64 < depR r1.1 then 182 else if 1048576 < (toldJ r1.1).length then 3 else 0) := hid check_eq.symm
 clear hb
 go_enter Tryz.func23, Tryz.ntmps23
 go_upto_region 1 with (refine wpList_boxJ rfl _ rfl r1 rfl ?_; intro w1 hBx)
 have HV1 := hid hBx.row
 have HB1 := hid hBx.be
 have HW1 : Hid (Below w0.heap.size w0 w1) := hid (hBx.below HB.out HB.out.size)
 obtain ⟨g1, hg1⟩ : ∃ g, w.heap.size = g := ⟨_, rfl⟩
 rw [hg1] at HV1 ⊢
 clear hBx hg1
 go_wp2_with (refine wpList_loadJ rfl _ rfl r1 HV1.out rfl ?_)
 refine (goodR_calls h1 w1 HW1.out hsz).mono ?_
 rintro e w2 ⟨bb, rfl, hbb, hb2⟩
 have HBB := hid hbb
 have HV2 := hid (HV1.out.below hb2)
 have HB2 := hid (HB1.out.trans (hb2.mono HB1.out.size))
 have HW2 := hid (HW1.out.trans (hb2.mono HW1.out.size))
 clear hbb hb2 HV1 HB1 HW1
 cases bb with
 | false =>
  have HGF : Hid (goodJ r1.1 = false) := hid (by
   cases hg : goodJ r1.1 with
   | false => rfl
   | true => have := HBB.out.2 hg; cases this)
  go_wp2_with fail
  go_ret
  exact ⟨by rw [HCK.out, if_pos HGF.out]; rfl, HB2.out⟩
 | true =>
  have HGT : Hid (goodJ r1.1 = true) := hid (HBB.out.1 (by trivial))
  go_wp2_with (refine wpList_loadJ rfl _ rfl r1 HV2.out rfl ?_)
  refine (depthR_calls h1 w2 HW2.out hsz).mono ?_
  rintro e w3 ⟨rfl, hb3⟩
  have HV3 := hid (HV2.out.below hb3)
  have HB3 := hid (HB2.out.trans (hb3.mono HB2.out.size))
  have HW3 := hid (HW2.out.trans (hb3.mono HW2.out.size))
  clear hb3 HV2 HB2 HW2
  obtain ⟨d, hd⟩ : ∃ d, depR r1.1 = d := ⟨_, rfl⟩
  rw [hd] at HCK ⊢
  clear hd
  by_cases h64 : 64 < d
  ·have h64i : (64 : Int) < (d : Int) := by omega
   go_wp2_with fail
   go_ret
   exact ⟨by rw [HCK.out, if_neg (by rw [HGT.out]; decide), if_pos h64]; rfl, HB3.out⟩
  have h64i : ¬ (64 : Int) < (d : Int) := by omega
  go_wp2_with (refine wpList_loadJ rfl _ rfl r1 HV3.out rfl ?_)
  refine (textJ_calls h1 hTab w3 HW3.out HGT.out hsz).mono ?_
  rintro e w4 ⟨rfl, hb4⟩
  have HB4 := hid (HB3.out.trans (hb4.mono HB3.out.size))
  have HTL : Hid ((toldJ r1.1).length ≤ 6400000000) := hid (by have := told_sz _ HGT.out; omega)
  clear hb4 HV3
  obtain ⟨tx, htx⟩ : ∃ q, toldJ r1.1 = q := ⟨_, rfl⟩
  rw [htx] at HTL HCK ⊢
  clear htx
  by_cases hlt : 1048576 < tx.length
  ·have hlti : (1048576 : Int) < (tx.length : Int) := by omega
   go_wp2_with fail
   go_ret
   exact ⟨by rw [HCK.out, if_neg (by rw [HGT.out]; decide), if_neg h64, if_pos hlt]; rfl, HB4.out⟩
  have hlti : ¬ (1048576 : Int) < (tx.length : Int) := by omega
  go_wp2_with fail
  go_ret
  exact ⟨by rw [HCK.out, if_neg (by rw [HGT.out]; decide), if_neg h64, if_neg hlt]; rfl, HB4.out⟩
end Go.Proofs.YtfclfaidmipjpaaGreatDoor
