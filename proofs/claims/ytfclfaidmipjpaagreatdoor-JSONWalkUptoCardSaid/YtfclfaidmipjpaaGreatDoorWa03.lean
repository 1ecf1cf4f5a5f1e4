/- Texts of this claim, joined: Sam. -/
import Derived.Test.YtfclfaidmipjpaaGreatDoorWa00
namespace Go.Proofs.YtfclfaidmipjpaaGreatDoor
set_option maxRecDepth 100000
set_option maxHeartbeats 20000000
open Go.Lib (hid)
open Go.RowKit
theorem sameL_calls {w0 : World} {S1 : Nat → Prop} {r1 : JR} (h1 : JV w0 S1 r1) : ∀ (S2 : Nat → Prop) (r2 : JR) (w : World), Below w0.heap.size w0 w → JV w S2 r2 → Calls Tryz.prog 29 #[jval r1, jval r2] w (SameTo w r1.1 r2.1) := by
 induction h1 with
 | mk r1 xs hn1 hl1 hs1 ih =>
  intro S2 r2 w hb h2
  cases h2 with
  | mk _ ys hn2 hl2 hs2 =>
   obtain ⟨⟨k1, b1, ⟨ng1, dg1, ex1⟩, t1, l1, ns1⟩, lv1, nv1⟩ := r1
   obtain ⟨⟨k2, b2, ⟨ng2, dg2, ex2⟩, t2, l2, ns2⟩, lv2, nv2⟩ := r2
   have hn1w := hn1.below hb
   have hl1w : ∃ p cap, lv1 = .slice p l1.length cap ∧ l1.length ≤ cap ∧ l1.length ≤ maxLen ∧ (0 < l1.length → ∃ g off, p = some ⟨g, off, none⟩ ∧ g < w.heap.size ∧ ∀ i j, l1[i]? = some j → w.rangeAt g (off + i * 8) (jcells (j, xs i))) := by
    obtain ⟨p, cap, e1, e2, e3, e4⟩ := hl1
    refine ⟨p, cap, e1, e2, e3, fun h0 => ?_⟩
    obtain ⟨g, off, e5, _, e6, e7⟩ := e4 h0
    refine ⟨g, off, e5, Nat.lt_of_lt_of_le e6 hb.size, fun i j hi c v hc => ?_⟩
    have hc8 : c < 8 := (List.getElem?_eq_some_iff.1 hc).1
    rw [hb.cell (p := ⟨g, off + i * 8 + c, none⟩) e6, e7 i j hi c hc8]
    exact hc
   have hl2w : ∃ p cap, lv2 = .slice p l2.length cap ∧ l2.length ≤ cap ∧ l2.length ≤ maxLen ∧ (0 < l2.length → ∃ g off, p = some ⟨g, off, none⟩ ∧ g < w.heap.size ∧ ∀ i j, l2[i]? = some j → w.rangeAt g (off + i * 8) (jcells (j, ys i))) := by
    obtain ⟨p, cap, e1, e2, e3, e4⟩ := hl2
    refine ⟨p, cap, e1, e2, e3, fun h0 => ?_⟩
    obtain ⟨g, off, e5, _, e6, e7⟩ := e4 h0
    refine ⟨g, off, e5, e6, fun i j hi c v hc => ?_⟩
    have hc8 : c < 8 := (List.getElem?_eq_some_iff.1 hc).1
    rw [e7 i j hi c hc8]
    exact hc
   obtain ⟨p1, c1, e, _, hm1, hL1⟩ := hl1w
   subst e
   obtain ⟨q1, e1, e, _, hk1, hN1⟩ := hn1w
   simp only [J.ns] at e
   subst e
   obtain ⟨p2, c2, e, _, hm2, hL2⟩ := hl2w
   subst e
   obtain ⟨q2, e2, e, _, hk2, hN2⟩ := hn2
   simp only [J.ns] at e
   subst e
   have ML1 : l1.length ≤ 9223372036854775807 := Nat.le_trans hm1 (by decide)
   have ML2 : l2.length ≤ 9223372036854775807 := Nat.le_trans hm2 (by decide)
   have MN1 : ns1.length ≤ 9223372036854775807 := Nat.le_trans hk1 (by decide)
   have MN2 : ns2.length ≤ 9223372036854775807 := Nat.le_trans hk2 (by decide)
   have HL1 := hid hL1
   have HL2 := hid hL2
   have HN1 := hid hN1
   have HN2 := hid hN2
   have HIH := hid ih
   have HS2 := hid hs2
   have HB := hid hb
   clear hL1 hL2 hN1 hN2 ih hs2 hs1 hn1 hl1 hl2 hb hm1 hm2 hk1 hk2
   simp only [jval, J.kind, J.b, J.n, J.t]
   go_enter Tryz.func29, Tryz.ntmps29
   go_upto_region 1 with fail
   have hA := (RowAt.new w #[Value.int IntKind.i64 k1, Value.bool b1, Value.bool ng1, Value.string { data := dg1.toArray }, Value.int IntKind.i64 ex1, Value.string { data := t1.toArray }, Value.slice p1 l1.length c1, Value.slice q1 ns1.length e1] 30).alloc (Obj.cells #[Value.int IntKind.i64 k2, Value.bool b2, Value.bool ng2, Value.string { data := dg2.toArray }, Value.int IntKind.i64 ex2, Value.string { data := t2.toArray }, Value.slice p2 l2.length c2, Value.slice q2 ns2.length e2] 30)
   have hB := RowAt.new (w.alloc (Obj.cells #[Value.int IntKind.i64 k1, Value.bool b1, Value.bool ng1, Value.string { data := dg1.toArray }, Value.int IntKind.i64 ex1, Value.string { data := t1.toArray }, Value.slice p1 l1.length c1, Value.slice q1 ns1.length e1] 30)) #[Value.int IntKind.i64 k2, Value.bool b2, Value.bool ng2, Value.string { data := dg2.toArray }, Value.int IntKind.i64 ex2, Value.string { data := t2.toArray }, Value.slice p2 l2.length c2, Value.slice q2 ns2.length e2] 30
   rw [World.size_alloc] at hB
   have hBe : Below w.heap.size w ((w.alloc (Obj.cells #[Value.int IntKind.i64 k1, Value.bool b1, Value.bool ng1, Value.string { data := dg1.toArray }, Value.int IntKind.i64 ex1, Value.string { data := t1.toArray }, Value.slice p1 l1.length c1, Value.slice q1 ns1.length e1] 30)).alloc (Obj.cells #[Value.int IntKind.i64 k2, Value.bool b2, Value.bool ng2, Value.string { data := dg2.toArray }, Value.int IntKind.i64 ex2, Value.string { data := t2.toArray }, Value.slice p2 l2.length c2, Value.slice q2 ns2.length e2] 30)) := ((Below.refl _ _).alloc (Nat.le_refl _) _).alloc (by simp) _
   have HE : Hid (∃ gA gB, w.heap.size = gA ∧ w.heap.size + 1 = gB) := hid ⟨_, _, rfl, rfl⟩
   obtain ⟨gA, gB, hgA, hgB⟩ := HE.out
   have HA := hid hA
   have HBB := hid hB
   have HBE := hid hBe
   clear HE hA hB hBe
   rw [hgB] at HBB ⊢
   rw [hgA] at HA ⊢
   generalize ((w.alloc (Obj.cells #[Value.int IntKind.i64 k1, Value.bool b1, Value.bool ng1, Value.string { data := dg1.toArray }, Value.int IntKind.i64 ex1, Value.string { data := t1.toArray }, Value.slice p1 l1.length c1, Value.slice q1 ns1.length e1] 30)).alloc (Obj.cells #[Value.int IntKind.i64 k2, Value.bool b2, Value.bool ng2, Value.string { data := dg2.toArray }, Value.int IntKind.i64 ex2, Value.string { data := t2.toArray }, Value.slice p2 l2.length c2, Value.slice q2 ns2.length e2] 30)) = w1 at *
   clear hgA hgB
   have ac0 := HA.out.cell 0 _ rfl
   have ac1 := HA.out.cell 1 _ rfl
   have ac2 := HA.out.cell 2 _ rfl
   have ac3 := HA.out.cell 3 _ rfl
   have ac4 := HA.out.cell 4 _ rfl
   have ac5 := HA.out.cell 5 _ rfl
   have ac6 := HA.out.cell 6 _ rfl
   have ac7 := HA.out.cell 7 _ rfl
   have bc0 := HBB.out.cell 0 _ rfl
   have bc1 := HBB.out.cell 1 _ rfl
   have bc2 := HBB.out.cell 2 _ rfl
   have bc3 := HBB.out.cell 3 _ rfl
   have bc4 := HBB.out.cell 4 _ rfl
   have bc5 := HBB.out.cell 5 _ rfl
   have bc6 := HBB.out.cell 6 _ rfl
   have bc7 := HBB.out.cell 7 _ rfl
   by_cases h0 : k1 = k2
   rotate_left
   ·
    have h0a : (k1 == k2) = false := by rw [beq_eq_false_iff_ne]; exact h0
    have h0b : (k1 != k2) = true := by rw [bne_iff_ne]; exact h0
    go_wp2_with fail
    go_ret
    exact SameTo.no (fun e => h0 (J.mk.inj e).1) HBE.out
   subst h0
   by_cases h0 : b1 = b2
   rotate_left
   ·
    have h0b : (b1 != b2) = true := by rw [bne_iff_ne]; exact h0
    have h0a : (b1 == b2) = false := by rw [beq_eq_false_iff_ne]; exact h0
    go_wp2_with fail
    go_ret
    exact SameTo.no (fun e => h0 (J.mk.inj e).2.1) HBE.out
   subst h0
   have hnd := fun W => run_neq_dec ⟨ng1, dg1, ex1⟩ ⟨ng2, dg2, ex2⟩ W
   simp only at hnd
   cases h0 : sameB ⟨ng1, dg1, ex1⟩ ⟨ng2, dg2, ex2⟩ with
   | false =>
    rw [h0] at hnd
    simp only [Bool.not_false] at hnd
    go_wp2_with fail
    go_ret
    exact SameTo.no (fun e => by rw [(sameB_iff _ _).2 (J.mk.inj e).2.2.1] at h0; cases h0) HBE.out
   | true =>
    rw [h0] at hnd
    simp only [Bool.not_true] at hnd
    have hde := (sameB_iff _ _).1 h0
    clear h0
    by_cases h0 : t1 = t2
    rotate_left
    ·
     have hbb : ¬ (⟨t1.toArray⟩ : ByteArray) = ⟨t2.toArray⟩ := fun e => h0 (by simpa using e)
     go_wp2_with fail
     go_ret
     exact SameTo.no (fun e => h0 (J.mk.inj e).2.2.2.1) HBE.out
    subst h0
    by_cases h0 : l1.length = l2.length
    rotate_left
    ·
     have h0i : ¬ (l1.length : Int) = l2.length := by omega
     have h0a : ((l1.length : Int) == l2.length) = false := by rw [beq_eq_false_iff_ne]; exact h0i
     have h0b : ((l1.length : Int) != l2.length) = true := by rw [bne_iff_ne]; exact h0i
     go_wp2_with fail
     go_ret
     exact SameTo.no (fun e => h0 (by rw [(J.mk.inj e).2.2.2.2.1])) HBE.out
    have h0i : (l1.length : Int) = l2.length := by omega
    have h0a : ((l1.length : Int) == l2.length) = true := by rw [beq_iff_eq]; exact h0i
    have h0b : ((l1.length : Int) != l2.length) = false := by rw [bne_eq_false_iff_eq]; exact h0i
    have HLL := hid h0
    clear h0 h0i
    by_cases h0 : ns1.length = ns2.length
    rotate_left
    ·
     have h1i : ¬ (ns1.length : Int) = ns2.length := by omega
     have h1a : ((ns1.length : Int) == ns2.length) = false := by rw [beq_eq_false_iff_ne]; exact h1i
     have h1b : ((ns1.length : Int) != ns2.length) = true := by rw [bne_iff_ne]; exact h1i
     go_wp2_with fail
     go_ret
     exact SameTo.no (fun e => h0 (by rw [(J.mk.inj e).2.2.2.2.2])) HBE.out
    have h1i : (ns1.length : Int) = ns2.length := by omega
    have h1a : ((ns1.length : Int) == ns2.length) = true := by rw [beq_iff_eq]; exact h1i
    have h1b : ((ns1.length : Int) != ns2.length) = false := by rw [bne_eq_false_iff_eq]; exact h1i
    have HNL := hid h0
    clear h0 h1i
    go_upto_region 3 with fail
    have HDE := hid hde
    clear hde hnd h0a h0b h1a h1b
    clear ac0 bc0 ac1 bc1 ac2 bc2 ac3 bc3 ac4 bc4 ac5 bc5 ac6 bc6 ac7 bc7
    go_wp2_with fail
    go_loopg [5] l1.length (fun k s5 wr => ∃ i : Nat, k = l1.length - i ∧ i ≤ l1.length ∧ s5 = .int .i64 (i : Int) ∧ (∀ j, j < i → l1[j]? = l2[j]?) ∧ RowAt wr gA [Value.int IntKind.i64 k1, Value.bool b1, Value.bool ng1, Value.string { data := dg1.toArray }, Value.int IntKind.i64 ex1, Value.string { data := t1.toArray }, Value.slice p1 l1.length c1, Value.slice q1 ns1.length e1] ∧ RowAt wr gB [Value.int IntKind.i64 k1, Value.bool b1, Value.bool ng2, Value.string { data := dg2.toArray }, Value.int IntKind.i64 ex2, Value.string { data := t1.toArray }, Value.slice p2 l2.length c2, Value.slice q2 ns2.length e2] ∧ Below w.heap.size w wr)
    case atStart => exact ⟨0, rfl, Nat.zero_le _, rfl, fun j h => by omega, HA.out, HBB.out, HBE.out⟩
    obtain ⟨i, hki, hi, rfl, heq, hA, hB, hBe⟩ := hrel
    have Hki := hid hki
    have HEQ := hid heq
    have HA2 := hid hA
    have HB2 := hid hB
    have HBE2 := hid hBe
    clear hki heq hA hB hBe HA HBB HBE
    have ac6 := HA2.out.cell 6 _ rfl
    have bc6 := HB2.out.cell 6 _ rfl
    by_cases hlt : i < l1.length
    ·
     have hlt2 : (i : Int) < (l1.length : Int) := by omega
     have hlt3 : (i : Int) < (l2.length : Int) := by have := HLL.out; omega
     obtain ⟨g1, f1, rfl, hg1, hr1⟩ := HL1.out (by omega)
     obtain ⟨g2, f2, rfl, hg2, hr2⟩ := HL2.out (by have := HLL.out; omega)
     obtain ⟨x, hx⟩ : ∃ x, l1[i]? = some x := ⟨_, List.getElem?_eq_getElem hlt⟩
     obtain ⟨y, hy⟩ : ∃ y, l2[i]? = some y := ⟨_, List.getElem?_eq_getElem (by have := HLL.out; omega)⟩
     have HX := hid hx
     have HY := hid hy
     have HR1 : Hid (w.rangeAt g1 (f1 + i * 8) (jcells (x, xs i))) := hid (hr1 i x hx)
     have HR2 : Hid (w.rangeAt g2 (f2 + i * 8) (jcells (y, ys i))) := hid (hr2 i y hy)
     have HG12 := hid (And.intro hg1 hg2)
     clear hx hy hr1 hr2 hg1 hg2
     go_upto_region 6 with fail
     refine wp_region_held_drew (S := (fun w' => w'.cell? ⟨gA, 6, none⟩ = some (.slice (some ⟨g1, f1, none⟩) l1.length c1) ∧ w'.cell? ⟨gB, 6, none⟩ = some (.slice (some ⟨g2, f2, none⟩) l2.length c2) ∧ Below wr.heap.size wr w')) (by kernel_rfl) ⟨ac6, bc6, (Below.refl _ _).drew⟩ (fun hHeld0 => ?_)
     have HDR : Hid (Below wr.heap.size wr wr.drew) := hid ((Below.refl _ _).drew)
     generalize wr.drew = wd at *
     refine held_ta 0 hHeld0 ?_
     refine held_ta 1 hHeld0 ?_
     refine held_ta 2 hHeld0 ?_
     refine held_ta 3 hHeld0 ?_
     refine held_tv 4 (jval (x, xs i)) rfl (fun wq hSq => exec_load8 _ rfl rfl (x, xs i) (rangeAt_bel HR1.out HBE2.out hSq.2.2 HG12.out.1)) hHeld0 ?_
     refine held_ta 5 hHeld0 ?_
     refine held_ta 6 hHeld0 ?_
     refine held_ta 7 hHeld0 ?_
     refine held_ta 8 hHeld0 ?_
     refine held_tv 9 (jval (y, ys i)) rfl (fun wq hSq => exec_load8 _ rfl rfl (y, ys i) (rangeAt_bel HR2.out HBE2.out hSq.2.2 HG12.out.2)) hHeld0 ?_
     refine held_st 10 rfl (fun K hK => ?_)
     go_simp
     have hB0 : Below w0.heap.size w0 wd := HB.out.trans ((HBE2.out.mono HB.out.size).trans (HDR.out.mono (Nat.le_trans HB.out.size HBE2.out.size)))
     have hJ : JV wd S2 (y, ys i) := ((HS2.out i y HY.out).bel HBE2.out).bel HDR.out
     refine (HIH.out i x HX.out S2 (y, ys i) wd hB0 hJ).mono ?_
     rintro e w5 ⟨bb, rfl, hbb, hb5⟩
     have HBB5 : Hid (Below wr.heap.size wr w5) := hid (HDR.out.trans (hb5.mono HDR.out.size))
     have HXY := hid hbb
     have hS5 : w5.cell? ⟨gA, 6, none⟩ = some (.slice (some ⟨g1, f1, none⟩) l1.length c1) ∧ w5.cell? ⟨gB, 6, none⟩ = some (.slice (some ⟨g2, f2, none⟩) l2.length c2) ∧ Below wr.heap.size wr w5 := ⟨(HBB5.out.cell (p := ⟨gA, 6, none⟩) HA2.out.lt).trans ac6, (HBB5.out.cell (p := ⟨gB, 6, none⟩) HB2.out.lt).trans bc6, HBB5.out⟩
     clear hB0 hJ hbb hb5
     refine hK.out _ _ hS5 (fun hHeld1 => ?_)
     clear hK K hHeld0
     refine held_ta 11 hHeld1 ?_
     refine wpAnyH_done (by kernel_rfl) ?_ _
     clear hHeld1
     clear hS5 ac6 bc6
     have HBE5 : Hid (Below w.heap.size w w5) := hid (HBE2.out.trans (HBB5.out.mono HBE2.out.size))
     cases bb with
     | false =>
      go_wp2_with fail
      go_ret
      refine SameTo.no (fun e => ?_) HBE5.out
      have h9 : l1 = l2 := (J.mk.inj e).2.2.2.2.1
      have hx := HX.out
      rw [h9, HY.out] at hx
      have := HXY.out.2 (Option.some.inj hx).symm
      cases this
     | true =>
      go_wp2_with fail
      go_roundg (l1.length - (i + 1))
      case measure => have := Hki.out; omega
      refine ⟨i + 1, rfl, by omega, by go_num, fun j hj => ?_, HA2.out.below HBB5.out, HB2.out.below HBB5.out, HBE5.out⟩
      rcases Nat.lt_or_ge j i with h9 | h9
      ·exact HEQ.out j h9
      obtain rfl : j = i := by omega
      rw [HX.out, HY.out, HXY.out.1 (by trivial)]
    have hlt2 : ¬ (i : Int) < (l1.length : Int) := by omega
    have hlt3 : decide ((i : Int) < (l1.length : Int)) = false := by rw [decide_eq_false_iff_not]; exact hlt2
    have HLE : Hid (l1 = l2) := hid (List.ext_getElem? (fun j => by
     rcases Nat.lt_or_ge j i with h9 | h9
     ·exact HEQ.out j h9
     rw [List.getElem?_eq_none (show l1.length ≤ j by omega), List.getElem?_eq_none (show l2.length ≤ j by have := HLL.out; omega)]))
    go_wp2_with fail
    clear ac6 bc6 HEQ Hki hlt hlt2 hlt3
    go_loopg [6] ns1.length (fun k s6 wr => ∃ i : Nat, k = ns1.length - i ∧ i ≤ ns1.length ∧ s6 = .int .i64 (i : Int) ∧ (∀ j, j < i → ns1[j]? = ns2[j]?) ∧ RowAt wr gA [Value.int IntKind.i64 k1, Value.bool b1, Value.bool ng1, Value.string { data := dg1.toArray }, Value.int IntKind.i64 ex1, Value.string { data := t1.toArray }, Value.slice p1 l1.length c1, Value.slice q1 ns1.length e1] ∧ RowAt wr gB [Value.int IntKind.i64 k1, Value.bool b1, Value.bool ng2, Value.string { data := dg2.toArray }, Value.int IntKind.i64 ex2, Value.string { data := t1.toArray }, Value.slice p2 l2.length c2, Value.slice q2 ns2.length e2] ∧ Below w.heap.size w wr)
    case atStart => exact ⟨0, rfl, Nat.zero_le _, rfl, fun j h => by omega, HA2.out, HB2.out, HBE2.out⟩
    skip
    obtain ⟨i2, hki, hi2, rfl, heq, hA, hB, hBe⟩ := hrel
    have Hki := hid hki
    have HEQ := hid heq
    have HA3 := hid hA
    have HB3 := hid hB
    have HBE3 := hid hBe
    clear hki heq hA hB hBe HA2 HB2 HBE2
    have ac7 := HA3.out.cell 7 _ rfl
    have bc7 := HB3.out.cell 7 _ rfl
    by_cases hlt : i2 < ns1.length
    ·
     have hlt2 : (i2 : Int) < (ns1.length : Int) := by omega
     have hlt3 : (i2 : Int) < (ns2.length : Int) := by have := HNL.out; omega
     obtain ⟨g3, f3, rfl, _, hg1, hr1⟩ := HN1.out (show 0 < ns1.length by omega)
     obtain ⟨g4, f4, rfl, _, hg2, hr2⟩ := HN2.out (show 0 < ns2.length by have := HNL.out; omega)
     obtain ⟨u, hu⟩ : ∃ u, ns1[i2]? = some u := ⟨_, List.getElem?_eq_getElem hlt⟩
     obtain ⟨v, hv⟩ : ∃ v, ns2[i2]? = some v := ⟨_, List.getElem?_eq_getElem (by have := HNL.out; omega)⟩
     have nx := (HBE3.out.cell (p := ⟨g3, f3 + i2, none⟩) hg1).trans (hr1 i2 u hu)
     have ny := (HBE3.out.cell (p := ⟨g4, f4 + i2, none⟩) hg2).trans (hr2 i2 v hv)
     have HU := hid hu
     have HV := hid hv
     clear hu hv hr1 hr2 hg1 hg2
     by_cases hnn : u = v
     rotate_left
     ·
      have hbb : ¬ (⟨u.toArray⟩ : ByteArray) = ⟨v.toArray⟩ := fun e => hnn (by simpa using e)
      have hbl : (u == v) = false := by rw [beq_eq_false_iff_ne]; exact hnn
      go_wp2_with fail
      go_quiet (fail)
      go_wp2_with fail
      go_ret
      refine SameTo.no (fun e => hnn ?_) (HBE3.out.trans ((drewN_b _ _).mono HBE3.out.size))
      have h9 : ns1 = ns2 := (J.mk.inj e).2.2.2.2.2
      have hx := HU.out
      rw [h9, HV.out] at hx
      exact (Option.some.inj hx).symm
     subst hnn
     go_wp2_with fail
     go_quiet (fail)
     go_wp2_with fail
     go_roundg (ns1.length - (i2 + 1))
     case measure => have := Hki.out; omega
     refine ⟨i2 + 1, rfl, by omega, by go_num, fun j hj => ?_, HA3.out.below (drewN_b _ _), HB3.out.below (drewN_b _ _), HBE3.out.trans ((drewN_b _ _).mono HBE3.out.size)⟩
     rcases Nat.lt_or_ge j i2 with h9 | h9
     ·exact HEQ.out j h9
     obtain rfl : j = i2 := by omega
     rw [HU.out, HV.out]
    have hlt2 : ¬ (i2 : Int) < (ns1.length : Int) := by omega
    have hlt3 : decide ((i2 : Int) < (ns1.length : Int)) = false := by rw [decide_eq_false_iff_not]; exact hlt2
    have hne : ns1 = ns2 := List.ext_getElem? (fun j => by
     rcases Nat.lt_or_ge j i2 with h9 | h9
     ·exact HEQ.out j h9
     rw [List.getElem?_eq_none (show ns1.length ≤ j by omega), List.getElem?_eq_none (show ns2.length ≤ j by have := HNL.out; omega)])
    have HNE := hid hne
    clear hne
    go_wp2_with fail
    go_ret
    exact SameTo.yes (by rw [HLE.out, HNE.out, HDE.out]) HBE3.out
end Go.Proofs.YtfclfaidmipjpaaGreatDoor
