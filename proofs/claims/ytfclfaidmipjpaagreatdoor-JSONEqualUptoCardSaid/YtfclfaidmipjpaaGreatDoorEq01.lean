/- Texts of this claim, joined: Jr12, JD, Pso. -/
import Derived.Test.YtfclfaidmipjpaaGreatDoorCo11
import Derived.Test.YtfclfaidmipjpaaGreatDoorEq00
namespace Go.Proofs.YtfclfaidmipjpaaGreatDoor
set_option maxRecDepth 100000
set_option maxHeartbeats 20000000
open Go.RowKit
def SameTo (w : World) (a b : J) (e : Ending) (w' : World) : Prop := ∃ bb : Bool, e = .returned (.bool bb) ∧ (bb = true ↔ a = b) ∧ Below w.heap.size w w'
theorem SameTo.no {w W : World} {a b : J} (h : a ≠ b) (hb : Below w.heap.size w W) : SameTo w a b (.returned (.bool false)) W := ⟨false, rfl, ⟨(fun h => by cases h), (fun e => absurd e h)⟩, hb⟩
theorem SameTo.yes {w W : World} {a b : J} (h : a = b) (hb : Below w.heap.size w W) : SameTo w a b (.returned (.bool true)) W := ⟨true, rfl, ⟨(fun _ => h), (fun _ => rfl)⟩, hb⟩
theorem rangeAt_bel {w a b : World} {g o : Nat} {cs : List Value} (h : w.rangeAt g o cs) (h1 : Below w.heap.size w a) (h2 : Below a.heap.size a b) (hg : g < w.heap.size) : b.rangeAt g o cs := fun j v hj => by
 rw [h2.cell (p := ⟨g, o + j, none⟩) (Nat.lt_of_lt_of_le hg h1.size), h1.cell (p := ⟨g, o + j, none⟩) hg]; exact h j v hj
theorem sameR_calls {w0 : World} {S1 : Nat → Prop} {r1 : JR} (h1 : JV w0 S1 r1) : ∀ (S2 : Nat → Prop) (r2 : JR) (w : World), Below w0.heap.size w0 w → JV w S2 r2 → Calls Tryz.prog 15 #[jval r1, jval r2] w (SameTo w r1.1 r2.1) := by
 induction h1 with
 | mk r1 xs hn1 hl1 hs1 ih =>
  intro S2 r2 w hb h2
  cases h2 with
  | mk _ ys hn2 hl2 hs2 =>
   obtain ⟨⟨k1, b1, ⟨ng1, dg1, ex1⟩, t1, l1, ns1⟩, lv1, nv1⟩ := r1
   obtain ⟨⟨k2, b2, ⟨ng2, dg2, ex2⟩, t2, l2, ns2⟩, lv2, nv2⟩ := r2
   have hn1w := hn1.below hb
   have hl1w : ∃ p cap, lv1 = .slice p l1.length cap ∧ l1.length ≤ cap ∧ l1.length ≤ maxLen ∧ (0 < l1.length → ∃ g off, p = some ⟨g, off, none⟩ ∧ g < w.heap.size ∧ ∀ i j, l1[i]? = some j → w.rangeAt g (off + i * 8) (jcells (j, xs i))) := by
    obtain ⟨p, cap, e1, e2, e3, e4⟩ := hl1
    refine ⟨p, cap, e1, e2, e3, fun h0 => ?_⟩
    obtain ⟨g, off, e5, _, e6, e7⟩ := e4 h0
    refine ⟨g, off, e5, Nat.lt_of_lt_of_le e6 hb.size, fun i j hi c v hc => ?_⟩
    have hc8 : c < 8 := (List.getElem?_eq_some_iff.1 hc).1
    rw [hb.cell (p := ⟨g, off + i * 8 + c, none⟩) e6, e7 i j hi c hc8]
    exact hc
   have hl2w : ∃ p cap, lv2 = .slice p l2.length cap ∧ l2.length ≤ cap ∧ l2.length ≤ maxLen ∧ (0 < l2.length → ∃ g off, p = some ⟨g, off, none⟩ ∧ g < w.heap.size ∧ ∀ i j, l2[i]? = some j → w.rangeAt g (off + i * 8) (jcells (j, ys i))) := by
    obtain ⟨p, cap, e1, e2, e3, e4⟩ := hl2
    refine ⟨p, cap, e1, e2, e3, fun h0 => ?_⟩
    obtain ⟨g, off, e5, _, e6, e7⟩ := e4 h0
    refine ⟨g, off, e5, e6, fun i j hi c v hc => ?_⟩
    have hc8 : c < 8 := (List.getElem?_eq_some_iff.1 hc).1
    rw [e7 i j hi c hc8]
    exact hc
   obtain ⟨p1, c1, e, _, hm1, hL1⟩ := hl1w
   subst e
   obtain ⟨q1, e1, e, _, hk1, hN1⟩ := hn1w
   simp only [J.ns] at e
   subst e
   obtain ⟨p2, c2, e, _, hm2, hL2⟩ := hl2w
   subst e
   obtain ⟨q2, e2, e, _, hk2, hN2⟩ := hn2
   simp only [J.ns] at e
   subst e
   have ML1 : l1.length ≤ 9223372036854775807 := Nat.le_trans hm1 (by decide)
   have ML2 : l2.length ≤ 9223372036854775807 := Nat.le_trans hm2 (by decide)
   have MN1 : ns1.length ≤ 9223372036854775807 := Nat.le_trans hk1 (by decide)
   have MN2 : ns2.length ≤ 9223372036854775807 := Nat.le_trans hk2 (by decide)
   have HL1 := Lib.hid hL1
   have HL2 := Lib.hid hL2
   have HN1 := Lib.hid hN1
   have HN2 := Lib.hid hN2
   have HIH := Lib.hid ih
   have HS2 := Lib.hid hs2
   have HB := Lib.hid hb
   clear hL1 hL2 hN1 hN2 ih hs2 hs1 hn1 hl1 hl2 hb hm1 hm2 hk1 hk2
   simp only [jval, J.kind, J.b, J.n, J.t]
   go_enter Tryz.func15, Tryz.ntmps15
   go_upto_region 1 with fail
   have hA := (RowAt.new w #[Value.int IntKind.i64 k1, Value.bool b1, Value.bool ng1, Value.string { data := dg1.toArray }, Value.int IntKind.i64 ex1, Value.string { data := t1.toArray }, Value.slice p1 l1.length c1, Value.slice q1 ns1.length e1] 30).alloc (Obj.cells #[Value.int IntKind.i64 k2, Value.bool b2, Value.bool ng2, Value.string { data := dg2.toArray }, Value.int IntKind.i64 ex2, Value.string { data := t2.toArray }, Value.slice p2 l2.length c2, Value.slice q2 ns2.length e2] 30)
   have hB := RowAt.new (w.alloc (Obj.cells #[Value.int IntKind.i64 k1, Value.bool b1, Value.bool ng1, Value.string { data := dg1.toArray }, Value.int IntKind.i64 ex1, Value.string { data := t1.toArray }, Value.slice p1 l1.length c1, Value.slice q1 ns1.length e1] 30)) #[Value.int IntKind.i64 k2, Value.bool b2, Value.bool ng2, Value.string { data := dg2.toArray }, Value.int IntKind.i64 ex2, Value.string { data := t2.toArray }, Value.slice p2 l2.length c2, Value.slice q2 ns2.length e2] 30
   rw [World.size_alloc] at hB
   have hBe : Below w.heap.size w ((w.alloc (Obj.cells #[Value.int IntKind.i64 k1, Value.bool b1, Value.bool ng1, Value.string { data := dg1.toArray }, Value.int IntKind.i64 ex1, Value.string { data := t1.toArray }, Value.slice p1 l1.length c1, Value.slice q1 ns1.length e1] 30)).alloc (Obj.cells #[Value.int IntKind.i64 k2, Value.bool b2, Value.bool ng2, Value.string { data := dg2.toArray }, Value.int IntKind.i64 ex2, Value.string { data := t2.toArray }, Value.slice p2 l2.length c2, Value.slice q2 ns2.length e2] 30)) := ((Below.refl _ _).alloc (Nat.le_refl _) _).alloc (by simp) _
   have HE : Hid (∃ gA gB, w.heap.size = gA ∧ w.heap.size + 1 = gB) := Lib.hid ⟨_, _, rfl, rfl⟩
   obtain ⟨gA, gB, hgA, hgB⟩ := HE.out
   have HA := Lib.hid hA
   have HBB := Lib.hid hB
   have HBE := Lib.hid hBe
   clear HE hA hB hBe
   rw [hgB] at HBB ⊢
   rw [hgA] at HA ⊢
   generalize ((w.alloc (Obj.cells #[Value.int IntKind.i64 k1, Value.bool b1, Value.bool ng1, Value.string { data := dg1.toArray }, Value.int IntKind.i64 ex1, Value.string { data := t1.toArray }, Value.slice p1 l1.length c1, Value.slice q1 ns1.length e1] 30)).alloc (Obj.cells #[Value.int IntKind.i64 k2, Value.bool b2, Value.bool ng2, Value.string { data := dg2.toArray }, Value.int IntKind.i64 ex2, Value.string { data := t2.toArray }, Value.slice p2 l2.length c2, Value.slice q2 ns2.length e2] 30)) = w1 at *
   clear hgA hgB
   have ac0 := HA.out.cell 0 _ rfl
   have ac1 := HA.out.cell 1 _ rfl
   have ac2 := HA.out.cell 2 _ rfl
   have ac3 := HA.out.cell 3 _ rfl
   have ac4 := HA.out.cell 4 _ rfl
   have ac5 := HA.out.cell 5 _ rfl
   have ac6 := HA.out.cell 6 _ rfl
   have ac7 := HA.out.cell 7 _ rfl
   have bc0 := HBB.out.cell 0 _ rfl
   have bc1 := HBB.out.cell 1 _ rfl
   have bc2 := HBB.out.cell 2 _ rfl
   have bc3 := HBB.out.cell 3 _ rfl
   have bc4 := HBB.out.cell 4 _ rfl
   have bc5 := HBB.out.cell 5 _ rfl
   have bc6 := HBB.out.cell 6 _ rfl
   have bc7 := HBB.out.cell 7 _ rfl
   by_cases h0 : k1 = k2
   rotate_left
   ·
    have h0a : (k1 == k2) = false := by rw [beq_eq_false_iff_ne]; exact h0
    have h0b : (k1 != k2) = true := by rw [bne_iff_ne]; exact h0
    go_wp2_with fail
    go_ret
    exact SameTo.no (fun e => h0 (J.mk.inj e).1) HBE.out
   subst h0
   by_cases h0 : b1 = b2
   rotate_left
   ·
    have h0b : (b1 != b2) = true := by rw [bne_iff_ne]; exact h0
    have h0a : (b1 == b2) = false := by rw [beq_eq_false_iff_ne]; exact h0
    go_wp2_with fail
    go_ret
    exact SameTo.no (fun e => h0 (J.mk.inj e).2.1) HBE.out
   subst h0
   have hnd := fun W => run_neq_dec ⟨ng1, dg1, ex1⟩ ⟨ng2, dg2, ex2⟩ W
   simp only at hnd
   cases h0 : sameB ⟨ng1, dg1, ex1⟩ ⟨ng2, dg2, ex2⟩ with
   | false =>
    rw [h0] at hnd
    simp only [Bool.not_false] at hnd
    go_wp2_with fail
    go_ret
    exact SameTo.no (fun e => by rw [(sameB_iff _ _).2 (J.mk.inj e).2.2.1] at h0; cases h0) HBE.out
   | true =>
    rw [h0] at hnd
    simp only [Bool.not_true] at hnd
    have hde := (sameB_iff _ _).1 h0
    clear h0
    by_cases h0 : t1 = t2
    rotate_left
    ·
     have hbb : ¬ (⟨t1.toArray⟩ : ByteArray) = ⟨t2.toArray⟩ := fun e => h0 (by simpa using e)
     go_wp2_with fail
     go_ret
     exact SameTo.no (fun e => h0 (J.mk.inj e).2.2.2.1) HBE.out
    subst h0
    by_cases h0 : l1.length = l2.length
    rotate_left
    ·
     have h0i : ¬ (l1.length : Int) = l2.length := by omega
     have h0a : ((l1.length : Int) == l2.length) = false := by rw [beq_eq_false_iff_ne]; exact h0i
     have h0b : ((l1.length : Int) != l2.length) = true := by rw [bne_iff_ne]; exact h0i
     go_wp2_with fail
     go_ret
     exact SameTo.no (fun e => h0 (by rw [(J.mk.inj e).2.2.2.2.1])) HBE.out
    have h0i : (l1.length : Int) = l2.length := by omega
    have h0a : ((l1.length : Int) == l2.length) = true := by rw [beq_iff_eq]; exact h0i
    have h0b : ((l1.length : Int) != l2.length) = false := by rw [bne_eq_false_iff_eq]; exact h0i
    have HLL := Lib.hid h0
    clear h0 h0i
    by_cases h0 : ns1.length = ns2.length
    rotate_left
    ·
     have h1i : ¬ (ns1.length : Int) = ns2.length := by omega
     have h1a : ((ns1.length : Int) == ns2.length) = false := by rw [beq_eq_false_iff_ne]; exact h1i
     have h1b : ((ns1.length : Int) != ns2.length) = true := by rw [bne_iff_ne]; exact h1i
     go_wp2_with fail
     go_ret
     exact SameTo.no (fun e => h0 (by rw [(J.mk.inj e).2.2.2.2.2])) HBE.out
    have h1i : (ns1.length : Int) = ns2.length := by omega
    have h1a : ((ns1.length : Int) == ns2.length) = true := by rw [beq_iff_eq]; exact h1i
    have h1b : ((ns1.length : Int) != ns2.length) = false := by rw [bne_eq_false_iff_eq]; exact h1i
    have HNL := Lib.hid h0
    clear h0 h1i
    go_upto_region 3 with fail
    have HDE := Lib.hid hde
    clear hde hnd h0a h0b h1a h1b
    clear ac0 bc0 ac1 bc1 ac2 bc2 ac3 bc3 ac4 bc4 ac5 bc5 ac6 bc6 ac7 bc7
    go_wp2_with fail
    go_loopg [5] l1.length (fun k s5 wr => ∃ i : Nat, k = l1.length - i ∧ i ≤ l1.length ∧ s5 = .int .i64 (i : Int) ∧ (∀ j, j < i → l1[j]? = l2[j]?) ∧ RowAt wr gA [Value.int IntKind.i64 k1, Value.bool b1, Value.bool ng1, Value.string { data := dg1.toArray }, Value.int IntKind.i64 ex1, Value.string { data := t1.toArray }, Value.slice p1 l1.length c1, Value.slice q1 ns1.length e1] ∧ RowAt wr gB [Value.int IntKind.i64 k1, Value.bool b1, Value.bool ng2, Value.string { data := dg2.toArray }, Value.int IntKind.i64 ex2, Value.string { data := t1.toArray }, Value.slice p2 l2.length c2, Value.slice q2 ns2.length e2] ∧ Below w.heap.size w wr)
    case atStart => exact ⟨0, rfl, Nat.zero_le _, rfl, fun j h => by omega, HA.out, HBB.out, HBE.out⟩
    obtain ⟨i, hki, hi, rfl, heq, hA, hB, hBe⟩ := hrel
    have Hki := Lib.hid hki
    have HEQ := Lib.hid heq
    have HA2 := Lib.hid hA
    have HB2 := Lib.hid hB
    have HBE2 := Lib.hid hBe
    clear hki heq hA hB hBe HA HBB HBE
    have ac6 := HA2.out.cell 6 _ rfl
    have bc6 := HB2.out.cell 6 _ rfl
    by_cases hlt : i < l1.length
    ·
     have hlt2 : (i : Int) < (l1.length : Int) := by omega
     have hlt3 : (i : Int) < (l2.length : Int) := by have := HLL.out; omega
     obtain ⟨g1, f1, rfl, hg1, hr1⟩ := HL1.out (by omega)
     obtain ⟨g2, f2, rfl, hg2, hr2⟩ := HL2.out (by have := HLL.out; omega)
     obtain ⟨x, hx⟩ : ∃ x, l1[i]? = some x := ⟨_, List.getElem?_eq_getElem hlt⟩
     obtain ⟨y, hy⟩ : ∃ y, l2[i]? = some y := ⟨_, List.getElem?_eq_getElem (by have := HLL.out; omega)⟩
     have HX := Lib.hid hx
     have HY := Lib.hid hy
     have HR1 : Hid (w.rangeAt g1 (f1 + i * 8) (jcells (x, xs i))) := Lib.hid (hr1 i x hx)
     have HR2 : Hid (w.rangeAt g2 (f2 + i * 8) (jcells (y, ys i))) := Lib.hid (hr2 i y hy)
     have HG12 := Lib.hid (And.intro hg1 hg2)
     clear hx hy hr1 hr2 hg1 hg2
     go_upto_region 6 with fail
     refine wp_region_held_drew (S := (fun w' => w'.cell? ⟨gA, 6, none⟩ = some (.slice (some ⟨g1, f1, none⟩) l1.length c1) ∧ w'.cell? ⟨gB, 6, none⟩ = some (.slice (some ⟨g2, f2, none⟩) l2.length c2) ∧ Below wr.heap.size wr w')) (by kernel_rfl) ⟨ac6, bc6, (Below.refl _ _).drew⟩ (fun hHeld0 => ?_)
     have HDR : Hid (Below wr.heap.size wr wr.drew) := Lib.hid ((Below.refl _ _).drew)
     generalize wr.drew = wd at *
     refine held_tk 0 ?_ (fun wq hSq => ?_) hHeld0 ?_
     rotate_left
     ·(try dsimp only at hSq); go_simp; try with_reducible rfl
     simp only [Act.put, sbA, sbB, sbC]
     refine held_tk 1 ?_ (fun wq hSq => ?_) hHeld0 ?_
     rotate_left
     ·(try dsimp only at hSq); go_simp; try with_reducible rfl
     simp only [Act.put, sbA, sbB, sbC]
     refine held_tk 2 ?_ (fun wq hSq => ?_) hHeld0 ?_
     rotate_left
     ·(try dsimp only at hSq); go_simp; try with_reducible rfl
     simp only [Act.put, sbA, sbB, sbC]
     refine held_tk 3 ?_ (fun wq hSq => ?_) hHeld0 ?_
     rotate_left
     ·(try dsimp only at hSq); go_simp; try with_reducible rfl
     simp only [Act.put, sbA, sbB, sbC]
     refine held_take (i := 4) (v := jval (x, xs i)) rfl (by kernel_rfl) (by kernel_rfl) (by kernel_rfl) (fun _ _ _ h => h) (by rfl) (fun wq hSq => exec_load8 _ rfl rfl (x, xs i) (rangeAt_bel HR1.out HBE2.out hSq.2.2 HG12.out.1)) hHeld0 ?_
     simp only [Act.put, sbA, sbB, sbC]
     refine held_tk 5 ?_ (fun wq hSq => ?_) hHeld0 ?_
     rotate_left
     ·(try dsimp only at hSq); go_simp; try with_reducible rfl
     simp only [Act.put, sbA, sbB, sbC]
     refine held_tk 6 ?_ (fun wq hSq => ?_) hHeld0 ?_
     rotate_left
     ·(try dsimp only at hSq); go_simp; try with_reducible rfl
     simp only [Act.put, sbA, sbB, sbC]
     refine held_tk 7 ?_ (fun wq hSq => ?_) hHeld0 ?_
     rotate_left
     ·(try dsimp only at hSq); go_simp; try with_reducible rfl
     simp only [Act.put, sbA, sbB, sbC]
     refine held_tk 8 ?_ (fun wq hSq => ?_) hHeld0 ?_
     rotate_left
     ·(try dsimp only at hSq); go_simp; try with_reducible rfl
     simp only [Act.put, sbA, sbB, sbC]
     refine held_take (i := 9) (v := jval (y, ys i)) rfl (by kernel_rfl) (by kernel_rfl) (by kernel_rfl) (fun _ _ _ h => h) (by rfl) (fun wq hSq => exec_load8 _ rfl rfl (y, ys i) (rangeAt_bel HR2.out HBE2.out hSq.2.2 HG12.out.2)) hHeld0 ?_
     simp only [Act.put, sbA, sbB, sbC]
     refine held_step (i := 10) (by kernel_rfl) rfl (by rfl) (fun K hK => ?_)
     go_simp
     have hB0 : Below w0.heap.size w0 wd := HB.out.trans ((HBE2.out.mono HB.out.size).trans (HDR.out.mono (Nat.le_trans HB.out.size HBE2.out.size)))
     have hJ : JV wd S2 (y, ys i) := ((HS2.out i y HY.out).bel HBE2.out).bel HDR.out
     refine (HIH.out i x HX.out S2 (y, ys i) wd hB0 hJ).mono ?_
     rintro e w5 ⟨bb, rfl, hbb, hb5⟩
     have HBB5 : Hid (Below wr.heap.size wr w5) := Lib.hid (HDR.out.trans (hb5.mono HDR.out.size))
     have HXY := Lib.hid hbb
     have hS5 : w5.cell? ⟨gA, 6, none⟩ = some (.slice (some ⟨g1, f1, none⟩) l1.length c1) ∧ w5.cell? ⟨gB, 6, none⟩ = some (.slice (some ⟨g2, f2, none⟩) l2.length c2) ∧ Below wr.heap.size wr w5 := ⟨(HBB5.out.cell (p := ⟨gA, 6, none⟩) HA2.out.lt).trans ac6, (HBB5.out.cell (p := ⟨gB, 6, none⟩) HB2.out.lt).trans bc6, HBB5.out⟩
     clear hB0 hJ hbb hb5
     refine hK.out _ _ hS5 (fun hHeld1 => ?_)
     clear hK K hHeld0
     refine held_tk 11 ?_ (fun wq hSq => ?_) hHeld1 ?_
     rotate_left
     ·(try dsimp only at hSq); go_simp; try with_reducible rfl
     simp only [Act.put, sbA, sbB, sbC]
     refine wpAnyH_done (by kernel_rfl) ?_ _
     clear hHeld1
     clear hS5 ac6 bc6
     have HBE5 : Hid (Below w.heap.size w w5) := Lib.hid (HBE2.out.trans (HBB5.out.mono HBE2.out.size))
     cases bb with
     | false =>
      go_wp2_with fail
      go_ret
      refine SameTo.no (fun e => ?_) HBE5.out
      have h9 : l1 = l2 := (J.mk.inj e).2.2.2.2.1
      have hx := HX.out
      rw [h9, HY.out] at hx
      have := HXY.out.2 (Option.some.inj hx).symm
      cases this
     | true =>
      go_wp2_with fail
      go_roundg (l1.length - (i + 1))
      case measure => have := Hki.out; omega
      refine ⟨i + 1, rfl, by omega, by go_num, fun j hj => ?_, HA2.out.below HBB5.out, HB2.out.below HBB5.out, HBE5.out⟩
      rcases Nat.lt_or_ge j i with h9 | h9
      ·exact HEQ.out j h9
      obtain rfl : j = i := by omega
      rw [HX.out, HY.out, HXY.out.1 (by trivial)]
    have hlt2 : ¬ (i : Int) < (l1.length : Int) := by omega
    have hlt3 : decide ((i : Int) < (l1.length : Int)) = false := by rw [decide_eq_false_iff_not]; exact hlt2
    have HLE : Hid (l1 = l2) := Lib.hid (List.ext_getElem? (fun j => by
     rcases Nat.lt_or_ge j i with h9 | h9
     ·exact HEQ.out j h9
     rw [List.getElem?_eq_none (show l1.length ≤ j by omega), List.getElem?_eq_none (show l2.length ≤ j by have := HLL.out; omega)]))
    go_wp2_with fail
    clear ac6 bc6 HEQ Hki hlt hlt2 hlt3
    go_loopg [6] ns1.length (fun k s6 wr => ∃ i : Nat, k = ns1.length - i ∧ i ≤ ns1.length ∧ s6 = .int .i64 (i : Int) ∧ (∀ j, j < i → ns1[j]? = ns2[j]?) ∧ RowAt wr gA [Value.int IntKind.i64 k1, Value.bool b1, Value.bool ng1, Value.string { data := dg1.toArray }, Value.int IntKind.i64 ex1, Value.string { data := t1.toArray }, Value.slice p1 l1.length c1, Value.slice q1 ns1.length e1] ∧ RowAt wr gB [Value.int IntKind.i64 k1, Value.bool b1, Value.bool ng2, Value.string { data := dg2.toArray }, Value.int IntKind.i64 ex2, Value.string { data := t1.toArray }, Value.slice p2 l2.length c2, Value.slice q2 ns2.length e2] ∧ Below w.heap.size w wr)
    case atStart => exact ⟨0, rfl, Nat.zero_le _, rfl, fun j h => by omega, HA2.out, HB2.out, HBE2.out⟩
    skip
    obtain ⟨i2, hki, hi2, rfl, heq, hA, hB, hBe⟩ := hrel
    have Hki := Lib.hid hki
    have HEQ := Lib.hid heq
    have HA3 := Lib.hid hA
    have HB3 := Lib.hid hB
    have HBE3 := Lib.hid hBe
    clear hki heq hA hB hBe HA2 HB2 HBE2
    have ac7 := HA3.out.cell 7 _ rfl
    have bc7 := HB3.out.cell 7 _ rfl
    by_cases hlt : i2 < ns1.length
    ·
     have hlt2 : (i2 : Int) < (ns1.length : Int) := by omega
     have hlt3 : (i2 : Int) < (ns2.length : Int) := by have := HNL.out; omega
     obtain ⟨g3, f3, rfl, _, hg1, hr1⟩ := HN1.out (show 0 < ns1.length by omega)
     obtain ⟨g4, f4, rfl, _, hg2, hr2⟩ := HN2.out (show 0 < ns2.length by have := HNL.out; omega)
     obtain ⟨u, hu⟩ : ∃ u, ns1[i2]? = some u := ⟨_, List.getElem?_eq_getElem hlt⟩
     obtain ⟨v, hv⟩ : ∃ v, ns2[i2]? = some v := ⟨_, List.getElem?_eq_getElem (by have := HNL.out; omega)⟩
     have nx := (HBE3.out.cell (p := ⟨g3, f3 + i2, none⟩) hg1).trans (hr1 i2 u hu)
     have ny := (HBE3.out.cell (p := ⟨g4, f4 + i2, none⟩) hg2).trans (hr2 i2 v hv)
     have HU := Lib.hid hu
     have HV := Lib.hid hv
     clear hu hv hr1 hr2 hg1 hg2
     by_cases hnn : u = v
     rotate_left
     ·
      have hbb : ¬ (⟨u.toArray⟩ : ByteArray) = ⟨v.toArray⟩ := fun e => hnn (by simpa using e)
      have hbl : (u == v) = false := by rw [beq_eq_false_iff_ne]; exact hnn
      go_wp2_with fail
      go_quiet (fail)
      go_wp2_with fail
      go_ret
      refine SameTo.no (fun e => hnn ?_) (HBE3.out.trans ((drewN_b _ _).mono HBE3.out.size))
      have h9 : ns1 = ns2 := (J.mk.inj e).2.2.2.2.2
      have hx := HU.out
      rw [h9, HV.out] at hx
      exact (Option.some.inj hx).symm
     subst hnn
     go_wp2_with fail
     go_quiet (fail)
     go_wp2_with fail
     go_roundg (ns1.length - (i2 + 1))
     case measure => have := Hki.out; omega
     refine ⟨i2 + 1, rfl, by omega, by go_num, fun j hj => ?_, HA3.out.below (drewN_b _ _), HB3.out.below (drewN_b _ _), HBE3.out.trans ((drewN_b _ _).mono HBE3.out.size)⟩
     rcases Nat.lt_or_ge j i2 with h9 | h9
     ·exact HEQ.out j h9
     obtain rfl : j = i2 := by omega
     rw [HU.out, HV.out]
    have hlt2 : ¬ (i2 : Int) < (ns1.length : Int) := by omega
    have hlt3 : decide ((i2 : Int) < (ns1.length : Int)) = false := by rw [decide_eq_false_iff_not]; exact hlt2
    have hne : ns1 = ns2 := List.ext_getElem? (fun j => by
     rcases Nat.lt_or_ge j i2 with h9 | h9
     ·exact HEQ.out j h9
     rw [List.getElem?_eq_none (show ns1.length ≤ j by omega), List.getElem?_eq_none (show ns2.length ≤ j by have := HNL.out; omega)])
    have HNE := Lib.hid hne
    clear hne
    go_wp2_with fail
    go_ret
    exact SameTo.yes (by rw [HLE.out, HNE.out, HDE.out]) HBE3.out
open Go.RowKit
/-! ### Nat6 -/
/-! ### Dec1 -/
/-! ### Dec2 -/
/-! ### Par1 -/
/-! ### Par2 -/
/-! ### DecM -/
/-! ### Dec5 -/
/-! ### Ref1 -/
theorem digAll_snoc (l : List UInt8) (j : Nat) (h : j < l.length) (hd : digAll (l.take j) = true) (hb : digB (l.getD j 0) = true) : digAll (l.take (j + 1)) = true := by
 rw [take_snoc8 l j h]
 simp only [digAll, List.all_append] at hd ⊢
 rw [hd, List.all_cons, hb]; rfl
theorem digAll_not (l : List UInt8) (j : Nat) (h : j < l.length) (hb : digB (l.getD j 0) = false) : digAll l = false := by
 simp only [digAll, List.all_eq_false]
 exact ⟨_, List.getElem_mem h, by have e : l.getD j 0 = l[j] := by simp [h]
                                  rw [← e, hb]; exact Bool.false_ne_true⟩
theorem mayB_not {d : Dec} (h : digAll d.digits = false) : mayB d = false := by
 cases hd : d.digits with
 | nil => rw [hd] at h; simp [digAll] at h
 | cons c t => rw [hd] at h; simp only [mayB, hd, h]; simp
theorem may_at (l : List UInt8) (j : Nat) (h : j < l.length) : (⟨l.toArray⟩ : ByteArray)[j]'(by simpa [ByteArray.size] using h) = l.getD j 0 := by
 show l.toArray[j]'(by simpa using h) = _
 simp [h]
theorem mayR_calls (w : World) (d : Dec) (hsz : d.digits.length ≤ 100000000000) :
  Calls Tryz.prog 99 #[.agg #[.bool d.neg, .string ⟨d.digits.toArray⟩, .int .i64 d.exp]] w fun e w' => e = .returned (.bool (mayB d)) ∧ Below w.heap.size w w' := by
 obtain ⟨neg, l, exp⟩ := d
 simp only at hsz ⊢
 have hb : Below w.heap.size w (w.alloc (Obj.cells #[Value.bool neg, Value.string { data := l.toArray }, Value.int IntKind.i64 exp] 26)) := (Below.refl _ _).alloc (Nat.le_refl _) _
 have hd := DecAt.at w ⟨neg, l, exp⟩ _ rfl
 have c0 := hd.c0
 have c1 := hd.c1
 have c2 := hd.c2
 simp only at c0 c1 c2
 clear hd
 go_enter Tryz.func99, Tryz.ntmps99
 go_wp2_with fail
 generalize w.alloc (Obj.cells #[Value.bool neg, Value.string { data := l.toArray }, Value.int IntKind.i64 exp] 26) = w1 at *
 go_loopg [4] l.length (fun k i wr => ∃ j : Nat, k = l.length - j ∧ j ≤ l.length ∧ i = .int .i64 j ∧ digAll (l.take j) = true ∧ w1 = wr)
 case atStart => exact ⟨0, rfl, by omega, rfl, rfl, rfl⟩
 case round =>
  obtain ⟨j, hk, hj, rfl, hd, rfl⟩ := hrel
  have Hk := Lib.hid hk
  have Hd := Lib.hid hd
  clear hk hd
  by_cases hlt : j < l.length
  ·have hlt' : (j : Int) < l.length := by omega
   have hij := may_at l j hlt
   have Hs := Lib.hid (digAll_snoc l j hlt Hd.out)
   have Hn := Lib.hid (fun h => mayB_not (d := ⟨neg, l, exp⟩) (digAll_not l j hlt h))
   have hc : (l.getD j 0).toNat < 256 := (l.getD j 0).toNat_lt
   have Hb : Hid (digB (l.getD j 0) = (decide (48 ≤ (l.getD j 0).toNat) && decide ((l.getD j 0).toNat ≤ 57))) := rfl
   generalize l.getD j 0 = c at *
   by_cases h1 : c.toNat < 48
   ·have h1' : decide ((c.toNat : Int) < 48) = true := by simp; omega
    have hf := Hn.out (by rw [Hb.out]; simp; omega)
    have Hf := Lib.hid hf
    clear hf
    go_wp2_with fail
    go_ret
    exact ⟨by rw [Hf.out]; rfl, hb⟩
   have h1' : decide ((c.toNat : Int) < 48) = false := by simp; omega
   by_cases h2 : 57 < c.toNat
   ·have h2' : decide ((57 : Int) < (c.toNat : Int)) = true := by simp; omega
    have hf := Hn.out (by rw [Hb.out]; simp; omega)
    have Hf := Lib.hid hf
    clear hf
    go_wp2_with fail
    go_ret
    exact ⟨by rw [Hf.out]; rfl, hb⟩
   have h2' : decide ((57 : Int) < (c.toNat : Int)) = false := by simp; omega
   go_wp2_with fail
   go_roundg (l.length - (j + 1))
   case measure => have := Hk.out; omega
   exact ⟨j + 1, rfl, by omega, by go_num, Hs.out (by rw [Hb.out]; simp; omega), rfl⟩
  obtain rfl : j = l.length := by omega
  have hall := Hd.out
  rw [List.take_of_length_le (Nat.le_refl _)] at hall
  clear Hk Hd hj hlt
  cases l with
  | nil =>
   have Hf : Hid (mayB ⟨neg, [], exp⟩ = (!neg && decide (exp = 0))) := rfl
   clear hall
   cases neg with
   | true =>
    go_wp2_with fail
    go_ret
    exact ⟨by rw [Hf.out]; rfl, hb⟩
   | false =>
    by_cases h0 : exp = 0
    ·subst h0
     go_wp2_with fail
     go_ret
     exact ⟨by rw [Hf.out]; rfl, hb⟩
    have h0' : (exp == 0) = false := by simp [h0]
    have Hf2 : Hid (mayB ⟨false, [], exp⟩ = false) := by show mayB ⟨false, [], exp⟩ = false; rw [Hf.out]; simp [h0]
    go_wp2_with fail
    go_ret
    exact ⟨by rw [Hf2.out]; rfl, hb⟩
  | cons c t =>
   have hi0 := may_at (c :: t) 0 (by simp)
   have hiL := may_at (c :: t) t.length (by simp)
   rw [show (c :: t).getD 0 0 = c from rfl] at hi0
   obtain ⟨x, hx⟩ : ∃ x, x = (c :: t).getD t.length 0 := ⟨_, rfl⟩
   rw [← hx] at hiL
   have hf : mayB ⟨neg, c :: t, exp⟩ = (decide (t.length + 1 ≤ 100) && !(c == 48) && !(x == 48) && decide (-1000 ≤ exp) && decide (exp ≤ 1000)) := by
    simp only [mayB, hall, Bool.true_and, hx]
   have h48 : ∀ y : UInt8, (y == 48) = decide (y.toNat = 48) := fun y => by
    rw [Bool.eq_iff_iff, beq_iff_eq, decide_eq_true_eq, ← UInt8.toNat_inj]; rfl
   rw [h48, h48] at hf
   have Hf := Lib.hid hf
   clear hall hx hf h48
   go_wp2_with fail
   all_goals
    go_ret
    refine ⟨?_, hb⟩
    rw [Hf.out]
    refine congrArg (fun b => Ending.returned (Value.bool b)) ?_
    show (_ : Bool) = _
    rw [Bool.eq_iff_iff]
    simp only [Bool.and_eq_true, Bool.not_eq_true', decide_eq_true_eq, decide_eq_false_iff_not, Bool.false_eq_true, bne_iff_ne, ne_eq]
    refine ⟨fun h => ?_, fun h => ?_⟩
    all_goals first | omega | exact h.elim
/-! ### Ref2 -/
theorem DecAt.drew {w : World} {b : Nat} {d : Dec} (h : DecAt w b d) : DecAt w.drew b d := ⟨h.c0, h.c1, h.c2, h.f0, h.f1, h.f2, h.lt⟩
/-! ### RefL -/
/-! ### RefD -/
/-! ### Ref3 -/
theorem srtN_sorted (ns : List (List UInt8)) : (srtN ns).Pairwise (· ≤ ·) := by
 have h := List.pairwise_mergeSort (le := fun (x y : List UInt8) => decide (x ≤ y)) (fun _ _ _ h1 h2 => by
  simp only [decide_eq_true_eq] at *; exact List.le_trans h1 h2) (fun _ _ => by
  simp only [Bool.or_eq_true, decide_eq_true_eq]; exact List.le_total _ _) ns
 exact h.imp (fun h => by simpa using h)
theorem srtN_unique {ns ms : List (List UInt8)} (hp : ms.Perm ns) (hs : ms.Pairwise (· ≤ ·)) : ms = srtN ns :=
 List.Perm.eq_of_pairwise (fun _ _ _ _ h1 h2 => List.le_antisymm h1 h2) hs (srtN_sorted ns) (hp.trans (srtN_perm ns).symm)
def posR (s : List UInt8) (out : List (List UInt8)) : Nat → Nat
 | 0 => 0
 | n + 1 => if s < out.getD n [] then posR s out n else n + 1
theorem posR_le (s : List UInt8) (out : List (List UInt8)) : ∀ n, posR s out n ≤ n
 | 0 => Nat.le_refl _
 | n + 1 => by
  unfold posR
  split
  ·exact Nat.le_succ_of_le (posR_le s out n)
  exact Nat.le_refl _
theorem posR_hi (s : List UInt8) (out : List (List UInt8)) : ∀ n i, posR s out n ≤ i → i < n → s < out.getD i []
 | 0, i, _, h => absurd h (Nat.not_lt_zero _)
 | n + 1, i, h1, h2 => by
  unfold posR at h1
  split at h1
  ·rename_i hs
   by_cases e : i = n
   ·rw [e]; exact hs
   exact posR_hi s out n i h1 (by omega)
  omega
theorem posR_lo (s : List UInt8) (out : List (List UInt8)) : ∀ n k, posR s out n = k + 1 → out.getD k [] ≤ s
 | 0, k, h => by simp [posR] at h
 | n + 1, k, h => by
  unfold posR at h
  split at h
  ·exact posR_lo s out n k h
  rename_i hs
  obtain rfl : n = k := by omega
  exact List.not_lt.1 hs
def insN (s : List UInt8) (out : List (List UInt8)) : List (List UInt8) := out.take (posR s out out.length) ++ s :: out.drop (posR s out out.length)
theorem insN_sorted (s : List UInt8) (out : List (List UInt8)) (h : out.Pairwise (· ≤ ·)) : (insN s out).Pairwise (· ≤ ·) := by
 unfold insN
 have hp := posR_le s out out.length
 have hg : ∀ i (hi : i < out.length), out.getD i [] = out[i] := fun i hi => by simp [hi]
 have hlo : ∀ x ∈ out.take (posR s out out.length), x ≤ s := by
  intro x hx
  cases hk : posR s out out.length with
  | zero => rw [hk] at hx; simp at hx
  | succ k =>
   have h1 := posR_lo s out out.length k hk
   rw [hk] at hx hp
   rw [hg k (by omega)] at h1
   obtain ⟨i, hi, rfl⟩ := List.getElem_of_mem hx
   rw [List.getElem_take]
   have hi2 : i < k + 1 := by simp at hi; omega
   by_cases e : i = k
   ·subst e; exact h1
   exact List.le_trans (List.pairwise_iff_getElem.1 h i k (by omega) (by omega) (by omega)) h1
 have hhi : ∀ x ∈ out.drop (posR s out out.length), s ≤ x := by
  intro x hx
  obtain ⟨i, hi, rfl⟩ := List.getElem_of_mem hx
  rw [List.getElem_drop]
  have h1 := posR_hi s out out.length (posR s out out.length + i) (by omega) (by simp at hi; omega)
  rw [hg _ (by simp at hi; omega)] at h1
  exact List.le_of_lt h1
 refine List.pairwise_append.2 ⟨h.sublist (List.take_sublist _ _), List.pairwise_cons.2 ⟨hhi, h.sublist (List.drop_sublist _ _)⟩, fun a ha b hb => ?_⟩
 rcases List.mem_cons.1 hb with rfl | hb
 ·exact hlo a ha
 exact List.le_trans (hlo a ha) (hhi b hb)
theorem insN_perm (s : List UInt8) (out : List (List UInt8)) : (insN s out).Perm (s :: out) := by
 unfold insN
 refine List.perm_middle.trans ?_
 rw [List.take_append_drop]
variable {α : Type}
def insP (s : List UInt8) (x : α) (ns : List (List UInt8)) (l : List α) : List α := l.take (posR s ns ns.length) ++ x :: l.drop (posR s ns ns.length)
def insAll : List (List UInt8) → List α → List (List UInt8) → List α → List (List UInt8) × List α
 | s :: ns, x :: l, ms, m => insAll ns l (insN s ms) (insP s x ms m)
 | _, _, ms, m => (ms, m)
theorem insP_zip (s : List UInt8) (x : α) (ns : List (List UInt8)) (l : List α) (h : ns.length = l.length) : (insN s ns).zip (insP s x ns l) = (ns.zip l).take (posR s ns ns.length) ++ (s, x) :: (ns.zip l).drop (posR s ns ns.length) := by
 unfold insN insP
 rw [List.zip_append (by simp [h]), List.zip_cons_cons]
 simp only [List.zip_eq_zipWith, List.take_zipWith, List.drop_zipWith]
theorem insN_len (s : List UInt8) (ns : List (List UInt8)) : (insN s ns).length = ns.length + 1 := (insN_perm s ns).length_eq
theorem insP_len (s : List UInt8) (x : α) (ns : List (List UInt8)) (l : List α) (h : ns.length = l.length) : (insP s x ns l).length = l.length + 1 := by
 unfold insP
 have := posR_le s ns ns.length
 simp; omega
theorem insAll_spec : ∀ (ns : List (List UInt8)) (l : List α) (ms : List (List UInt8)) (m : List α), ns.length = l.length → ms.length = m.length → ms.Pairwise (· ≤ ·) →
  (insAll ns l ms m).1.Pairwise (· ≤ ·) ∧ (insAll ns l ms m).1.length = (insAll ns l ms m).2.length ∧ ((insAll ns l ms m).1.zip (insAll ns l ms m).2).Perm (ns.zip l ++ ms.zip m)
 | [], [], ms, m, _, h2, h3 => by simpa [insAll] using ⟨h3, h2⟩
 | s :: ns, x :: l, ms, m, h1, h2, h3 => by
  have ih := insAll_spec ns l (insN s ms) (insP s x ms m) (by simpa using h1) (by rw [insN_len, insP_len _ _ _ _ h2, h2]) (insN_sorted s ms h3)
  refine ⟨ih.1, ih.2.1, ih.2.2.trans ?_⟩
  rw [insP_zip s x ms m h2]
  simp only [List.zip_cons_cons, List.cons_append]
  refine List.Perm.trans (List.Perm.append_left _ List.perm_middle) ?_
  rw [List.take_append_drop]
  exact List.perm_middle
 | [], _ :: _, _, _, h, _, _ => by simp at h
 | _ :: _, [], _, _, h, _, _ => by simp at h
theorem zip_idx (d : α) {ns : List (List UInt8)} {l : List α} (hn : ns.Nodup) (hl : ns.length = l.length) {p : List UInt8 × α} (h : p ∈ ns.zip l) : p.2 = l.getD (ns.idxOf p.1) d := by
 obtain ⟨i, hi, rfl⟩ := List.getElem_of_mem h
 have hi2 : i < ns.length := by simp at hi; omega
 rw [List.getElem_zip]
 have he : ns.idxOf ns[i] = i := by
  have h1 : ns.idxOf ns[i] < ns.length := List.idxOf_lt_length_iff.2 (List.getElem_mem _)
  have h2 := List.getElem_idxOf h1
  exact (List.getElem_inj hn).1 h2
 simp only [he]
 simp [show i < l.length by omega]
theorem insAll_ord (d : α) {ns : List (List UInt8)} {l : List α} (hn : ns.Nodup) (hl : ns.length = l.length) : insAll ns l [] [] = (srtN ns, ordL d l ns) := by
 obtain ⟨h1, h2, h3⟩ := insAll_spec ns l [] [] hl rfl List.Pairwise.nil
 simp only [List.zip_nil_left, List.append_nil] at h3
 generalize insAll ns l [] [] = r at *
 obtain ⟨a, b⟩ := r
 simp only at h1 h2 h3
 have e1 : a = (a.zip b).map (·.1) := by rw [List.map_fst_zip (by omega)]
 have e2 : b = (a.zip b).map (·.2) := by rw [List.map_snd_zip (by omega)]
 have e3 : ns = (ns.zip l).map (·.1) := by rw [List.map_fst_zip (by omega)]
 have ha : a = srtN ns := by
  refine srtN_unique ?_ h1
  rw [e1, e3]
  have := h3.map (·.1)
  rwa [← e3]  at this ⊢
 subst ha
 congr 1
 unfold ordL
 rw [e2]
 conv => rhs; rw [e1]
 rw [List.map_map]
 refine List.map_congr_left (fun p hp => ?_)
 exact zip_idx d hn hl ((h3.mem_iff).1 hp)
theorem goodL_iff (l : List J) : goodL l = true ↔ ∀ x ∈ l, goodJ x = true := by
 induction l with
 | nil => simp [goodL]
 | cons x l ih => rw [goodL, Bool.and_eq_true, ih]; simp
theorem unlR_of : ∀ (ns seen : List (List UInt8)), ns.Nodup → (∀ s ∈ ns, s ∉ seen ∧ Lib.validD s = true) → unlR seen ns = true
 | [], _, _, _ => rfl
 | n :: ns, seen, h1, h2 => by
  rw [unlR]
  obtain ⟨a1, a2⟩ := h2 n (by simp)
  rw [if_neg (by simp [a1, a2])]
  refine unlR_of ns _ (List.nodup_cons.1 h1).2 (fun s hs => ⟨fun hm => ?_, (h2 s (by simp [hs])).2⟩)
  rcases List.mem_append.1 hm with hm | hm
  ·exact (h2 s (by simp [hs])).1 hm
  simp at hm; subst hm
  exact (List.nodup_cons.1 h1).1 hs
theorem unlike_iff (ns : List (List UInt8)) : unlikeB ns = true ↔ ns.Nodup ∧ ∀ s ∈ ns, Lib.validD s = true :=
 ⟨fun h => ⟨unlike_nodup h, fun s hs => unl_valid ns [] h s hs⟩, fun h => unlR_of ns [] h.1 (fun s hs => ⟨by simp, h.2 s hs⟩)⟩
end Go.Proofs.YtfclfaidmipjpaaGreatDoor
