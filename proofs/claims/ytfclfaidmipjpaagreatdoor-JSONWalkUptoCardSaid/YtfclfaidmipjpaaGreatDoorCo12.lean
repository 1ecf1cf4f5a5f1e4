/- Texts of this claim, joined: Jk2. -/
import Derived.Test.YtfclfaidmipjpaaGreatDoorCo11
namespace Go.Proofs.YtfclfaidmipjpaaGreatDoor
set_option maxRecDepth 100000
set_option maxHeartbeats 20000000
open Go.Lib (hid)
open Go.RowKit
def MayTo (w : World) (v : J) (e : Ending) (w' : World) : Prop := e = .returned (.tuple #[.int .i64 (deepJ v : Int), .bool (goodJ v)]) ∧ Below w.heap.size w w'
abbrev barC (k : Int) (b : Bool) (n : Dec) (t : List UInt8) : List Value := [.int .i64 k, .bool b, .bool n.neg, .string ⟨n.digits.toArray⟩, .int .i64 n.exp, .string ⟨t.toArray⟩, .slice none 0 0, .slice none 0 0]
structure MayI (w wr : World) (g1 g4 g5 : Nat) (r : JR) (bb : Bool) (bn : Dec) (bt : List UInt8) : Prop where
 be : Below w.heap.size w wr
 v : RowAt wr g1 (jcells r)
 part : RowAt wr g4 (barC r.1.kind r.1.b r.1.n r.1.t)
 bare : RowAt wr g5 (barC r.1.kind bb bn bt)
 lo : w.heap.size ≤ g1 ∧ g1 < g4 ∧ g4 < g5
theorem MayI.below {w wr w' : World} {g1 g4 g5 : Nat} {r : JR} {bb : Bool} {bn : Dec} {bt : List UInt8} (h : MayI w wr g1 g4 g5 r bb bn bt) (hb : Below wr.heap.size wr w') : MayI w w' g1 g4 g5 r bb bn bt :=
 ⟨h.be.trans (hb.mono h.be.size), h.v.below hb, h.part.below hb, h.bare.below hb, h.lo⟩
theorem MayI.set {w wr : World} {g1 g4 g5 : Nat} {r : JR} {bb : Bool} {bn : Dec} {bt : List UInt8} (h : MayI w wr g1 g4 g5 r bb bn bt) (i : Nat) (x : Value) {bb2 : Bool} {bn2 : Dec} {bt2 : List UInt8} (hi : i < 8) (hx : (barC r.1.kind bb bn bt).set i x = barC r.1.kind bb2 bn2 bt2) : MayI w (wr.setCell ⟨g5, i, none⟩ x) g1 g4 g5 r bb2 bn2 bt2 :=
 ⟨h.be.setCell (p := ⟨g5, i, none⟩) (by show w.heap.size ≤ g5; have := h.lo; omega) x, h.v.far (p := ⟨g5, i, none⟩) (by show g5 ≠ g1; have := h.lo; omega) x, h.part.far (p := ⟨g5, i, none⟩) (by show g5 ≠ g4; have := h.lo; omega) x, hx ▸ h.bare.set i x (by simpa using hi), h.lo⟩
theorem MayI.num {w wr : World} {g1 g4 g5 : Nat} {r : JR} {bb : Bool} {bn : Dec} {bt : List UInt8} (h : MayI w wr g1 g4 g5 r bb bn bt) (n : Dec) : MayI w (((wr.setCell ⟨g5, 2, none⟩ (.bool n.neg)).setCell ⟨g5, 3, none⟩ (.string ⟨n.digits.toArray⟩)).setCell ⟨g5, 4, none⟩ (.int .i64 n.exp)) g1 g4 g5 r bb n bt := by
 have h1 := h.set (bb2 := bb) (bn2 := ⟨n.neg, bn.digits, bn.exp⟩) (bt2 := bt) 2 (.bool n.neg) (by omega) rfl
 have h2 := h1.set (bb2 := bb) (bn2 := ⟨n.neg, n.digits, bn.exp⟩) (bt2 := bt) 3 (.string ⟨n.digits.toArray⟩) (by omega) rfl
 exact h2.set (bb2 := bb) (bn2 := n) (bt2 := bt) 4 (.int .i64 n.exp) (by omega) rfl
theorem wpList_loadMid {w : World} {ops : Array Oper} {rest : List Oper} {o : Oper} {a : Act} {Q : Exit → Act → World → Prop} (hgd : o.guard = none) (x : Operand) (ho : o.op = .load 30 x)
  {g off : Nat} (r : JR) (hc : w.rangeAt g off (jcells r)) (hx : a.eval x = .pointer (some ⟨g, off, none⟩))
  (hK : wpList Tryz.prog ops Q rest (a.put o.dst (jval r)) w) : wpList Tryz.prog ops Q (o :: rest) a w := by
 refine wpList_plain hgd fun K hK' => ?_
 have hrun := exec_load8 (a := a) x ho hx r hc
 unfold Oper.wp
 rw [hrun]
 simp only [Oper.upon]
 exact hK' _ _ hK
theorem may_calls {w0 : World} {S1 : Nat → Prop} {r1 : JR} (h1 : JV w0 S1 r1) : ∀ (w : World), Below w0.heap.size w0 w → Lib.Utf8Tabs 0 1 w → szJ r1.1 ≤ 100000000 → Calls Tryz.prog 66 #[jval r1] w (MayTo w r1.1) := by
 induction h1 with
 | mk r1 xs hn1 hl1 hs1 ih =>
  intro w hb hT hsz
  obtain ⟨⟨k, b, ⟨ng, dg, ex⟩, t, l, ns⟩, lv, nv⟩ := r1
  have hnw := hn1.below hb
  obtain ⟨p1, c1, hp1, hc1, hm1, hL1⟩ := hl1
  change lv = Value.slice p1 l.length c1 at hp1
  obtain ⟨q1, e1, hq1, hcn1, hk1, hN1⟩ := hn1
  change nv = Value.slice q1 ns.length e1 at hq1
  subst hp1 hq1
  simp only [J.l] at hm1 hL1 hc1
  simp only [szJ] at hsz
  have hln : l.length ≤ 100000000 := by have := szL_len l; omega
  have hnn : ns.length ≤ 100000000 := by have := szN_len ns; omega
  have htl : t.length ≤ 100000000 := by omega
  have hdl : dg.length ≤ 100000000 := by omega
  have hns : ∀ s ∈ ns, s.length ≤ 100000000 := fun s hs => by have := szN_in hs; omega
  have HNS := hid hns
  have HL := hid hL1
  have HNW := hid hnw
  have HT := hid hT
  have HTL := hid (tabsLt hT)
  have HB := hid hb
  have HIH := hid ih
  have HJS := hid hs1
  have HSZ : Hid (szL l ≤ 100000000) := hid (by omega)
  clear hns hL1 hnw hT hb ih hs1 hN1 hcn1 hk1 hsz hm1 hc1
  obtain ⟨s0, hs0⟩ : ∃ s0 : Value, Value.slice p1 l.length c1 = s0 := ⟨_, rfl⟩
  simp only [jval, J.kind, J.b, J.n, J.t]
  go_enter Tryz.func66, Tryz.ntmps66
  clear hs0 s0
  go_upto_region 1 with fail
  have hv1 : RowAt (w.alloc (Obj.cells #[Value.int IntKind.i64 k, Value.bool b, Value.bool ng, Value.string { data := dg.toArray }, Value.int IntKind.i64 ex, Value.string { data := t.toArray }, Value.slice p1 l.length c1, Value.slice q1 ns.length e1] 30)) w.heap.size [Value.int IntKind.i64 k, Value.bool b, Value.bool ng, Value.string { data := dg.toArray }, Value.int IntKind.i64 ex, Value.string { data := t.toArray }, .slice p1 l.length c1, .slice q1 ns.length e1] := RowAt.new w #[Value.int IntKind.i64 k, Value.bool b, Value.bool ng, Value.string { data := dg.toArray }, Value.int IntKind.i64 ex, Value.string { data := t.toArray }, Value.slice p1 l.length c1, Value.slice q1 ns.length e1] 30
  have hb1 : Below w.heap.size w (w.alloc (Obj.cells #[Value.int IntKind.i64 k, Value.bool b, Value.bool ng, Value.string { data := dg.toArray }, Value.int IntKind.i64 ex, Value.string { data := t.toArray }, Value.slice p1 l.length c1, Value.slice q1 ns.length e1] 30)) := (Below.refl _ _).alloc (Nat.le_refl _) _
  have hz1 : (w.alloc (Obj.cells #[Value.int IntKind.i64 k, Value.bool b, Value.bool ng, Value.string { data := dg.toArray }, Value.int IntKind.i64 ex, Value.string { data := t.toArray }, Value.slice p1 l.length c1, Value.slice q1 ns.length e1] 30)).heap.size = w.heap.size + 1 := by simp
  have HG2 : Hid (∃ g, w.heap.size = g) := hid ⟨_, rfl⟩
  obtain ⟨g1, hg1⟩ := HG2.out
  rw [hg1] at hv1 hz1 ⊢
  have HW := hid hg1
  have HV1 := hid hv1
  have HB1 := hid hb1
  clear HG2 hg1 hv1 hb1
  generalize (w.alloc (Obj.cells #[Value.int IntKind.i64 k, Value.bool b, Value.bool ng, Value.string { data := dg.toArray }, Value.int IntKind.i64 ex, Value.string { data := t.toArray }, Value.slice p1 l.length c1, Value.slice q1 ns.length e1] 30)) = w1 at *
  have hz := RowAt.new w1 #[Value.int IntKind.i64 0, Value.bool false, Value.bool false, Value.string { data := #[] }, Value.int IntKind.i64 0, Value.string { data := #[] }, Value.slice none 0 0, Value.slice none 0 0] 30
  have hb2 : Below w1.heap.size w1 (w1.alloc (Obj.cells #[Value.int IntKind.i64 0, Value.bool false, Value.bool false, Value.string { data := #[] }, Value.int IntKind.i64 0, Value.string { data := #[] }, Value.slice none 0 0, Value.slice none 0 0] 30)) := (Below.refl _ _).alloc (Nat.le_refl _) _
  have HV2 := hid (HV1.out.below hb2)
  have HB2 := hid (HB1.out.trans (hb2.mono HB1.out.size))
  rw [hz1] at hz
  have HZ2 := hid hz
  clear hz hb2
  go_upto_region 2 with (first | refine wpList_load8 rfl _ rfl HV1.out rfl ?_ | refine wpList_store8 rfl _ _ rfl rfl HZ2.out rfl _ _ _ _ _ _ _ _ rfl rfl rfl ?_)
  have hs8 := set8_row HZ2.out rfl (.int .i64 k) (.bool b) (.bool ng) (.string ⟨dg.toArray⟩) (.int .i64 ex) (.string ⟨t.toArray⟩) (.slice p1 l.length c1) (.slice q1 ns.length e1)
  have ha8 := set8_apart (w1.alloc (Obj.cells #[Value.int IntKind.i64 0, Value.bool false, Value.bool false, Value.string { data := #[] }, Value.int IntKind.i64 0, Value.string { data := #[] }, Value.slice none 0 0, Value.slice none 0 0] 30)) (g1 + 1) (.int .i64 k) (.bool b) (.bool ng) (.string ⟨dg.toArray⟩) (.int .i64 ex) (.string ⟨t.toArray⟩) (.slice p1 l.length c1) (.slice q1 ns.length e1)
  have HV3 := hid (HV2.out.apart ha8 (by omega))
  have HB3 := hid (HB2.out.trans ((ha8.below (B := w.heap.size) HB2.out.size (fun i hi e => by have := HW.out; omega))))
  have HP3 := hid hs8
  generalize hw3 : set8 (w1.alloc (Obj.cells #[Value.int IntKind.i64 0, Value.bool false, Value.bool false, Value.string { data := #[] }, Value.int IntKind.i64 0, Value.string { data := #[] }, Value.slice none 0 0, Value.slice none 0 0] 30)) (g1 + 1) (.int .i64 k) (.bool b) (.bool ng) (.string ⟨dg.toArray⟩) (.int .i64 ex) (.string ⟨t.toArray⟩) (.slice p1 l.length c1) (.slice q1 ns.length e1) = w3 at *
  have hz3 : w3.heap.size = g1 + 2 := by rw [← hw3]; unfold set8; simp; omega
  clear hs8 ha8 hw3 HZ2 HV2 HB2 hz1 HV1 HB1
  have f6 := HP3.out.free 6
  have f7 := HP3.out.free 7
  have k6 := HP3.out.cell 6 _ rfl
  have k7 := HP3.out.cell 7 _ rfl
  go_upto_region 3 with fail
  have HP4 := hid ((HP3.out.set 6 (.slice none 0 0) (by simp)).set 7 (.slice none 0 0) (by simp))
  have HV4 := hid ((HV3.out.far (p := ⟨g1 + 1, 6, none⟩) (by show g1 + 1 ≠ g1; omega) (.slice none 0 0)).far (p := ⟨g1 + 1, 7, none⟩) (by show g1 + 1 ≠ g1; omega) (.slice none 0 0))
  have HB4 := hid ((HB3.out.setCell (p := ⟨g1 + 1, 6, none⟩) (by show w.heap.size ≤ g1 + 1; have := HW.out; omega) (.slice none 0 0)).setCell (p := ⟨g1 + 1, 7, none⟩) (by show w.heap.size ≤ g1 + 1; have := HW.out; omega) (.slice none 0 0))
  have hz4 : ((w3.setCell ⟨g1 + 1, 6, none⟩ (.slice none 0 0)).setCell ⟨g1 + 1, 7, none⟩ (.slice none 0 0)).heap.size = g1 + 2 := by simp [hz3]
  generalize ((w3.setCell ⟨g1 + 1, 6, none⟩ (.slice none 0 0)).setCell ⟨g1 + 1, 7, none⟩ (.slice none 0 0)) = w4 at *
  clear f6 f7 k6 k7 HP3 HV3 HB3 hz3 w3
  have hz := RowAt.new w4 #[Value.int IntKind.i64 0, Value.bool false, Value.bool false, Value.string { data := #[] }, Value.int IntKind.i64 0, Value.string { data := #[] }, Value.slice none 0 0, Value.slice none 0 0] 30
  have hb5 : Below w4.heap.size w4 (w4.alloc (Obj.cells #[Value.int IntKind.i64 0, Value.bool false, Value.bool false, Value.string { data := #[] }, Value.int IntKind.i64 0, Value.string { data := #[] }, Value.slice none 0 0, Value.slice none 0 0] 30)) := (Below.refl _ _).alloc (Nat.le_refl _) _
  have HV5 := hid (HV4.out.below hb5)
  have HP5 := hid (HP4.out.below hb5)
  have HB5 := hid (HB4.out.trans (hb5.mono HB4.out.size))
  rw [hz4] at hz
  have HZ5 := hid hz
  have v0 := HV4.out.cell 0 _ rfl
  clear hz hb5
  go_upto_region 4 with (refine wpList_store8 rfl _ _ rfl rfl HZ5.out rfl _ _ _ _ _ _ _ _ rfl rfl rfl ?_)
  have hs8 := set8_row HZ5.out rfl (.int .i64 k) (.bool false) (.bool false) (.string ⟨#[]⟩) (.int .i64 0) (.string ⟨#[]⟩) (.slice none 0 0) (.slice none 0 0)
  have ha8 := set8_apart (w4.alloc (Obj.cells #[Value.int IntKind.i64 0, Value.bool false, Value.bool false, Value.string { data := #[] }, Value.int IntKind.i64 0, Value.string { data := #[] }, Value.slice none 0 0, Value.slice none 0 0] 30)) (g1 + 2) (.int .i64 k) (.bool false) (.bool false) (.string ⟨#[]⟩) (.int .i64 0) (.string ⟨#[]⟩) (.slice none 0 0) (.slice none 0 0)
  have HI6 : Hid (MayI w (set8 (w4.alloc (Obj.cells #[Value.int IntKind.i64 0, Value.bool false, Value.bool false, Value.string { data := #[] }, Value.int IntKind.i64 0, Value.string { data := #[] }, Value.slice none 0 0, Value.slice none 0 0] 30)) (g1 + 2) (.int .i64 k) (.bool false) (.bool false) (.string ⟨#[]⟩) (.int .i64 0) (.string ⟨#[]⟩) (.slice none 0 0) (.slice none 0 0)) g1 (g1 + 1) (g1 + 2) (J.mk k b ⟨ng, dg, ex⟩ t l ns, Value.slice p1 l.length c1, Value.slice q1 ns.length e1) false Dec.zero []) := hid ⟨HB5.out.trans (ha8.below (B := w.heap.size) HB5.out.size (fun i hi e => by have := HW.out; omega)), HV5.out.apart ha8 (by omega), HP5.out.apart ha8 (by omega), hs8, by have := HW.out; omega⟩
  obtain ⟨g4, hg4⟩ : ∃ g, g1 + 1 = g := ⟨_, rfl⟩
  obtain ⟨g5, hg5⟩ : ∃ g, g1 + 2 = g := ⟨_, rfl⟩
  rw [hg4, hg5] at HI6
  rw [hg5]
  rw [hg4]
  generalize set8 (w4.alloc (Obj.cells #[Value.int IntKind.i64 0, Value.bool false, Value.bool false, Value.string { data := #[] }, Value.int IntKind.i64 0, Value.string { data := #[] }, Value.slice none 0 0, Value.slice none 0 0] 30)) g5 (.int .i64 k) (.bool false) (.bool false) (.string ⟨#[]⟩) (.int .i64 0) (.string ⟨#[]⟩) (.slice none 0 0) (.slice none 0 0) = w6 at *
  clear hs8 ha8 HZ5 HV5 HP5 HB5 v0 HV4 HP4 HB4 hz4 hg4 hg5 HW w4 w1
  have v5 := HI6.out.v.cell 5 _ rfl
  have v2 := HI6.out.v.cell 2 _ rfl
  have v3 := HI6.out.v.cell 3 _ rfl
  have v4 := HI6.out.v.cell 4 _ rfl
  go_cut [6, 7] from 18 to 26 (fun s6 s7 wc => s6 = .int .i64 0 ∧ s7 = .bool (Lib.validD t && mayB ⟨ng, dg, ex⟩) ∧ MayI w wc g1 g4 g5 (J.mk k b ⟨ng, dg, ex⟩ t l ns, Value.slice p1 l.length c1, Value.slice q1 ns.length e1) false Dec.zero [])
  case first =>
   go_wp2_with fail
   refine (validS_calls t w6 (by omega) (tabsB HT.out HI6.out.be HTL.out.1 HTL.out.2)).mono ?_
   rintro e w7 ⟨rfl, hb7⟩
   have HI7 := hid (HI6.out.below hb7)
   clear hb7 HI6 v2 v3 v4 v5
   have v2 := HI7.out.v.cell 2 _ rfl
   have v3 := HI7.out.v.cell 3 _ rfl
   have v4 := HI7.out.v.cell 4 _ rfl
   cases hv : Lib.validD t with
   | false =>
    go_wp2_with fail
    go_meet
    exact ⟨rfl, by simp [hv], HI7.out⟩
   | true =>
    go_wp2_with fail
    refine (check_calls w7 ⟨ng, dg, ex⟩ (by show dg.length ≤ _; omega)).mono ?_
    rintro e w8 ⟨rfl, hb8⟩
    have HI8 := hid (HI7.out.below hb8)
    have HCK : Hid (chk ⟨ng, dg, ex⟩ = if mayB ⟨ng, dg, ex⟩ then 0 else 2) := hid rfl
    clear hb8 v2 v3 v4 HI7
    rw [HCK.out]
    cases hm : mayB ⟨ng, dg, ex⟩ with
    | true =>
     go_wp2_with fail
     go_meet
     exact ⟨rfl, by simp [hv, hm], HI8.out⟩
    | false =>
     go_wp2_with fail
     go_meet
     exact ⟨rfl, by simp [hv, hm], HI8.out⟩
  obtain ⟨rfl, rfl, hI7⟩ := hcut
  have HI7 := hid hI7
  clear hI7 HI6 v2 v3 v4 v5
  obtain ⟨ok0, hok0⟩ : ∃ o, (Lib.validD t && mayB ⟨ng, dg, ex⟩) = o := ⟨_, rfl⟩
  rw [hok0]
  have HOK0 := hid hok0
  clear hok0
  have v0 : _ = some (Value.int .i64 k) := HI7.out.v.cell 0 _ rfl
  go_upto_block 0 with fail
  go_cut [6, 7] from 29 to 64 (fun s6 s7 wc => s6 = .int .i64 (deepK k : Int) ∧ s7 = .bool (okK k ok0 l.length ns) ∧ MayI w wc g1 g4 g5 (J.mk k b ⟨ng, dg, ex⟩ t l ns, Value.slice p1 l.length c1, Value.slice q1 ns.length e1) (bareB k b) (bareN k ⟨ng, dg, ex⟩) (bareT k t))
  case first =>
   by_cases k1 : k = 1
   ·
    subst k1
    have HBR : Hid (deepK 1 = 0 ∧ bareB 1 b = b ∧ bareN 1 ⟨ng, dg, ex⟩ = Dec.zero ∧ bareT 1 t = []) := hid ⟨by simp [deepK], by simp [bareB], by simp [bareN], by simp [bareT]⟩
    have HOKQ : Hid (okK 1 ok0 l.length ns = ok0) := hid (by simp [okK])
    have v1 := HI7.out.v.cell 1 _ rfl
    have b1 := HI7.out.bare.cell 1 _ rfl
    have f1 := HI7.out.bare.free 1
    have HI8 := hid (HI7.out.set (bb2 := b) (bn2 := Dec.zero) (bt2 := []) 1 (.bool b) (by omega) rfl)
    go_wp2_with fail
    go_meet
    exact ⟨by rw [HBR.out.1]; rfl, by rw [HOKQ.out], by rw [HBR.out.2.1, HBR.out.2.2.1, HBR.out.2.2.2]; exact HI8.out⟩
   have n1 : (k == 1) = false := by rw [beq_eq_false_iff_ne]; exact k1
   by_cases k2 : k = 2
   ·
    subst k2
    have HBR : Hid (deepK 2 = 0 ∧ bareB 2 b = false ∧ bareN 2 ⟨ng, dg, ex⟩ = ⟨ng, dg, ex⟩ ∧ bareT 2 t = []) := hid ⟨by simp [deepK], by simp [bareB], by simp [bareN], by simp [bareT]⟩
    have HOKQ : Hid (okK 2 ok0 l.length ns = ok0) := hid (by simp [okK])
    have v2 := HI7.out.v.cell 2 _ rfl
    have b2 := HI7.out.bare.cell 2 _ rfl
    have f2 := HI7.out.bare.free 2
    have v3 := HI7.out.v.cell 3 _ rfl
    have b3 := HI7.out.bare.cell 3 _ rfl
    have f3 := HI7.out.bare.free 3
    have v4 := HI7.out.v.cell 4 _ rfl
    have b4 := HI7.out.bare.cell 4 _ rfl
    have f4 := HI7.out.bare.free 4
    have HI8 := hid (HI7.out.num ⟨ng, dg, ex⟩)
    go_wp2_with fail
    go_meet
    exact ⟨by rw [HBR.out.1]; rfl, by rw [HOKQ.out], by rw [HBR.out.2.1, HBR.out.2.2.1, HBR.out.2.2.2]; exact HI8.out⟩
   have n2 : (k == 2) = false := by rw [beq_eq_false_iff_ne]; exact k2
   by_cases k3 : k = 3
   ·
    subst k3
    have HBR : Hid (deepK 3 = 0 ∧ bareB 3 b = false ∧ bareN 3 ⟨ng, dg, ex⟩ = Dec.zero ∧ bareT 3 t = t) := hid ⟨by simp [deepK], by simp [bareB], by simp [bareN], by simp [bareT]⟩
    have HOKQ : Hid (okK 3 ok0 l.length ns = ok0) := hid (by simp [okK])
    have v5 := HI7.out.v.cell 5 _ rfl
    have b5 := HI7.out.bare.cell 5 _ rfl
    have f5 := HI7.out.bare.free 5
    have HI8 := hid (HI7.out.set (bb2 := false) (bn2 := Dec.zero) (bt2 := t) 5 (.string ⟨t.toArray⟩) (by omega) rfl)
    go_wp2_with fail
    go_meet
    exact ⟨by rw [HBR.out.1]; rfl, by rw [HOKQ.out], by rw [HBR.out.2.1, HBR.out.2.2.1, HBR.out.2.2.2]; exact HI8.out⟩
   have n3 : (k == 3) = false := by rw [beq_eq_false_iff_ne]; exact k3
   by_cases k5 : k = 5
   ·
    subst k5
    have HBR : Hid (deepK 5 = 1 ∧ bareB 5 b = false ∧ bareN 5 ⟨ng, dg, ex⟩ = Dec.zero ∧ bareT 5 t = []) := hid ⟨by simp [deepK], by simp [bareB], by simp [bareN], by simp [bareT]⟩
    have v6 : _ = some (Value.slice p1 l.length c1) := HI7.out.v.cell 6 _ rfl
    have v7 : _ = some (Value.slice q1 ns.length e1) := HI7.out.v.cell 7 _ rfl
    cases hok : ok0 with
    | false =>
     have HFIN : Hid (okK 5 false l.length ns = false) := hid (by simp [okK])
     go_wp2_with fail
     go_meet
     exact ⟨by rw [HBR.out.1]; rfl, by rw [hok, HFIN.out]; try rfl, by rw [HBR.out.2.1, HBR.out.2.2.1, HBR.out.2.2.2]; exact HI7.out⟩
    | true =>
     by_cases hll : ns.length = l.length
     ·
      have e1b : ((ns.length : Int) == (l.length : Int)) = true := by rw [beq_iff_eq]; omega
      have HLL := hid hll
      clear hll
      go_wp2_with fail
      have hnw9 := HNW.out.below (HI7.out.be)
      refine (unlike_calls _ hnw9 hnn HNS.out (tabsB HT.out HI7.out.be HTL.out.1 HTL.out.2)).mono ?_
      rintro e w8 ⟨rfl, hb8⟩
      have HI8 := hid (HI7.out.below hb8)
      clear hb8 hnw9
      have HFIN : Hid (okK 5 true l.length ns = unlikeB ns) := hid (by have h9 := HLL.out; simp [okK, h9])
      go_wp2_with fail
      go_meet
      exact ⟨by rw [HBR.out.1]; rfl, by rw [hok, HFIN.out]; try rfl, by rw [HBR.out.2.1, HBR.out.2.2.1, HBR.out.2.2.2]; exact HI8.out⟩
     have e1b : ((ns.length : Int) == (l.length : Int)) = false := by rw [beq_eq_false_iff_ne]; omega
     have HFIN : Hid (okK 5 true l.length ns = false) := hid (by simp [okK, hll])
     clear hll
     go_wp2_with fail
     go_meet
     exact ⟨by rw [HBR.out.1]; rfl, by rw [hok, HFIN.out]; try rfl, by rw [HBR.out.2.1, HBR.out.2.2.1, HBR.out.2.2.2]; exact HI7.out⟩
   have n5 : (k == 5) = false := by rw [beq_eq_false_iff_ne]; exact k5
   by_cases k4 : k = 4
   ·
    subst k4
    have HBR : Hid (deepK 4 = 1 ∧ bareB 4 b = false ∧ bareN 4 ⟨ng, dg, ex⟩ = Dec.zero ∧ bareT 4 t = []) := hid ⟨by simp [deepK], by simp [bareB], by simp [bareN], by simp [bareT]⟩
    have HOKQ : Hid (okK 4 ok0 l.length ns = ok0) := hid (by simp [okK])
    go_wp2_with fail
    go_meet
    exact ⟨by rw [HBR.out.1]; rfl, by rw [HOKQ.out], by rw [HBR.out.2.1, HBR.out.2.2.1, HBR.out.2.2.2]; exact HI7.out⟩
   have n4 : (k == 4) = false := by rw [beq_eq_false_iff_ne]; exact k4
   by_cases k0 : k = 0
   ·
    subst k0
    have HBR : Hid (deepK 0 = 0 ∧ bareB 0 b = false ∧ bareN 0 ⟨ng, dg, ex⟩ = Dec.zero ∧ bareT 0 t = []) := hid ⟨by simp [deepK], by simp [bareB], by simp [bareN], by simp [bareT]⟩
    have HOKQ : Hid (okK 0 ok0 l.length ns = ok0) := hid (by simp [okK])
    go_wp2_with fail
    go_meet
    exact ⟨by rw [HBR.out.1]; rfl, by rw [HOKQ.out], by rw [HBR.out.2.1, HBR.out.2.2.1, HBR.out.2.2.2]; exact HI7.out⟩
   have n0 : (k == 0) = false := by rw [beq_eq_false_iff_ne]; exact k0
   have HFIN : Hid (okK k ok0 l.length ns = false ∧ deepK k = 0 ∧ bareB k b = false ∧ bareN k ⟨ng, dg, ex⟩ = Dec.zero ∧ bareT k t = []) := by
    refine hid ⟨?_, ?_, ?_, ?_, ?_⟩
    ·unfold okK; rw [if_neg k5, if_neg (by omega)]
    ·unfold deepK; rw [if_neg (by omega)]
    ·unfold bareB; rw [if_neg k1]
    ·unfold bareN; rw [if_neg k2]
    unfold bareT; rw [if_neg k3]
   go_wp2_with fail
   go_meet
   exact ⟨by rw [HFIN.out.2.1]; rfl, by rw [HFIN.out.1], by rw [HFIN.out.2.2.1, HFIN.out.2.2.2.1, HFIN.out.2.2.2.2]; exact HI7.out⟩
  obtain ⟨rfl, rfl, hI8⟩ := hcut
  have HI8 := hid hI8
  clear hI8 HI7 v0
  have HBK : Hid (badK k b ⟨ng, dg, ex⟩ t l.length ns = ((b != bareB k b) || !sameB ⟨ng, dg, ex⟩ (bareN k ⟨ng, dg, ex⟩) || (t != bareT k t) || (deepK k == 0 && decide (0 < l.length)) || (k != 5 && decide (0 < ns.length)))) := hid rfl
  have HDK := hid (deepK_le k)
  have HDL := hid (deepL_le l (deepK k))
  obtain ⟨bad, hbad⟩ : ∃ q, badK k b ⟨ng, dg, ex⟩ t l.length ns = q := ⟨_, rfl⟩
  have HBAD := hid hbad
  rw [hbad] at HBK
  clear hbad
  obtain ⟨ok1, hok1⟩ : ∃ q, okK k ok0 l.length ns = q := ⟨_, rfl⟩
  have HOK1 := hid hok1
  rw [hok1]
  clear hok1
  have HHB : Hid (headB k b ⟨ng, dg, ex⟩ t l.length ns = (!bad && ok1)) := hid (by unfold headB; rw [HOK0.out, HBAD.out, HOK1.out])
  have HDJ : Hid (deepJ (J.mk k b ⟨ng, dg, ex⟩ t l ns) = deepL (deepK k) l) := hid rfl
  have HGJ : Hid (goodJ (J.mk k b ⟨ng, dg, ex⟩ t l ns) = (headB k b ⟨ng, dg, ex⟩ t l.length ns && goodL l)) := hid rfl
  clear HBAD HOK1 HOK0
  generalize bareB k b = bb at *
  generalize bareN k ⟨ng, dg, ex⟩ = bn at *
  generalize bareT k t = bt at *
  obtain ⟨dp, hdp⟩ : ∃ q, deepK k = q := ⟨_, rfl⟩
  rw [hdp] at HBK HDK HDL HDJ ⊢
  clear hdp
  have pa1 : _ = some (Value.bool b) := HI8.out.part.cell 1 _ rfl
  have ba1 : _ = some (Value.bool bb) := HI8.out.bare.cell 1 _ rfl
  have pa2 : _ = some (Value.bool ng) := HI8.out.part.cell 2 _ rfl
  have ba2 : _ = some (Value.bool bn.neg) := HI8.out.bare.cell 2 _ rfl
  have pa3 : _ = some (Value.string ⟨dg.toArray⟩) := HI8.out.part.cell 3 _ rfl
  have ba3 : _ = some (Value.string ⟨bn.digits.toArray⟩) := HI8.out.bare.cell 3 _ rfl
  have pa4 : _ = some (Value.int .i64 ex) := HI8.out.part.cell 4 _ rfl
  have ba4 : _ = some (Value.int .i64 bn.exp) := HI8.out.bare.cell 4 _ rfl
  have pa5 : _ = some (Value.string ⟨t.toArray⟩) := HI8.out.part.cell 5 _ rfl
  have ba5 : _ = some (Value.string ⟨bt.toArray⟩) := HI8.out.bare.cell 5 _ rfl
  have v0 : _ = some (Value.int .i64 k) := HI8.out.v.cell 0 _ rfl
  have v6 : _ = some (Value.slice p1 l.length c1) := HI8.out.v.cell 6 _ rfl
  have v7 : _ = some (Value.slice q1 ns.length e1) := HI8.out.v.cell 7 _ rfl
  go_upto_region 18 with fail
  go_cut [104] from 65 to 104 (fun s104 wc => s104 = .bool bad ∧ MayI w wc g1 g4 g5 (J.mk k b ⟨ng, dg, ex⟩ t l ns, Value.slice p1 l.length c1, Value.slice q1 ns.length e1) bb bn bt)
  case first =>
   by_cases hA : b = bb
   rotate_left
   ·
    have HF : Hid (bad = true) := hid (by rw [HBK.out, show (b != bb) = true from by rw [bne_iff_ne]; exact hA]; rfl)
    have h0b : (b != bb) = true := by rw [bne_iff_ne]; exact hA
    have h0a : (b == bb) = false := by rw [beq_eq_false_iff_ne]; exact hA
    clear hA
    go_wp2_with fail
    go_meet
    exact ⟨by rw [HF.out]; try rfl, HI8.out⟩
   subst hA
   have h1b : (b != b) = false := by simp
   have hnd := fun W => run_neq_dec ⟨ng, dg, ex⟩ bn W
   simp only at hnd
   cases hB : sameB ⟨ng, dg, ex⟩ bn with
   | false =>
    rw [hB] at hnd HBK
    simp only [Bool.not_false] at hnd
    have HF : Hid (bad = true) := hid (by rw [HBK.out, h1b]; rfl)
    clear hB
    go_wp2_with fail
    go_meet
    exact ⟨by rw [HF.out]; try rfl, HI8.out⟩
   | true =>
    rw [hB] at hnd HBK
    simp only [Bool.not_true] at hnd
    clear hB
    by_cases hC : t = bt
    rotate_left
    ·
     have HF : Hid (bad = true) := hid (by rw [HBK.out, h1b, show (t != bt) = true from by rw [bne_iff_ne]; exact hC]; rfl)
     have hbb : ¬ (⟨t.toArray⟩ : ByteArray) = ⟨bt.toArray⟩ := fun e => hC (by simpa using e)
     have hb2 : (t == bt) = false := by rw [beq_eq_false_iff_ne]; exact hC
     have hb3 : (t != bt) = true := by rw [bne_iff_ne]; exact hC
     go_wp2_with fail
     go_meet
     exact ⟨by rw [HF.out]; try rfl, HI8.out⟩
    subst hC
    have h3b : (t != t) = false := by simp
    have HBK2 : Hid (bad = ((dp == 0 && decide (0 < l.length)) || (k != 5 && decide (0 < ns.length)))) := hid (by rw [HBK.out, h1b, h3b]; rfl)
    clear HBK
    by_cases hD : dp = 0 ∧ 0 < l.length
    ·
     obtain ⟨rfl, hl0⟩ := hD
     have hl0i : (0 : Int) < (l.length : Int) := by omega
     have HF : Hid (bad = true) := hid (by rw [HBK2.out, decide_eq_true hl0]; rfl)
     go_wp2_with fail
     go_meet
     exact ⟨by rw [HF.out]; try rfl, HI8.out⟩
    by_cases hd0 : dp = 0
    ·
     subst hd0
     have hl0 : ¬ 0 < l.length := fun h9 => hD ⟨rfl, h9⟩
     have hl0i : ¬ (0 : Int) < (l.length : Int) := by omega
     have hl0b : decide ((0 : Int) < (l.length : Int)) = false := decide_eq_false hl0i
     have HFD : Hid (((0 : Nat) == 0 && decide (0 < l.length)) = false) := hid (by rw [decide_eq_false hl0]; rfl)
     clear hD
     by_cases hE : k = 5
     ·
      subst hE
      have HF : Hid (bad = false) := hid (by rw [HBK2.out, HFD.out]; rfl)
      go_wp2_with fail
      go_meet
      exact ⟨by rw [HF.out]; try rfl, HI8.out⟩
     have e5 : (k == 5) = false := by rw [beq_eq_false_iff_ne]; exact hE
     have e5b : (k != 5) = true := by rw [bne_iff_ne]; exact hE
     by_cases hN : 0 < ns.length
     ·
      have hNi : (0 : Int) < (ns.length : Int) := by omega
      have HF : Hid (bad = true) := hid (by rw [HBK2.out, HFD.out, e5b, decide_eq_true hN]; rfl)
      go_wp2_with fail
      go_meet
      exact ⟨by rw [HF.out]; try rfl, HI8.out⟩
     have hNi : ¬ (0 : Int) < (ns.length : Int) := by omega
     have hNb : decide ((0 : Int) < (ns.length : Int)) = false := decide_eq_false hNi
     have HF : Hid (bad = false) := hid (by rw [HBK2.out, HFD.out, e5b, decide_eq_false hN]; rfl)
     go_wp2_with fail
     go_meet
     exact ⟨by rw [HF.out]; try rfl, HI8.out⟩
    have hdi : ((dp : Int) == 0) = false := by rw [beq_eq_false_iff_ne]; omega
    have hdn : ¬ dp = 0 := hd0
    have HFD : Hid ((dp == 0 && decide (0 < l.length)) = false) := hid (by rw [show (dp == 0) = false from by rw [beq_eq_false_iff_ne]; exact hd0]; rfl)
    clear hD
    by_cases hE : k = 5
    ·
     subst hE
     have HF : Hid (bad = false) := hid (by rw [HBK2.out, HFD.out]; rfl)
     go_wp2_with fail
     go_meet
     exact ⟨by rw [HF.out]; try rfl, HI8.out⟩
    have e5 : (k == 5) = false := by rw [beq_eq_false_iff_ne]; exact hE
    have e5b : (k != 5) = true := by rw [bne_iff_ne]; exact hE
    by_cases hN : 0 < ns.length
    ·
     have hNi : (0 : Int) < (ns.length : Int) := by omega
     have HF : Hid (bad = true) := hid (by rw [HBK2.out, HFD.out, e5b, decide_eq_true hN]; rfl)
     go_wp2_with fail
     go_meet
     exact ⟨by rw [HF.out]; try rfl, HI8.out⟩
    have hNi : ¬ (0 : Int) < (ns.length : Int) := by omega
    have hNb : decide ((0 : Int) < (ns.length : Int)) = false := decide_eq_false hNi
    have HF : Hid (bad = false) := hid (by rw [HBK2.out, HFD.out, e5b, decide_eq_false hN]; rfl)
    go_wp2_with fail
    go_meet
    exact ⟨by rw [HF.out]; try rfl, HI8.out⟩
  obtain ⟨rfl, hI9⟩ := hcut
  have HI9 := hid hI9
  clear hI9 HI8 pa1 ba1 pa2 ba2 pa3 ba3 pa5 ba5 pa4 ba4 v0 v6 v7 HBK
  cases bad with
  | true =>
   have HOKZ : Hid ((!true && ok1) = false) := hid rfl
   have v6 : _ = some (Value.slice p1 l.length c1) := HI9.out.v.cell 6 _ rfl
   go_wp2_with fail
   have HBE := hid HI9.out.be
   clear v6 HI9
   go_loopg [6, 7, 108] l.length (fun kk s6 s7 s108 wr => ∃ i : Nat, kk = l.length - i ∧ i ≤ l.length ∧ s6 = .int .i64 (deepL dp (l.take i) : Int) ∧ s7 = .bool false ∧ s108 = .int .i64 (i : Int) ∧ Below w.heap.size w wr)
   case atStart => exact ⟨0, rfl, Nat.zero_le _, rfl, rfl, rfl, HBE.out⟩
   obtain ⟨i, hki, hi, rfl, rfl, rfl, hbe⟩ := hrel
   have Hki := hid hki
   have HBE2 := hid hbe
   clear hki hbe HBE
   by_cases hlt : i < l.length
   ·
    have hlti : (i : Int) < (l.length : Int) := by omega
    obtain ⟨x, hx⟩ : ∃ x, l[i]? = some x := ⟨_, List.getElem?_eq_getElem hlt⟩
    obtain ⟨gl, fl, rfl, _, hgl, hcs⟩ := HL.out (by omega)
    have HX := hid hx
    have hra : wr.rangeAt gl (fl + i * 8) (jcells (x, xs i)) := fun c v hc => by
     have hc8 : c < 8 := (List.getElem?_eq_some_iff.1 hc).1
     rw [HBE2.out.cell (p := ⟨gl, fl + i * 8 + c, none⟩) (Nat.lt_of_lt_of_le hgl HB.out.size), HB.out.cell (p := ⟨gl, fl + i * 8 + c, none⟩) hgl, hcs i x hx c hc8]; exact hc
    have HRA := hid hra
    have hdx := deep_in (d := dp) hx
    have hsx := szL_in hx
    have HDT := hid (deepL_take (d := dp) hx)
    have HGT := hid (goodL_take hx)
    clear hra hcs hx hgl
    have HXJ : Hid (∀ W, Below w0.heap.size w0 W → Lib.Utf8Tabs 0 1 W → szJ x ≤ 100000000 → Calls Tryz.prog 66 #[jval (x, xs i)] W (MayTo W x)) := hid (HIH.out i x HX.out)
    have hsl : ∃ a1 a2 a3 a4, (xs i).1 = .slice a1 x.l.length a2 ∧ (xs i).2 = .slice a3 x.ns.length a4 := (HJS.out i x HX.out).slices
    have HSL := hid hsl
    clear hsl HX
    generalize xs i = xi at *
    obtain ⟨k2, b2, ⟨ng2, dg2, ex2⟩, t2, l2, ns2⟩ := x
    obtain ⟨lv2, nv2⟩ := xi
    go_upto_region 22 with fail
    have hz := RowAt.new wr #[Value.int IntKind.i64 0, Value.bool false, Value.bool false, Value.string { data := #[] }, Value.int IntKind.i64 0, Value.string { data := #[] }, Value.slice none 0 0, Value.slice none 0 0] 30
    have hb9 : Below wr.heap.size wr (wr.alloc (Obj.cells #[Value.int IntKind.i64 0, Value.bool false, Value.bool false, Value.string { data := #[] }, Value.int IntKind.i64 0, Value.string { data := #[] }, Value.slice none 0 0, Value.slice none 0 0] 30)) := (Below.refl _ _).alloc (Nat.le_refl _) _
    have HZ9 := hid hz
    clear hz
    obtain ⟨q1b, e2, q2, e3, ev1, ev2⟩ := HSL.out
    change lv2 = Value.slice q1b l2.length e2 at ev1
    change nv2 = Value.slice q2 ns2.length e3 at ev2
    subst ev1 ev2
    clear HSL
    go_upto_region 23 with (first | (refine wpList_loadMid rfl _ rfl (J.mk k2 b2 ⟨ng2, dg2, ex2⟩ t2 l2 ns2, .slice q1b l2.length e2, .slice q2 ns2.length e3) HRA.out rfl ?_; simp only [jval, J.kind, J.b, J.n, J.t]) | refine wpList_store8 rfl _ _ rfl rfl HZ9.out rfl _ _ _ _ _ _ _ _ rfl rfl rfl ?_)
    have hs8 := set8_row HZ9.out rfl (.int .i64 k2) (.bool b2) (.bool ng2) (.string ⟨dg2.toArray⟩) (.int .i64 ex2) (.string ⟨t2.toArray⟩) (.slice q1b l2.length e2) (.slice q2 ns2.length e3)
    have ha8 := set8_apart (wr.alloc (Obj.cells #[Value.int IntKind.i64 0, Value.bool false, Value.bool false, Value.string { data := #[] }, Value.int IntKind.i64 0, Value.string { data := #[] }, Value.slice none 0 0, Value.slice none 0 0] 30)) wr.heap.size (.int .i64 k2) (.bool b2) (.bool ng2) (.string ⟨dg2.toArray⟩) (.int .i64 ex2) (.string ⟨t2.toArray⟩) (.slice q1b l2.length e2) (.slice q2 ns2.length e3)
    have HV9 := hid hs8
    have HB9 := hid (HBE2.out.trans ((hb9.mono HBE2.out.size).trans (ha8.below (B := w.heap.size) (Nat.le_trans HBE2.out.size hb9.size) (fun i hi e => by have := HBE2.out.size; omega))))
    generalize set8 (wr.alloc (Obj.cells #[Value.int IntKind.i64 0, Value.bool false, Value.bool false, Value.string { data := #[] }, Value.int IntKind.i64 0, Value.string { data := #[] }, Value.slice none 0 0, Value.slice none 0 0] 30)) wr.heap.size (.int .i64 k2) (.bool b2) (.bool ng2) (.string ⟨dg2.toArray⟩) (.int .i64 ex2) (.string ⟨t2.toArray⟩) (.slice q1b l2.length e2) (.slice q2 ns2.length e3) = w9 at *
    obtain ⟨g9, hg9⟩ : ∃ g, wr.heap.size = g := ⟨_, rfl⟩
    rw [hg9] at HV9 ⊢
    clear hs8 ha8 hb9 HZ9 hg9 HBE2 HRA
    go_wp2_with ((with_reducible refine wpList_load8 ?gdf ?xxf ?opf HV9.out ?exf ?kkf); (case opf => rfl); (case gdf => rfl); (case exf => rfl))
    refine (HXJ.out w9 (HB.out.trans (HB9.out.mono HB.out.size)) (tabsB HT.out HB9.out HTL.out.1 HTL.out.2) (by have := HSZ.out; omega)).mono ?_
    rintro e w10 ⟨rfl, hb10⟩
    have HB10 := hid (HB9.out.trans (hb10.mono HB9.out.size))
    clear hb10
    obtain ⟨xj, hxj⟩ : ∃ xj, J.mk k2 b2 ⟨ng2, dg2, ex2⟩ t2 l2 ns2 = xj := ⟨_, rfl⟩
    rw [hxj] at HDT HGT hdx ⊢
    have hdl2 := HDL.out
    have hdl3 : deepL dp l ≤ 200000000 := by have := HSZ.out; have := HDK.out; omega
    have hdt2 := deepL_mono l dp i
    obtain ⟨gx, hgx⟩ : ∃ q, goodJ xj = q := ⟨_, rfl⟩
    obtain ⟨dx, hdx2⟩ : ∃ q, deepJ xj = q := ⟨_, rfl⟩
    obtain ⟨da, hda⟩ : ∃ q, deepL dp (l.take i) = q := ⟨_, rfl⟩
    rw [hdx2, hda] at HDT
    rw [hdx2] at hdx
    rw [hda] at hdt2
    rw [hgx, hdx2, hda]
    clear hxj hgx hdx2 hda hdl2 HGT
    have hdi : (dx : Int) + 1 ≤ 200000000 := by omega
    have hda : (da : Int) ≤ 200000000 := by omega
    clear hdx hdl3 hdt2 hsx
    go_upto_region 25 with fail
    have hmax : (max (da : Int) ((dx : Int) + 1)) = ((max da (dx + 1) : Nat) : Int) := by omega
    go_wp2_with fail
    go_roundg (l.length - (i + 1))
    case measure => have := Hki.out; omega
    exact ⟨i + 1, rfl, by omega, by rw [HDT.out]; go_num, rfl, by go_num, HB10.out⟩
   ·
    have hlti : ¬ (i : Int) < (l.length : Int) := by omega
    obtain rfl : i = l.length := by omega
    rw [List.take_length]
    have HFIN : Hid (deepL dp l = deepJ (J.mk k b ⟨ng, dg, ex⟩ t l ns) ∧ false = goodJ (J.mk k b ⟨ng, dg, ex⟩ t l ns)) := hid ⟨HDJ.out.symm, by rw [HGJ.out, HHB.out, HOKZ.out]; try rfl⟩
    obtain ⟨fd, hfd⟩ : ∃ q, deepL dp l = q := ⟨_, rfl⟩
    rw [hfd] at HFIN
    rw [hfd]
    clear hfd
    go_wp2_with fail
    first | go_ret2 | go_ret
    exact ⟨by rw [← HFIN.out.1, ← HFIN.out.2]; try rfl, HBE2.out⟩
   | false =>
    have HOKZ : Hid ((!false && ok1) = ok1) := hid rfl
    have v6 : _ = some (Value.slice p1 l.length c1) := HI9.out.v.cell 6 _ rfl
    go_wp2_with fail
    have HBE := hid HI9.out.be
    clear v6 HI9
    go_loopg [6, 7, 108] l.length (fun kk s6 s7 s108 wr => ∃ i : Nat, kk = l.length - i ∧ i ≤ l.length ∧ s6 = .int .i64 (deepL dp (l.take i) : Int) ∧ s7 = .bool (ok1 && goodL (l.take i)) ∧ s108 = .int .i64 (i : Int) ∧ Below w.heap.size w wr)
    case atStart => exact ⟨0, rfl, Nat.zero_le _, rfl, by rw [List.take_zero]; show _ = Value.bool (ok1 && true); rw [Bool.and_true], rfl, HBE.out⟩
    obtain ⟨i, hki, hi, rfl, rfl, rfl, hbe⟩ := hrel
    have Hki := hid hki
    have HBE2 := hid hbe
    clear hki hbe HBE
    by_cases hlt : i < l.length
    ·
     have hlti : (i : Int) < (l.length : Int) := by omega
     obtain ⟨x, hx⟩ : ∃ x, l[i]? = some x := ⟨_, List.getElem?_eq_getElem hlt⟩
     obtain ⟨gl, fl, rfl, _, hgl, hcs⟩ := HL.out (by omega)
     have HX := hid hx
     have hra : wr.rangeAt gl (fl + i * 8) (jcells (x, xs i)) := fun c v hc => by
      have hc8 : c < 8 := (List.getElem?_eq_some_iff.1 hc).1
      rw [HBE2.out.cell (p := ⟨gl, fl + i * 8 + c, none⟩) (Nat.lt_of_lt_of_le hgl HB.out.size), HB.out.cell (p := ⟨gl, fl + i * 8 + c, none⟩) hgl, hcs i x hx c hc8]; exact hc
     have HRA := hid hra
     have hdx := deep_in (d := dp) hx
     have hsx := szL_in hx
     have HDT := hid (deepL_take (d := dp) hx)
     have HGT := hid (goodL_take hx)
     clear hra hcs hx hgl
     have HXJ : Hid (∀ W, Below w0.heap.size w0 W → Lib.Utf8Tabs 0 1 W → szJ x ≤ 100000000 → Calls Tryz.prog 66 #[jval (x, xs i)] W (MayTo W x)) := hid (HIH.out i x HX.out)
     have hsl : ∃ a1 a2 a3 a4, (xs i).1 = .slice a1 x.l.length a2 ∧ (xs i).2 = .slice a3 x.ns.length a4 := (HJS.out i x HX.out).slices
     have HSL := hid hsl
     clear hsl HX
     generalize xs i = xi at *
     obtain ⟨k2, b2, ⟨ng2, dg2, ex2⟩, t2, l2, ns2⟩ := x
     obtain ⟨lv2, nv2⟩ := xi
     go_upto_region 22 with fail
     have hz := RowAt.new wr #[Value.int IntKind.i64 0, Value.bool false, Value.bool false, Value.string { data := #[] }, Value.int IntKind.i64 0, Value.string { data := #[] }, Value.slice none 0 0, Value.slice none 0 0] 30
     have hb9 : Below wr.heap.size wr (wr.alloc (Obj.cells #[Value.int IntKind.i64 0, Value.bool false, Value.bool false, Value.string { data := #[] }, Value.int IntKind.i64 0, Value.string { data := #[] }, Value.slice none 0 0, Value.slice none 0 0] 30)) := (Below.refl _ _).alloc (Nat.le_refl _) _
     have HZ9 := hid hz
     clear hz
     obtain ⟨q1b, e2, q2, e3, ev1, ev2⟩ := HSL.out
     change lv2 = Value.slice q1b l2.length e2 at ev1
     change nv2 = Value.slice q2 ns2.length e3 at ev2
     subst ev1 ev2
     clear HSL
     go_upto_region 23 with (first | (refine wpList_loadMid rfl _ rfl (J.mk k2 b2 ⟨ng2, dg2, ex2⟩ t2 l2 ns2, .slice q1b l2.length e2, .slice q2 ns2.length e3) HRA.out rfl ?_; simp only [jval, J.kind, J.b, J.n, J.t]) | refine wpList_store8 rfl _ _ rfl rfl HZ9.out rfl _ _ _ _ _ _ _ _ rfl rfl rfl ?_)
     have hs8 := set8_row HZ9.out rfl (.int .i64 k2) (.bool b2) (.bool ng2) (.string ⟨dg2.toArray⟩) (.int .i64 ex2) (.string ⟨t2.toArray⟩) (.slice q1b l2.length e2) (.slice q2 ns2.length e3)
     have ha8 := set8_apart (wr.alloc (Obj.cells #[Value.int IntKind.i64 0, Value.bool false, Value.bool false, Value.string { data := #[] }, Value.int IntKind.i64 0, Value.string { data := #[] }, Value.slice none 0 0, Value.slice none 0 0] 30)) wr.heap.size (.int .i64 k2) (.bool b2) (.bool ng2) (.string ⟨dg2.toArray⟩) (.int .i64 ex2) (.string ⟨t2.toArray⟩) (.slice q1b l2.length e2) (.slice q2 ns2.length e3)
     have HV9 := hid hs8
     have HB9 := hid (HBE2.out.trans ((hb9.mono HBE2.out.size).trans (ha8.below (B := w.heap.size) (Nat.le_trans HBE2.out.size hb9.size) (fun i hi e => by have := HBE2.out.size; omega))))
     generalize set8 (wr.alloc (Obj.cells #[Value.int IntKind.i64 0, Value.bool false, Value.bool false, Value.string { data := #[] }, Value.int IntKind.i64 0, Value.string { data := #[] }, Value.slice none 0 0, Value.slice none 0 0] 30)) wr.heap.size (.int .i64 k2) (.bool b2) (.bool ng2) (.string ⟨dg2.toArray⟩) (.int .i64 ex2) (.string ⟨t2.toArray⟩) (.slice q1b l2.length e2) (.slice q2 ns2.length e3) = w9 at *
     obtain ⟨g9, hg9⟩ : ∃ g, wr.heap.size = g := ⟨_, rfl⟩
     rw [hg9] at HV9 ⊢
     clear hs8 ha8 hb9 HZ9 hg9 HBE2 HRA
     go_wp2_with ((with_reducible refine wpList_load8 ?gdo ?xxo ?opo HV9.out ?exo ?kko); (case opo => rfl); (case gdo => rfl); (case exo => rfl))
     refine (HXJ.out w9 (HB.out.trans (HB9.out.mono HB.out.size)) (tabsB HT.out HB9.out HTL.out.1 HTL.out.2) (by have := HSZ.out; omega)).mono ?_
     rintro e w10 ⟨rfl, hb10⟩
     have HB10 := hid (HB9.out.trans (hb10.mono HB9.out.size))
     clear hb10
     obtain ⟨xj, hxj⟩ : ∃ xj, J.mk k2 b2 ⟨ng2, dg2, ex2⟩ t2 l2 ns2 = xj := ⟨_, rfl⟩
     rw [hxj] at HDT HGT hdx ⊢
     have hdl2 := HDL.out
     have hdl3 : deepL dp l ≤ 200000000 := by have := HSZ.out; have := HDK.out; omega
     have hdt2 := deepL_mono l dp i
     obtain ⟨gx, hgx⟩ : ∃ q, goodJ xj = q := ⟨_, rfl⟩
     obtain ⟨dx, hdx2⟩ : ∃ q, deepJ xj = q := ⟨_, rfl⟩
     obtain ⟨da, hda⟩ : ∃ q, deepL dp (l.take i) = q := ⟨_, rfl⟩
     obtain ⟨ga, hga⟩ : ∃ q, goodL (l.take i) = q := ⟨_, rfl⟩
     rw [hgx, hga] at HGT
     rw [hdx2, hda] at HDT
     rw [hdx2] at hdx
     rw [hda] at hdt2
     rw [hgx, hdx2, hda, hga]
     clear hxj hgx hdx2 hda hga hdl2
     have hdi : (dx : Int) + 1 ≤ 200000000 := by omega
     have hda : (da : Int) ≤ 200000000 := by omega
     clear hdx hdl3 hdt2 hsx
     go_upto_region 25 with fail
     have hmax : (max (da : Int) ((dx : Int) + 1)) = ((max da (dx + 1) : Nat) : Int) := by omega
     cases hok : (ok1 && ga) with
     | true =>
      have HOK := hid hok
      clear hok
      go_wp2_with fail
      go_roundg (l.length - (i + 1))
      case measure => have := Hki.out; omega
      exact ⟨i + 1, rfl, by omega, by rw [HDT.out]; go_num, by rw [HGT.out, ← Bool.and_assoc, HOK.out]; first | rfl | (rw [Bool.true_and]) | (rw [Bool.false_and]), by go_num, HB10.out⟩
     | false =>
      have HOK := hid hok
      clear hok
      go_wp2_with fail
      go_roundg (l.length - (i + 1))
      case measure => have := Hki.out; omega
      exact ⟨i + 1, rfl, by omega, by rw [HDT.out]; go_num, by rw [HGT.out, ← Bool.and_assoc, HOK.out]; first | rfl | (rw [Bool.true_and]) | (rw [Bool.false_and]), by go_num, HB10.out⟩
    have hlti : ¬ (i : Int) < (l.length : Int) := by omega
    obtain rfl : i = l.length := by omega
    rw [List.take_length]
    have HFIN : Hid (deepL dp l = deepJ (J.mk k b ⟨ng, dg, ex⟩ t l ns) ∧ (ok1 && goodL l) = goodJ (J.mk k b ⟨ng, dg, ex⟩ t l ns)) := hid ⟨HDJ.out.symm, by rw [HGJ.out, HHB.out, HOKZ.out]; try rfl⟩
    obtain ⟨fd, hfd⟩ : ∃ q, deepL dp l = q := ⟨_, rfl⟩
    rw [hfd] at HFIN
    rw [hfd]
    clear hfd
    obtain ⟨fg, hfg⟩ : ∃ q, (ok1 && goodL l) = q := ⟨_, rfl⟩
    rw [hfg] at HFIN
    rw [hfg]
    clear hfg
    go_wp2_with fail
    first | go_ret2 | go_ret
    exact ⟨by rw [← HFIN.out.1, ← HFIN.out.2]; try rfl, HBE2.out⟩
end Go.Proofs.YtfclfaidmipjpaaGreatDoor
