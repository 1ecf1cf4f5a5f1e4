/- Texts of this claim, joined: Alw, Rin, Spl. -/
import Derived.Test.YtfclfaidmipjpaaGreatDoorPa09
import Derived.Test.YtfclfaidmipjpaaGreatDoorPa11
namespace Go.Proofs.YtfclfaidmipjpaaGreatDoor
set_option maxRecDepth 100000
set_option maxHeartbeats 20000000
open Go.Lib (hid)
open Go.RowKit
theorem wpListIn_loadJ {m : Nat} {w : World} {ops : Array Oper} {rest : List Oper} {o : Oper} {a : Act} {Q : Exit → Act → World → Prop} (hgd : o.guard = none) (x : Operand) (ho : o.op = .load 30 x) {g : Nat} (r : JR) (hr : RowAt w g (jcells r)) (hx : a.eval x = .pointer (some ⟨g, 0, none⟩))
  (hK : wpListIn Fence.wide m Tryz.prog ops Q rest (a.put o.dst (jval r)) w) : wpListIn Fence.wide m Tryz.prog ops Q (o :: rest) a w := by
 refine wpListIn_plain hgd fun K hK' => ?_
 have hrun := exec_loadJ (a := a) x ho hx r hr
 unfold Oper.wpIn
 refine ⟨fun _ _ => trivial, ?_⟩
 rw [show Oper.semAt Fence.wide.round a.eval o = execOp a.eval o from rfl, hrun]
 exact hK' _ _ hK
def encA (x : List UInt8 × JR) : Array Value := #[.string ⟨x.1.toArray⟩, jval x.2]
def EA (v : J) (B : Nat) (pre : List (List UInt8 × JR)) (x : List UInt8 × JR) (W : World) : Prop := x.1 = labV v pre.length ∧ v.l[pre.length]? = some x.2.1 ∧ JV W (fun k => B ≤ k) x.2
theorem all1_hands {wA : World} {S1 : Nat → Prop} {r1 : JR} {g : Nat} (hrow : RowAt wA g (jcells r1)) (hj : JV wA S1 r1) (hTab : Tab wA) (hgood : goodJ r1.1 = true) (hsz : szJ r1.1 ≤ 20000000) (n0 : Nat) (w : World) (hb : Below wA.heap.size wA w) (hn0 : wA.heap.size ≤ n0) (hn : n0 ≤ w.heap.size) (m : Nat) :
  Hands Fence.wide m Tryz.prog 60 #[.pointer (some ⟨g, 0, none⟩)] encA n0 (EA r1.1) (fun xs => xs.length = r1.1.l.length) (fun _ => True) w := by
 intro l J Jx W hW hGJ hGx hY h0
 refine callsIn_wide.2 ?_
 change Calls Tryz.prog 60 #[.func (.yield l) #[] #[], .pointer (some ⟨g, 0, none⟩)] W _
 have HBA : Hid (Below wA.heap.size wA W ∧ n0 ≤ W.heap.size ∧ wA.heap.size ≤ n0) := hid ⟨hb.trans (hW.mono hb.size), Nat.le_trans hn hW.size, hn0⟩
 have HJ := hid hj
 have HGD := hid hgood
 have HSZ := hid hsz
 have HT := hid hTab
 have HGJ := hid hGJ
 have HGX := hid hGx
 have HY := hid hY
 have H0 := hid h0
 have hln : r1.1.l.length ≤ 20000000 := by
  obtain ⟨⟨k, b, n, t, l, ns⟩, _⟩ := r1
  simp only [szJ] at hsz
  have := szL_len l
  show l.length ≤ _
  omega
 have HLN := hid hln
 have HRW := hid hrow
 obtain ⟨p9, c9, hlq⟩ : ∃ pq cq, r1.2.1 = .slice pq r1.1.l.length cq := by
  cases hj with
  | mk _ xs hn hl hs9 => obtain ⟨p9, c9, e9, _⟩ := hl; exact ⟨p9, c9, e9⟩
 have HMB : Hid (∀ j x, r1.1.l[j]? = some x → ∃ gl fl ly, p9 = some ⟨gl, fl, none⟩ ∧ (∀ V, Below wA.heap.size wA V → V.rangeAt gl (fl + j * 8) (jcells (x, ly))) ∧ JV wA S1 (x, ly)) := hid (fun j x hx => by
  have h9 := hlq
  cases HJ.out with
  | mk _ xs hn hl hs9 =>
   obtain ⟨p2, c2, e2, _, _, hL2⟩ := hl
   have hj := (List.getElem?_eq_some_iff.1 hx).1
   obtain ⟨g2, f2, e3, _, hg2, hr2⟩ := hL2 (by omega)
   rw [e2] at h9
   injection h9 with h9 _ _
   refine ⟨g2, f2, xs j, h9.symm.trans e3, fun V hV c v hc => ?_, hs9 j x hx⟩
   have hc8 : c < 8 := (List.getElem?_eq_some_iff.1 hc).1
   rw [hV.cell (p := ⟨g2, f2 + j * 8 + c, none⟩) hg2, hr2 j x hx c hc8]; exact hc)
 have HNM : Hid (r1.1.kind = 5 → ∀ j s, r1.1.ns[j]? = some s → ∃ gn fn cn, r1.2.2 = .slice (some ⟨gn, fn, none⟩) r1.1.ns.length cn ∧ ∀ V, Below wA.heap.size wA V → V.cell? ⟨gn, fn + j, none⟩ = some (.string ⟨s.toArray⟩)) := hid (fun _ j s hs => by
  cases HJ.out with
  | mk _ xs hn hl hs9 =>
   obtain ⟨pn, cn, hpn, _, _, hN⟩ := hn
   have hj := (List.getElem?_eq_some_iff.1 hs).1
   obtain ⟨gn, fn, e3, _, hgn, hcell⟩ := hN (by omega)
   exact ⟨gn, fn, cn, by rw [hpn, e3], fun V hV => (hV.cell (p := ⟨gn, fn + j, none⟩) hgn).trans (hcell j s hs)⟩)
 have HC6 : Hid (∀ V, Below wA.heap.size wA V → V.cell? ⟨g, 6, none⟩ = some (.slice p9 r1.1.l.length c9) ∧ V.cell? ⟨g, 0, none⟩ = some (.int .i64 r1.1.kind) ∧ V.cell? ⟨g, 7, none⟩ = some r1.2.2) := hid (fun V hV => by
  have h := HRW.out.below hV
  exact ⟨by rw [← hlq]; exact h.cell 6 _ rfl, h.cell 0 _ rfl, h.cell 7 _ rfl⟩)
 have c6 := (HC6.out _ HBA.out.1).1
 clear hb hn hn0 hW hj hgood hsz hTab hGJ hGx hY h0 hln hrow hlq
 go_enter Tryz.func60, Tryz.ntmps60
 go_wp2_with fail
 clear c6
 go_loopg [9] r1.1.l.length (fun kk s9 wr => ∃ (i : Nat) (pre : List (List UInt8 × JR)), kk = r1.1.l.length - i ∧ i ≤ r1.1.l.length ∧ s9 = .int .i64 (i : Int) ∧ pre.length = i ∧ J pre wr ∧ Below n0 W wr)
 case atStart => exact ⟨0, [], rfl, Nat.zero_le _, rfl, rfl, H0.out, Below.refl _ _⟩
 case round =>
  obtain ⟨i, pre, hki, hi, rfl, hpi, hJ, hbr⟩ := hrel
  have Hki := hid hki
  have HPI := hid hpi
  have HJP := hid hJ
  have HBR := hid hbr
  have HBW : Hid (Below wA.heap.size wA wr) := hid (HBA.out.1.trans (hbr.mono HBA.out.2.2))
  clear hki hpi hJ hbr H0
  by_cases hlt : i < r1.1.l.length
  ·
   have hlti : (i : Int) < (r1.1.l.length : Int) := by omega
   have hwi : IntKind.i64.wrap ((i : Int) + 1) = ((i + 1 : Nat) : Int) := by have := HLN.out; rw [IntWalk.i64_in _ (by omega)]; omega
   obtain ⟨x, hx⟩ : ∃ x, r1.1.l[i]? = some x := ⟨_, List.getElem?_eq_getElem hlt⟩
   obtain ⟨gl, fl, ly, rfl, hra, hjx⟩ := HMB.out i x hx
   have HX := hid hx
   have HJX := hid hjx
   have SLX := hid hjx.slJ
   have HRA := hid (hra _ HBW.out)
   clear hx hra hjx HMB
   go_upto_region 3 with (first | (refine wpList_loadMd rfl _ rfl (x, ly) HRA.out rfl ?_) | (refine wpList_allocJ rfl rfl ?_; intro w1 hBy) | (refine wpList_storeJ rfl _ _ rfl rfl hBy.row rfl (x, ly) SLX.out rfl rfl ?_; intro w2 hSx))
   have HB2 : Hid (Below wr.heap.size wr w2) := hid (hSx.below hBy.be (Nat.le_refl _) hBy.be.size)
   obtain ⟨gx, hgx⟩ : ∃ q, wr.heap.size = q := ⟨_, rfl⟩
   have hxr := hSx.row
   rw [hgx] at hxr ⊢
   have HXR := hid hxr
   have HGX0 := hid hgx
   clear hBy hSx hxr hgx
   have HBW2 : Hid (Below wA.heap.size wA w2) := hid (HBW.out.trans (HB2.out.mono HBW.out.size))
   go_upto_region 4 with (refine (itoaJ_calls w2 (HT.out.below HBW2.out) (i : Int) (by omega) (by have := HLN.out; omega)).mono ?_; rintro e w3 ⟨rfl, hb3⟩)
   have HXR3 := hid (HXR.out.below hb3)
   have HB3 : Hid (Below wr.heap.size wr w3) := hid (HB2.out.trans (hb3.mono HB2.out.size))
   have HBW3 : Hid (Below wA.heap.size wA w3) := hid (HBW2.out.trans (hb3.mono HBW2.out.size))
   clear hb3 HXR HB2 HBW2
   obtain ⟨b5, hb5⟩ : ∃ b, (r1.1.kind == 5) = b := ⟨_, rfl⟩
   obtain ⟨_, k0, k7⟩ := HC6.out _ HBW3.out
   go_upto_if 18 with fail
   have HB5 := hid hb5
   clear hb5 k0
   go_cut [5] from 19 to 23 (fun s5 wc => s5 = .string ⟨(labV r1.1 i).toArray⟩ ∧ w3 = wc)
   case first =>
    cases b5
    rotate_left
    ·
     have h5 : r1.1.kind = 5 := beq_iff_eq.1 HB5.out
     have hnl := kind_lens HGD.out h5
     obtain ⟨s, hs⟩ : ∃ s, r1.1.ns[i]? = some s := ⟨_, List.getElem?_eq_getElem (by omega)⟩
     obtain ⟨gn, fn, cn, hnv, hns⟩ := HNM.out h5 i s hs
     rw [hnv] at k7
     have n0c := hns _ HBW3.out
     have hlni : (i : Int) < (r1.1.ns.length : Int) := by omega
     have HLB : Hid (labV r1.1 i = s) := hid (by rw [labV, if_pos h5, List.getD_eq_getElem?_getD, hs]; rfl)
     clear h5 hnl hs hnv hns
     go_wp2_with fail
     go_meet
     exact ⟨by rw [HLB.out], rfl⟩
    have HLB : Hid (labV r1.1 i = Lib.itoa (i : Int)) := hid (by rw [labV, if_neg (beq_eq_false_iff_ne.1 HB5.out)])
    go_wp2_with fail
    go_meet
    exact ⟨by rw [HLB.out], rfl⟩
   obtain ⟨rfl, rfl⟩ := hcut
   go_upto_region 6 with fail
   refine (wpIn_wide (n := m)).1 ?_
   gi_wp2_with (refine wpListIn_loadJ rfl _ rfl (x, ly) HXR3.out rfl ?_)
   refine ⟨trivial, fun h => (by cases h), ?_⟩
   refine (callsIn_wide.2 (copied_calls HJX.out false w3 HBW3.out (good_mem HGD.out (List.mem_of_getElem? HX.out)).1 (Nat.le_trans (good_mem HGD.out (List.mem_of_getElem? HX.out)).2 (Nat.le_trans HSZ.out (by decide))))).mono ?_
   rintro e w4 ⟨lv, nv, rfl, hJ4, hb4⟩
   have HB4 : Hid (Below wr.heap.size wr w4) := hid (HB3.out.trans (hb4.mono HB3.out.size))
   obtain ⟨fnY, tmY, asY, bdY, hy, hR⟩ := HY.out pre (labV r1.1 i, (cpJ false x, lv, nv)) w4 (HGJ.out _ _ _ HJP.out HB4.out) ⟨by rw [HPI.out], by rw [HPI.out]; exact HX.out, hJ4.mono (fun k _ hk => Nat.le_trans HBR.out.size (Nat.le_trans HB3.out.size hk))⟩
   have hy2 : (Instr.yield l #[.string ⟨(labV r1.1 i).toArray⟩, jval (cpJ false x, lv, nv)]).run Tryz.prog w4 = _ := hy
   have HR := hid hR
   clear hy hJ4 hb4 hR
   gi_wp2
   refine ⟨fun h => (by cases h), HR.out.mono ?_⟩
   rintro e w5 (⟨rfl, hJ5, hk5⟩ | ⟨rfl, hx5⟩)
   ·
    gi_wp2
    go_wp2_with fail
    go_roundg (r1.1.l.length - (i + 1))
    case measure => have := Hki.out; omega
    exact ⟨i + 1, _, rfl, by omega, by go_num, by rw [List.length_append, List.length_singleton, HPI.out], hJ5, HBR.out.trans ((HB4.out.mono (Nat.le_trans HBA.out.2.1 HBR.out.size)).trans hk5)⟩
   gi_wp2
   go_wp2_with fail
   refine bodyPost_ret (results_none rfl _ _ _) rfl ?_
   exact ⟨⟨_, rfl⟩, .inr ⟨_, trivial, hx5⟩⟩
  have hlti : ¬ (i : Int) < (r1.1.l.length : Int) := by omega
  go_wp2_with fail
  go_end0
  exact ⟨⟨_, rfl⟩, .inl ⟨pre, by rw [HPI.out]; omega, HJP.out⟩⟩
open Go.RowKit
variable {P : Program} {ops : Array Oper} {Q : Exit → Act → World → Prop} {md : Region.Mode} {l n : Nat}
def NoDefer (ops : Array Oper) : Bool := ops.all (fun o => match o.op with | .defer _ => false | _ => true)
theorem NoDefer.at {i : Nat} {o : Oper} (h : NoDefer ops = true) (ho : ops[i]? = some o) : ∀ c, o.op ≠ .defer c := by
 intro c e
 unfold NoDefer at h
 obtain ⟨hi, rfl⟩ := Array.getElem?_eq_some_iff.1 ho
 have h1 := Array.all_eq_true.1 h i hi
 rw [e] at h1
 cases h1
theorem oper_in {o : Oper} {a : Act} {w : World} {K : Act → World → Prop} (hd : ∀ c, o.op ≠ .defer c) (h : o.wp P a w K Q) : o.wpIn (Fence.wide.inRound l) n P a w K Q := by
 refine ⟨fun _ _ => trivial, ?_⟩
 rw [Oper.semAt_eq _ _ _ hd]
 unfold Oper.wp at h
 generalize (execOp a.eval o).run P w = r at h ⊢
 cases r with
 | ok nx w' =>
  cases nx with
  | value v => exact h
  | skip => exact h
  | defer d => exact h
  | enter f args => exact ⟨fun e => (by cases e), CallsIn.inRound l (callsIn_wide.2 h)⟩
  | row rw args =>
   refine ⟨fun e => (by cases e), fun c cs _ => ?_⟩
   obtain ⟨v, w2, h1, h2⟩ := h c cs
   exact ⟨v, w2, h1, (stepsIn_wide.2 h2 : StepsIn (Machine.fenced P Fence.wide) P _ _)⟩
  | _ => exact h.elim
 | halt hl w' => cases hl <;> first | exact h | exact h.elim
theorem any_in (hd : NoDefer ops = true) (hq : ¬ LetsOut Q) : ∀ (fuel : Nat) (listed : Array Bool) (a : Act) (w : World), wpAny P md ops Q fuel listed a w → wpAnyIn (Fence.wide.inRound l) n P md ops Q fuel listed a w
 | 0, _, _, _, h => h
 | fuel + 1, listed, a, w, h => by
  refine ⟨h.1, fun i hi => ?_⟩
  have h1 := h.2 i hi
  unfold wpOp at h1
  unfold wpOpIn
  cases ho : ops[i]? with
  | none => rw [ho] at h1; exact any_in hd hq fuel _ a w h1
  | some o =>
   rw [ho] at h1
   simp only at h1 ⊢
   by_cases hw : Region.wanted o (yielded ops a.tmps) = true
   ·rw [if_pos hw] at h1 ⊢
    rcases h1 with h1 | h1
    ·exact oper_in (NoDefer.at hd ho) (Oper.wp_mono (fun a w h => any_in hd hq fuel _ a w h) h1)
    exact absurd h1.2 hq
   rw [if_neg hw] at h1 ⊢
   exact ⟨fun _ _ => trivial, any_in hd hq fuel _ _ w h1⟩
theorem list_in (hd : NoDefer ops = true) (hq : ¬ LetsOut Q) : ∀ (r : List Oper) (a : Act) (w : World), (∀ o ∈ r, o ∈ ops) → wpList P ops Q r a w → wpListIn (Fence.wide.inRound l) n P ops Q r a w
 | [], _, _, _, h => h
 | o :: r, a, w, hm, h => by
  unfold wpList at h
  unfold wpListIn
  by_cases hw : Region.wanted o (yielded ops a.tmps) = true
  ·rw [if_pos hw] at h ⊢
   rcases h with h | h
   ·obtain ⟨i, hi, he⟩ := Array.mem_iff_getElem.1 (hm o (by simp))
    exact oper_in (NoDefer.at hd (i := i) (by rw [Array.getElem?_eq_getElem hi, he])) (Oper.wp_mono (fun a w h => list_in hd hq r a w (fun o ho => hm o (by simp [ho])) h) h)
   exact absurd h.2 hq
  rw [if_neg hw] at h ⊢
  exact ⟨fun _ _ => trivial, list_in hd hq r _ w (fun o ho => hm o (by simp [ho])) h⟩
theorem region_in {id : Nat} {a : Act} {w : World} (hd : NoDefer ops = true) (hq : ¬ LetsOut Q) (h : wpList P ops Q ops.toList a w) : (Code.region id ops false).wpIn (Fence.wide.inRound l) n P Q a w :=
 wpIn_region_list (list_in hd hq _ a w (fun o ho => by simpa using ho) h)
theorem region_in_held {S : World → Prop} {id : Nat} {a : Act} {w : World} (hd : NoDefer ops = true) (hq : ¬ LetsOut Q) (hm : P.follows .mixedOrders = true) (hS : S w.drew)
  (h : S w.drew → wpAnyH P .any ops Q S ops.size (Array.replicate ops.size false) a w.drew) : (Code.region id ops true).wpIn (Fence.wide.inRound l) n P Q a w :=
 wpIn_region_any hm (any_in hd hq _ _ _ _ (wpAny_of_held _ _ _ _ (h hS)))
open Go.RowKit
def SplTo (S : Nat → Prop) (w : World) (e : Ending) (w' : World) : Prop := e = .returned (.tuple #[]) ∧ Zap S w w'
theorem wpList_store8At {w : World} {ops : Array Oper} {rest : List Oper} {o : Oper} {a : Act} {Q : Exit → Act → World → Prop} (hgd : o.guard = none) (x y : Operand) (ho : o.op = .store 30 x y) (hd : o.dst = none)
  {g off : Nat} (r : JR) (hs : SlJ r) (hc : ∀ j, j < 8 → (w.cell? ⟨g, off + j, none⟩).isSome = true) (hf : ∀ j, j < 8 → w.frozen? ⟨g, off + j, none⟩ = false)
  (hx : a.eval x = .pointer (some ⟨g, off, none⟩)) (hy : a.eval y = jval r) (hK : wpList Tryz.prog ops Q rest a (w.setCells g off (jcells r))) : wpList Tryz.prog ops Q (o :: rest) a w :=
 wpList_plain hgd fun _ hK' => oper_store8At x y ho hd _ _ _ _ _ _ _ _ hc hf hx hy (by unfold ones8; rw [hs.1, hs.2]; rfl) (hK' _ _ hK)
structure SplI (S : Nat → Prop) (h g : Nat) (R : JR) (w wr : World) : Prop where
 zap : Zap S w wr
 box : RowAt wr g (jcells R)
 spo : Spo wr S (h + 1) R.2.1 R.2.2
theorem SplI.step {S : Nat → Prop} {h g : Nat} {R : JR} {w wr w' : World} (hi : SplI S h g R w wr) (hg : ¬ S g) (hz : Zap S wr w') : SplI S h g R w w' :=
 ⟨hi.zap.trans hz, hi.box.apart hz.apart hg, Spo.zap hz _ _ _ hi.spo⟩
theorem spoil_calls : ∀ (h : Nat) (R : JR) (w : World) (S : Nat → Prop), (∀ k, S k → k < w.heap.size) → Spo w S h R.2.1 R.2.2 → Calls Tryz.prog 27 #[jval R] w (SplTo S w) := by
 intro h
 induction h with
 | zero => intro R w S _ hs; rw [Spo] at hs; exact hs.elim
 | succ h ih =>
  intro R w S hS hsp
  obtain ⟨lp, n, c, q, m, e, hl, hn, hnn, hmm⟩ := hsp.forms
  have HIH := hid ih
  have HS := hid hS
  have HSP := hid hsp
  have HR : Hid (R.2.1 = .slice lp n c ∧ R.2.2 = .slice q m e) := hid ⟨hl, hn⟩
  clear ih hS hsp hl hn
  have HCC : Hid (∀ (W : World) (g : Nat), RowAt W g (jcells R) → W.cell? ⟨g, 6, none⟩ = some (.slice lp n c) ∧ W.cell? ⟨g, 7, none⟩ = some (.slice q m e)) := hid (fun W g hr => ⟨by rw [hr.cell 6 _ rfl, HR.out.1], by rw [hr.cell 7 _ rfl, HR.out.2]⟩)
  go_enter Tryz.func27, Tryz.ntmps27
  go_upto_region 1 with (refine wpList_boxJ rfl _ rfl R rfl ?_; intro w1 hBx)
  obtain ⟨g, hg⟩ : ∃ g, w.heap.size = g := ⟨_, rfl⟩
  have HNG : Hid (¬ S g) := hid (fun h9 => by have := HS.out g h9; omega)
  have HI : Hid (SplI S h g R w w1) := hid (by
   have hz : Zap S w w1 := Zap.below hBx.be
   have hr := hBx.row
   rw [hg] at hr
   exact ⟨hz, hr, Spo.zap hz _ _ _ HSP.out⟩)
  rw [hg]
  have HSG : Hid (∀ W, Zap S w W → ∀ k, S k → k < W.heap.size) := hid (fun W hz k hk => Nat.lt_of_lt_of_le (HS.out k hk) hz.size)
  clear hBx hg
  go_wp2_with fail
  go_loopg [2] n (fun kk s2 wr => ∃ i : Nat, kk = n - i ∧ i ≤ n ∧ s2 = .int .i64 (i : Int) ∧ SplI S h g R w wr)
  case atStart => exact ⟨0, rfl, Nat.zero_le _, rfl, HI.out⟩
  clear HI
  obtain ⟨i, hki, hi, rfl, hI⟩ := hrel
  have Hki := hid hki
  have HI := hid hI
  clear hki hI
  obtain ⟨k6, k7⟩ := HCC.out _ _ HI.out.box
  by_cases hlt : i < n
  ·
   have hlti : (i : Int) < (n : Int) := by omega
   obtain ⟨gl, rfl, hSg, hT, hk⟩ := Spo.list (by have h9 := HI.out.spo; rw [HR.out.1] at h9; exact h9) (by omega)
   obtain ⟨r, hr, hsr⟩ := hk i hlt
   have HSR := hid hsr
   have HSL := hid hSg
   clear hk hT hsr hSg
   go_wp2_with (refine wpList_loadMd rfl _ rfl r hr rfl ?_)
   refine (HIH.out r wr S (HSG.out _ HI.out.zap) HSR.out).mono ?_
   rintro ez w2 ⟨rfl, hz⟩
   have HI2 := hid (HI.out.step HNG.out hz)
   clear hz hr HSR k6 k7
   obtain ⟨k6, k7⟩ := HCC.out _ _ HI2.out.box
   obtain ⟨gl2, e2, _, hT, hk⟩ := Spo.list (by have h9 := HI2.out.spo; rw [HR.out.1] at h9; exact h9) (by omega)
   cases e2
   obtain ⟨r2, hr2, _⟩ := hk i hlt
   have HCE : Hid (∀ j, j < 8 → (w2.cell? ⟨gl, i * 8 + j, none⟩).isSome = true) := hid (fun j hj => rangeAt_some hr2 j hj)
   have HFE : Hid (∀ j, j < 8 → w2.frozen? ⟨gl, i * 8 + j, none⟩ = false) := hid (fun j _ => hT.free _)
   clear hk hT hr2
   go_upto_region 3 with (refine wpList_store8At rfl _ _ rfl rfl jneg ⟨rfl, rfl⟩ HCE.out HFE.out rfl rfl ?_)
   have HI3 : Hid (SplI S h g R w (w2.setCells gl (i * 8) (jcells jneg))) := hid (HI2.out.step HNG.out (Zap.putJ HSL.out HCE.out))
   generalize w2.setCells gl (i * 8) (jcells jneg) = w3 at *
   clear HI2 HCE HFE k6 k7
   go_wp2_with fail
   go_roundg (n - (i + 1))
   case measure => have := Hki.out; omega
   exact ⟨i + 1, rfl, by omega, by go_num, HI3.out⟩
  have hlti : ¬ (i : Int) < (n : Int) := by omega
  clear hlt Hki
  have HI0 := HI
  clear k6 k7
  obtain ⟨k6, k7⟩ := HCC.out _ _ HI0.out.box
  go_wp2_with fail
  go_loopg [3] m (fun kk s3 wv => ∃ j : Nat, kk = m - j ∧ j ≤ m ∧ s3 = .int .i64 (j : Int) ∧ SplI S h g R w wv)
  case atStart => exact ⟨0, rfl, Nat.zero_le _, rfl, HI0.out⟩
  clear HI HI0 k6 k7
  obtain ⟨j, hkj, hj, rfl, hI⟩ := hrel
  have Hkj := hid hkj
  have HI := hid hI
  clear hkj hI
  obtain ⟨k6, k7⟩ := HCC.out _ _ HI.out.box
  by_cases hlu : j < m
  ·
   have hluj : (j : Int) < (m : Int) := by omega
   obtain ⟨gq, rfl, hSq, hT, hk⟩ := Spo.names (by have h9 := HI.out.spo; rw [HR.out.2] at h9; exact h9) (by omega)
   obtain ⟨u, hu⟩ := Option.isSome_iff_exists.1 (hk j hlu)
   have hf := hT.free j
   have HSL := hid hSq
   have HT := hid hT
   clear hk hT hSq
   go_upto_region 8 with fail
   have HI3 := hid (HI.out.step HNG.out (Zap.putN (i := j) HSL.out HT.out (.string ⟨#[63]⟩)))
   clear HI hu hf k6 k7 HT
   go_wp2_with fail
   go_roundg (m - (j + 1))
   case measure => have := Hkj.out; omega
   exact ⟨j + 1, rfl, by omega, by go_num, HI3.out⟩
  have hluj : ¬ (j : Int) < (m : Int) := by omega
  go_wp2_with fail
  refine bodyPost_ret (results_none rfl _ _ _) rfl ?_
  exact ⟨rfl, HI.out.zap⟩
end Go.Proofs.YtfclfaidmipjpaaGreatDoor
