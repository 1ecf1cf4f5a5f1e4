/- Texts of this claim, joined: To3. -/
import Derived.Test.YtfclfaidmipjpaaGreatDoorCo13
namespace Go.Proofs.YtfclfaidmipjpaaGreatDoor
set_option maxRecDepth 100000
set_option maxHeartbeats 20000000
open Go.Lib (hid)
open Go.RowKit
theorem told_calls {w0 : World} {S1 : Nat → Prop} {r1 : JR} (h1 : JV w0 S1 r1) (B : Nat) (hB0 : w0.heap.size ≤ B) (hTab : Tab w0) : ∀ (w : World) (v : Value) (bs : List UInt8), Below w0.heap.size w0 w → FB w B v bs → B ≤ w.heap.size → goodJ r1.1 = true → szJ r1.1 ≤ 100000000 → bs.length + (toldJ r1.1).length ≤ 9000000000 →
  Calls Tryz.prog 67 #[v, jval r1] w (AppTo B w (bs ++ toldJ r1.1)) := by
 induction h1 with
 | mk r1 xs hn1 hl1 hs1 ih =>
  intro w v bs hb hF hBw hgood hsz hlen
  obtain ⟨⟨k, b, ⟨ng, dg, ex⟩, t, l, ns⟩, lv, nv⟩ := r1
  have hnw := hn1.below hb
  obtain ⟨p1, c1, hp1, hc1, hm1, hL1⟩ := hl1
  change lv = Value.slice p1 l.length c1 at hp1
  obtain ⟨q1, e1, hq1, hcn1, hk1, hN1⟩ := hn1
  change nv = Value.slice q1 ns.length e1 at hq1
  subst hp1 hq1
  simp only [J.l] at hm1 hL1 hc1
  simp only [J.ns] at hN1
  have HN := hid hN1
  simp only [szJ] at hsz
  have hln : l.length ≤ 100000000 := by have := szL_len l; omega
  have hnn : ns.length ≤ 100000000 := by have := szN_len ns; omega
  have htl : t.length ≤ 100000000 := by omega
  have hdl : dg.length ≤ 100000000 := by omega
  have hns : ∀ s ∈ ns, s.length ≤ 100000000 := fun s hs => by have := szN_in hs; omega
  have HNS := hid hns
  have HL := hid hL1
  have HNW := hid hnw
  have HTab := hid (hTab.below hb)
  have HB := hid hb
  have HIH := hid ih
  have HJS := hid hs1
  have HF := hid hF
  have HG := hid hgood
  have HLEN := hid hlen
  have HSZ : Hid (szL l ≤ 100000000) := hid (by omega)
  clear hns hL1 hnw hb ih hs1 hN1 hcn1 hk1 hsz hm1 hc1 hF hgood hlen
  obtain ⟨s0, hs0⟩ : ∃ s0 : Value, Value.slice p1 l.length c1 = s0 := ⟨_, rfl⟩
  simp only [jval, J.kind, J.b, J.n, J.t]
  go_enter Tryz.func67, Tryz.ntmps67
  clear hs0 s0
  go_upto_region 1 with fail
  have hv1 : RowAt (w.alloc (Obj.cells #[Value.int IntKind.i64 k, Value.bool b, Value.bool ng, Value.string { data := dg.toArray }, Value.int IntKind.i64 ex, Value.string { data := t.toArray }, Value.slice p1 l.length c1, Value.slice q1 ns.length e1] 30)) w.heap.size [Value.int IntKind.i64 k, Value.bool b, Value.bool ng, Value.string { data := dg.toArray }, Value.int IntKind.i64 ex, Value.string { data := t.toArray }, .slice p1 l.length c1, .slice q1 ns.length e1] := RowAt.new w #[Value.int IntKind.i64 k, Value.bool b, Value.bool ng, Value.string { data := dg.toArray }, Value.int IntKind.i64 ex, Value.string { data := t.toArray }, Value.slice p1 l.length c1, Value.slice q1 ns.length e1] 30
  have hb1 : Below B w (w.alloc (Obj.cells #[Value.int IntKind.i64 k, Value.bool b, Value.bool ng, Value.string { data := dg.toArray }, Value.int IntKind.i64 ex, Value.string { data := t.toArray }, Value.slice p1 l.length c1, Value.slice q1 ns.length e1] 30)) := (Below.refl _ _).alloc hBw _
  have ho1 : Lib.OthersKept 5 none w (w.alloc (Obj.cells #[Value.int IntKind.i64 k, Value.bool b, Value.bool ng, Value.string { data := dg.toArray }, Value.int IntKind.i64 ex, Value.string { data := t.toArray }, Value.slice p1 l.length c1, Value.slice q1 ns.length e1] 30)) := (Lib.OthersKept.refl _ _ _).alloc _
  have hf1 : FB (w.alloc (Obj.cells #[Value.int IntKind.i64 k, Value.bool b, Value.bool ng, Value.string { data := dg.toArray }, Value.int IntKind.i64 ex, Value.string { data := t.toArray }, Value.slice p1 l.length c1, Value.slice q1 ns.length e1] 30)) B v bs := HF.out.alloc _
  have hz1 : (w.alloc (Obj.cells #[Value.int IntKind.i64 k, Value.bool b, Value.bool ng, Value.string { data := dg.toArray }, Value.int IntKind.i64 ex, Value.string { data := t.toArray }, Value.slice p1 l.length c1, Value.slice q1 ns.length e1] 30)).heap.size = w.heap.size + 1 := by simp
  have hty : (w.alloc (Obj.cells #[Value.int IntKind.i64 k, Value.bool b, Value.bool ng, Value.string { data := dg.toArray }, Value.int IntKind.i64 ex, Value.string { data := t.toArray }, Value.slice p1 l.length c1, Value.slice q1 ns.length e1] 30)).heap[w.heap.size]? = some (.cells #[Value.int IntKind.i64 k, Value.bool b, Value.bool ng, Value.string { data := dg.toArray }, Value.int IntKind.i64 ex, Value.string { data := t.toArray }, Value.slice p1 l.length c1, Value.slice q1 ns.length e1] 30 (0, 0)) := heap_alloc_new w _
  have htb : Tab (w.alloc (Obj.cells #[Value.int IntKind.i64 k, Value.bool b, Value.bool ng, Value.string { data := dg.toArray }, Value.int IntKind.i64 ex, Value.string { data := t.toArray }, Value.slice p1 l.length c1, Value.slice q1 ns.length e1] 30)) := HTab.out.below ((Below.refl _ _).alloc (Nat.le_refl _) _)
  have HG2 : Hid (∃ g, w.heap.size = g) := hid ⟨_, rfl⟩
  obtain ⟨g1, hg1⟩ := HG2.out
  rw [hg1] at hv1 hz1 hty hBw ⊢
  have HW := hid hg1
  have HV1 := hid hv1
  have HB1 := hid hb1
  have HO1 := hid ho1
  have HF1 := hid hf1
  have HTY := hid hty
  have HTB := hid htb
  clear HG2 hg1 hv1 hb1 ho1 hf1 hty htb HTab HF
  generalize (w.alloc (Obj.cells #[Value.int IntKind.i64 k, Value.bool b, Value.bool ng, Value.string { data := dg.toArray }, Value.int IntKind.i64 ex, Value.string { data := t.toArray }, Value.slice p1 l.length c1, Value.slice q1 ns.length e1] 30)) = w1 at *
  have v0 : _ = some (Value.int .i64 k) := HV1.out.cell 0 _ rfl
  have v1 : _ = some (Value.bool b) := HV1.out.cell 1 _ rfl
  have v2 : _ = some (Value.bool ng) := HV1.out.cell 2 _ rfl
  have v3 : _ = some (Value.string ⟨dg.toArray⟩) := HV1.out.cell 3 _ rfl
  have v4 : _ = some (Value.int .i64 ex) := HV1.out.cell 4 _ rfl
  have v5 : _ = some (Value.string ⟨t.toArray⟩) := HV1.out.cell 5 _ rfl
  by_cases hk0 : k = 0
  ·
   subst hk0
   have hT : Hid (toldJ (.mk 0 b ⟨ng, dg, ex⟩ t l ns) = wNul) := hid (by simp [toldJ])
   have hbl : bs.length + 4 ≤ 100000000000 := by have := HLEN.out; omega
   go_wp2_with (at_builtin; refine wpList_append_FS rfl _ _ rfl B _ _ rfl HF1.out wNul rfl ?c1 ?c2 ?_)
   case c1 => exact hbl
   case c2 => omega
   intro v9 w9 hF9 hB9 hO9
   go_wp2_with fail
   go_ret
   exact ⟨v9, rfl, by rw [hT.out]; exact hF9, HB1.out.trans hB9, HO1.out.trans hO9⟩
  have n0 : ((k : Int) == 0) = false := by rw [beq_eq_false_iff_ne]; exact hk0
  by_cases hk1 : k = 1
  ·
   subst hk1
   have hT : Hid (toldJ (.mk 1 b ⟨ng, dg, ex⟩ t l ns) = boolS b) := hid (by simp [toldJ])
   have hbl : bs.length ≤ 10000000000 := by have := HLEN.out; omega
   clear n0 hk0
   go_wp2_with fail
   refine (apb_calls B v bs b w1 HF1.out hbl (by omega)).mono ?_
   rintro e w9 ⟨v9, rfl, hF9, hB9, hO9⟩
   go_wp2_with fail
   go_ret
   exact ⟨v9, rfl, by rw [hT.out]; exact hF9, HB1.out.trans hB9, HO1.out.trans hO9⟩
  have n1 : ((k : Int) == 1) = false := by rw [beq_eq_false_iff_ne]; exact hk1
  by_cases hk2 : k = 2
  ·
   subst hk2
   have hT : Hid (toldJ (.mk 2 b ⟨ng, dg, ex⟩ t l ns) = (textS ⟨ng, dg, ex⟩).1) := hid (by simp [toldJ])
   have hbl : bs.length + (textS ⟨ng, dg, ex⟩).1.length ≤ 100000000000 := by have := HLEN.out; rw [hT.out] at this; omega
   clear n0 hk0 n1 hk1
   go_wp2_with fail
   refine (text_calls w1 ⟨ng, dg, ex⟩ (by show dg.length ≤ _; omega) HTB.out).mono ?_
   rintro e w8 ⟨rfl, hb8⟩
   have HF8 := hid (HF1.out.below hb8)
   have HB8 := hid (HB1.out.trans (hb8.mono (by omega)))
   have HO8 := hid (kept_below HO1.out hb8)
   have hz8 : B ≤ w8.heap.size := by have := hb8.size; omega
   generalize (textS ⟨ng, dg, ex⟩).1 = m at *
   generalize (textS ⟨ng, dg, ex⟩).2 = m2 at *
   clear hb8
   go_wp2_with (at_builtin; refine wpList_append_FS rfl _ _ rfl B _ _ rfl HF8.out m rfl ?d1 ?d2 ?_)
   case d1 => exact hbl
   case d2 => exact hz8
   intro v9 w9 hF9 hB9 hO9
   go_wp2_with fail
   go_ret
   exact ⟨v9, rfl, by rw [hT.out]; exact hF9, HB8.out.trans hB9, HO8.out.trans hO9⟩
  have n2 : ((k : Int) == 2) = false := by rw [beq_eq_false_iff_ne]; exact hk2
  by_cases hk3 : k = 3
  ·
   subst hk3
   have hT : Hid (toldJ (.mk 3 b ⟨ng, dg, ex⟩ t l ns) = quoT t) := hid (by simp [toldJ])
   have hbl : bs.length + 6 * t.length ≤ 10000000000 := by have := HLEN.out; omega
   have hvt : Lib.validD t = true := head_valid HG.out
   clear n0 hk0 n1 hk1 n2 hk2
   go_wp2_with fail
   refine (quoteP_calls B v bs t w1 HF1.out hvt hbl (by omega)).mono ?_
   rintro e w9 ⟨v9, rfl, hF9, hB9, hO9⟩
   go_wp2_with fail
   go_ret
   exact ⟨v9, rfl, by rw [hT.out]; exact hF9, HB1.out.trans hB9, HO1.out.trans hO9⟩
  have n3 : ((k : Int) == 3) = false := by rw [beq_eq_false_iff_ne]; exact hk3
  have hk45 := head_kind HG.out hk0 hk1 hk2 hk3
  have hT : Hid (toldJ (.mk k b ⟨ng, dg, ex⟩ t l ns) = (if k = 5 then [123] else [91]) ++ toldL (decide (k = 5)) true l ns ++ (if k = 5 then [125] else [93])) := hid (by rw [toldJ, if_neg hk0, if_neg hk1, if_neg hk2, if_neg hk3])
  go_upto_region 12 with fail
  go_cut [41] from 39 to 41 (fun s41 wc => s41 = .bool (decide (k = 5)) ∧ w1 = wc)
  case first =>
   go_wp2_with fail
   go_meet
   exact ⟨by rcases hk45 with rfl | ⟨rfl, _⟩ <;> rfl, rfl⟩
  obtain ⟨rfl, rfl⟩ := hcut
  obtain ⟨o5, ho5⟩ : ∃ o5, decide (k = 5) = o5 := ⟨_, rfl⟩
  rw [ho5] at hT ⊢
  have HO5 := hid ho5
  clear ho5
  have HZ1 := hid hz1
  have HJ1 : Hid (JBlk w1 g1) := hid ⟨_, _, HTY.out⟩
  clear hz1 n0 n1 n2 n3 hk0 hk1 hk2 hk3 v1 v2 v3 v4 v5
  cases o5 with
  | true =>
   obtain ⟨rfl, hnl, hun⟩ : k = 5 ∧ ns.length = l.length ∧ unlikeB ns = true := by
    have h9 : k = 5 := by simpa using HO5.out
    rcases hk45 with h8 | h8
    ·omega
    exact h8
   have HK := hid (And.intro hnl hun)
   clear hnl hun
   have HT2 : Hid (toldJ (.mk 5 b ⟨ng, dg, ex⟩ t l ns) = [123] ++ toldL true true l ns ++ [125]) := hid (by rw [hT.out]; rfl)
   clear hT HO5
   have gx : ∀ h, (⟨#[123, 125]⟩ : ByteArray)[0]'h = 123 := fun _ => rfl
   have gy : (123 : UInt8).toNat = 123 := rfl
   go_upto_region 14 with fail
   go_upto_region 15 with (at_builtin; refine wpList_append_F rfl _ _ rfl B _ _ rfl HF1.out [123] _ rfl 1 rfl rfl ?e1true ?e2true ?_)
   case e1true => have := HLEN.out; omega
   case e2true => have := HZ1.out; omega
   intro v6 w6 hF6 hB6 hO6
   clear gx gy v0
   have HF6 := hid hF6
   have HB6 := hid hB6
   have HO6 := hid hO6
   clear hF6 hB6 hO6
   have v6c : _ = some (Value.slice p1 l.length c1) := (HV1.out.kept HJ1.out HO6.out).cell 6 _ rfl
   go_wp2_with fail
   go_loopg [0, 50] l.length (fun kk s0 s50 wr => ∃ (i : Nat) (vv : Value), kk = l.length - i ∧ i ≤ l.length ∧ vv = s0 ∧ s50 = .int .i64 (i : Int) ∧ FB wr B vv ((bs ++ [123]) ++ toldL true true (l.take i) ns) ∧ Below B w1 wr ∧ Lib.OthersKept 5 none w1 wr)
   case atStart => exact ⟨0, _, rfl, Nat.zero_le _, rfl, rfl, by rw [List.take_zero, toldL_nil, List.append_nil]; exact HF6.out, HB6.out, HO6.out⟩
   obtain ⟨i, vv, hki, hi, rfl, rfl, hFr, hBr, hOr⟩ := hrel
   have Hki := hid hki
   have HFr := hid hFr
   have HBr := hid hBr
   have HOr := hid hOr
   clear hki hFr hBr hOr HF6 HB6 HO6 v6c
   have hzr : B ≤ wr.heap.size := by have h1 := HBr.out.size; have h2 := HZ1.out; omega
   by_cases hlt : i < l.length
   ·
    have hlti : (i : Int) < (l.length : Int) := by omega
    obtain ⟨x, hx⟩ : ∃ x, l[i]? = some x := ⟨_, List.getElem?_eq_getElem hlt⟩
    obtain ⟨gl, fl, rfl, _, hgl, hcs⟩ := HL.out (by omega)
    have HBW : Hid (Below w0.heap.size w0 wr) := hid (HB.out.trans ((HB1.out.trans HBr.out).mono hB0))
    have HX := hid hx
    have hra : wr.rangeAt gl (fl + i * 8) (jcells (x, xs i)) := fun c v hc => by
     have hc8 : c < 8 := (List.getElem?_eq_some_iff.1 hc).1
     rw [HBW.out.cell (p := ⟨gl, fl + i * 8 + c, none⟩) hgl, hcs i x hx c hc8]; exact hc
    have HRA := hid hra
    have hsx := szL_in hx
    have HTT : Hid (toldL true true (l.take (i + 1)) ns = toldL true true (l.take i) ns ++ ((if i = 0 then [] else [44]) ++ ((quoT (ns.getD i []) ++ [58]) ++ toldJ x))) := hid (by
     have h9 := told_take true l ns i hlt
     rw [List.getElem?_eq_getElem hlt, Option.some.injEq] at hx
     rw [hx] at h9
     exact h9)
    have HTL := hid (toldL_take true l true ns (i + 1))
    have HLN : Hid (bs.length + (toldL true true l ns).length + 2 ≤ 9000000000) := hid (by have h8 := HLEN.out; rw [HT2.out] at h8; simp only [List.length_append, List.length_cons, List.length_nil] at h8; omega)
    have HGX : Hid (goodJ x = true) := hid (good_in HG.out hx)
    clear hra hcs hx hgl
    have HXJ : Hid (∀ (W : World) (v : Value) (bs : List UInt8), Below w0.heap.size w0 W → FB W B v bs → B ≤ W.heap.size → goodJ x = true → szJ x ≤ 100000000 → bs.length + (toldJ x).length ≤ 9000000000 → Calls Tryz.prog 67 #[v, jval (x, xs i)] W (AppTo B W (bs ++ toldJ x))) := hid (HIH.out i x HX.out)
    have HSJ := hid (HJS.out i x HX.out).slJ
    clear HX
    generalize xs i = xi at *
    go_upto_region 17 with fail
    go_upto_region 18 with (first | refine wpList_loadMid rfl _ rfl (x, xi) HRA.out rfl ?_ | (refine wpList_allocJ rfl rfl ?_; intro w8 hBx) | (refine wpList_storeJ rfl _ _ rfl rfl hBx.row rfl (x, xi) HSJ.out rfl rfl ?_; intro w9 hSx))
    have HV9 := hid hSx.row
    have HB9 := hid (hSx.below (hBx.below HBr.out hzr) hzr (Nat.le_trans hzr hBx.be.size))
    have HJB := hid (hSx.blk hBx.blk)
    have HFB := hid (((FB.below HFr.out hBx.be).apartJ hBx.blk hSx.apart))
    have HOB := hid (hSx.kept (HOr.out.trans hBx.kept) HBr.out.size)
    obtain ⟨g9, hg9⟩ : ∃ g, wr.heap.size = g := ⟨_, rfl⟩
    rw [hg9] at HV9 HJB ⊢
    clear hBx hSx hg9 HBr HOr HFr HRA hzr HSJ
    have hz9 : B ≤ w9.heap.size := by have h1 := HB9.out.size; have h2 := HZ1.out; omega
    go_upto_if 56 with fail
    go_cut [0] from 56 to 59 (fun s0 wc => ∃ vv, vv = s0 ∧ FB wc B vv (((bs ++ [123]) ++ toldL true true (l.take i) ns) ++ (if i = 0 then [] else [44])) ∧ Below B w9 wc ∧ Lib.OthersKept 5 none w9 wc)
    case first =>
     by_cases hi0 : i = 0
     ·
      subst hi0
      go_wp2_with fail
      go_meet
      exact ⟨_, rfl, by rw [if_pos trivial, List.append_nil]; exact HFB.out, Below.refl _ _, Lib.OthersKept.refl _ _ _⟩
     have hip : (0 : Int) < (i : Int) := by omega
     go_wp2_with (at_builtin; refine wpList_append_F rfl _ _ rfl B _ _ rfl HFB.out [44] _ rfl 1 rfl rfl ?e3true ?e4true ?_)
     case e3true => have h1 := HLN.out; have h2 := toldL_take true l true ns i; simp only [List.length_append, List.length_cons, List.length_nil]; omega
     case e4true => exact hz9
     intro v7 w7 hF7 hB7 hO7
     go_wp2_with fail
     go_meet
     exact ⟨_, rfl, by rw [if_neg hi0]; simpa using hF7, hB7, hO7⟩
    obtain ⟨v8, rfl, hF8, hB8, hO8⟩ := hcut
    have HFC := hid hF8
    have HBC := hid hB8
    have HOC := hid hO8
    clear hF8 hB8 hO8 HFB
    obtain ⟨L8, hL8⟩ : ∃ L, ((bs ++ [123]) ++ toldL true true (l.take i) ns) ++ (if i = 0 then [] else [44]) = L := ⟨_, rfl⟩
    have HL8 := hid hL8
    rw [hL8] at HFC
    clear hL8
    have HLL : Hid (L8.length + (quoT (ns.getD i [])).length + 1 + (toldJ x).length ≤ 8999999999) := hid (by
     have h1 := HLN.out
     have h2 := HTL.out
     rw [HTT.out] at h2
     rw [← HL8.out]
     simp only [List.length_append, List.length_cons, List.length_nil] at h1 h2 ⊢
     omega)
    have hzc : B ≤ wc.heap.size := Nat.le_trans hz9 HBC.out.size
    have v0c : _ = some (Value.int .i64 5) := (HV1.out.kept HJ1.out (HOB.out.trans HOC.out)).cell 0 _ rfl
    have HBWc : Hid (Below w0.heap.size w0 wc) := hid (HB.out.trans ((HB1.out.trans (HB9.out.trans HBC.out)).mono hB0))
    have v7c : _ = some (Value.slice q1 ns.length e1) := (HV1.out.kept HJ1.out (HOB.out.trans HOC.out)).cell 7 _ rfl
    have hni : i < ns.length := by have := HK.out.1; omega
    have hnii : (i : Int) < (ns.length : Int) := by omega
    obtain ⟨s, hs⟩ : ∃ s, ns[i]? = some s := ⟨_, List.getElem?_eq_getElem hni⟩
    obtain ⟨gn, fn, rfl, _, hgn, hcn⟩ := HN.out (by omega)
    have k0 : _ = some (Value.string ⟨s.toArray⟩) := (HBWc.out.cell (p := ⟨gn, fn + i, none⟩) hgn).trans (hcn i s hs)
    have hvs : Lib.validD s = true := unl_valid ns [] HK.out.2 s (List.mem_of_getElem? hs)
    have hsl : s.length ≤ 100000000 := HNS.out s (List.mem_of_getElem? hs)
    have hgd : ns.getD i [] = s := by rw [List.getD_eq_getElem?_getD, hs]; rfl
    rw [hgd] at HTT HLL
    have HVS := hid hvs
    clear hs hcn hgd hgn hvs
    have hq1 : L8.length + 6 * s.length ≤ 10000000000 := by have := HLL.out; omega
    go_upto_region 21 with fail
    go_wp2_with fail
    refine (quoteP_calls B v8 L8 s wc HFC.out HVS.out hq1 hzc).mono ?_
    rintro e wd ⟨vd, rfl, hFd, hBd, hOd⟩
    have HFD := hid hFd
    have HBD := hid (HBC.out.trans hBd)
    have HOD := hid (HOC.out.trans hOd)
    have hzd : B ≤ wd.heap.size := Nat.le_trans hzc hBd.size
    clear hFd hBd hOd v0c v7c k0 HBWc
    go_upto_region 22 with (at_builtin; refine wpList_append_F rfl _ _ rfl B _ _ rfl HFD.out [58] _ rfl 1 rfl rfl ?e5 ?e6 ?_)
    case e5 => have := HLL.out; simp only [List.length_append]; omega
    case e6 => exact hzd
    intro vf wf hFf hBf hOf
    have HFE := hid hFf
    have HBE := hid (HBD.out.trans hBf)
    have HOE := hid (HOD.out.trans hOf)
    have hze : B ≤ wf.heap.size := Nat.le_trans hzd hBf.size
    clear hFf hBf hOf HFD HBD HOD hzd
    obtain ⟨Ld, hLd⟩ : ∃ L, L8 ++ (quoT s ++ [58]) = L := ⟨_, rfl⟩
    rw [hLd] at HFE
    have HLd := hid hLd
    clear hLd
    have HLF : Hid (Ld.length + (toldJ x).length ≤ 8999999999) := hid (by
     have h1 := HLL.out
     rw [← HLd.out]
     simp only [List.length_append, List.length_cons, List.length_nil]
     omega)
    have HFIN : Hid (Ld ++ toldJ x = (bs ++ [123]) ++ toldL true true (l.take (i + 1)) ns) := hid (by rw [HTT.out, ← HLd.out, ← HL8.out]; simp only [List.append_assoc])
    have HVF : Hid (RowAt wf g9 (jcells (x, xi))) := hid (HV9.out.kept HJB.out HOE.out)
    go_wp2_with (refine wpList_loadJ rfl _ rfl (x, xi) HVF.out rfl ?_)
    refine (HXJ.out wf vf Ld (HB.out.trans ((HB1.out.trans (HB9.out.trans HBE.out)).mono hB0)) HFE.out hze HGX.out (by have := HSZ.out; omega) (by have := HLF.out; omega)).mono ?_
    rintro e wg ⟨vg, rfl, hFg, hBg, hOg⟩
    rw [HFIN.out] at hFg
    have HFG := hid hFg
    have HBG := hid (HB9.out.trans (HBE.out.trans hBg))
    have HOG := hid (HOB.out.trans (HOE.out.trans hOg))
    clear hFg hBg hOg HVF HFE HBE HOE hze
    go_wp2_with fail
    go_roundg (l.length - (i + 1))
    case measure => have := Hki.out; omega
    exact ⟨i + 1, vg, rfl, by omega, rfl, by go_num, HFG.out, HBG.out, HOG.out⟩
   have hlti : ¬ (i : Int) < (l.length : Int) := by omega
   obtain rfl : i = l.length := by omega
   have HFL : Hid (FB wr B vv ((bs ++ [123]) ++ toldL true true l ns)) := hid (by have h9 := HFr.out; rw [List.take_length] at h9; exact h9)
   clear HFr
   have gx : ∀ h, (⟨#[123, 125]⟩ : ByteArray)[1]'h = 125 := fun _ => rfl
   have gy : (125 : UInt8).toNat = 125 := rfl
   have HLN : Hid (bs.length + (toldL true true l ns).length + 2 ≤ 9000000000) := hid (by have h8 := HLEN.out; rw [HT2.out] at h8; simp only [List.length_append, List.length_cons, List.length_nil] at h8; omega)
   go_upto_region 24 with fail
   go_wp2_with (at_builtin; refine wpList_append_F rfl _ _ rfl B _ _ rfl HFL.out [125] _ rfl 1 rfl rfl ?e7true ?e8true ?_)
   case e7true => have := HLN.out; (try simp only [List.length_append, List.length_cons, List.length_nil]); omega
   first | (case e8true => exact hzr) | skip
   intro vh wh hFh hBh hOh
   go_wp2_with fail
   go_ret
   exact ⟨vh, rfl, by rw [HT2.out]; simpa using hFh, HB1.out.trans (HBr.out.trans hBh), HO1.out.trans (HOr.out.trans hOh)⟩
  | false =>
   obtain rfl : k = 4 := by
    have h9 : ¬ k = 5 := by simpa using HO5.out
    rcases hk45 with h8 | h8
    ·exact h8
    exact absurd h8.1 h9
   clear hk45
   have HT2 : Hid (toldJ (.mk 4 b ⟨ng, dg, ex⟩ t l ns) = [91] ++ toldL false true l ns ++ [93]) := hid (by rw [hT.out]; rfl)
   clear hT HO5
   have gx : ∀ h, (⟨#[91, 93]⟩ : ByteArray)[0]'h = 91 := fun _ => rfl
   have gy : (91 : UInt8).toNat = 91 := rfl
   go_upto_region 14 with fail
   go_upto_region 15 with (at_builtin; refine wpList_append_F rfl _ _ rfl B _ _ rfl HF1.out [91] _ rfl 1 rfl rfl ?e1false ?e2false ?_)
   case e1false => have := HLEN.out; omega
   case e2false => have := HZ1.out; omega
   intro v6 w6 hF6 hB6 hO6
   clear gx gy v0
   have HF6 := hid hF6
   have HB6 := hid hB6
   have HO6 := hid hO6
   clear hF6 hB6 hO6
   have v6c : _ = some (Value.slice p1 l.length c1) := (HV1.out.kept HJ1.out HO6.out).cell 6 _ rfl
   go_wp2_with fail
   go_loopg [0, 50] l.length (fun kk s0 s50 wr => ∃ (i : Nat) (vv : Value), kk = l.length - i ∧ i ≤ l.length ∧ vv = s0 ∧ s50 = .int .i64 (i : Int) ∧ FB wr B vv ((bs ++ [91]) ++ toldL false true (l.take i) ns) ∧ Below B w1 wr ∧ Lib.OthersKept 5 none w1 wr)
   case atStart => exact ⟨0, _, rfl, Nat.zero_le _, rfl, rfl, by rw [List.take_zero, toldL_nil, List.append_nil]; exact HF6.out, HB6.out, HO6.out⟩
   obtain ⟨i, vv, hki, hi, rfl, rfl, hFr, hBr, hOr⟩ := hrel
   have Hki := hid hki
   have HFr := hid hFr
   have HBr := hid hBr
   have HOr := hid hOr
   clear hki hFr hBr hOr HF6 HB6 HO6 v6c
   have hzr : B ≤ wr.heap.size := by have h1 := HBr.out.size; have h2 := HZ1.out; omega
   by_cases hlt : i < l.length
   ·
    have hlti : (i : Int) < (l.length : Int) := by omega
    obtain ⟨x, hx⟩ : ∃ x, l[i]? = some x := ⟨_, List.getElem?_eq_getElem hlt⟩
    obtain ⟨gl, fl, rfl, _, hgl, hcs⟩ := HL.out (by omega)
    have HBW : Hid (Below w0.heap.size w0 wr) := hid (HB.out.trans ((HB1.out.trans HBr.out).mono hB0))
    have HX := hid hx
    have hra : wr.rangeAt gl (fl + i * 8) (jcells (x, xs i)) := fun c v hc => by
     have hc8 : c < 8 := (List.getElem?_eq_some_iff.1 hc).1
     rw [HBW.out.cell (p := ⟨gl, fl + i * 8 + c, none⟩) hgl, hcs i x hx c hc8]; exact hc
    have HRA := hid hra
    have hsx := szL_in hx
    have HTT : Hid (toldL false true (l.take (i + 1)) ns = toldL false true (l.take i) ns ++ ((if i = 0 then [] else [44]) ++ (([]) ++ toldJ x))) := hid (by
     have h9 := told_take false l ns i hlt
     rw [List.getElem?_eq_getElem hlt, Option.some.injEq] at hx
     rw [hx] at h9
     exact h9)
    have HTL := hid (toldL_take false l true ns (i + 1))
    have HLN : Hid (bs.length + (toldL false true l ns).length + 2 ≤ 9000000000) := hid (by have h8 := HLEN.out; rw [HT2.out] at h8; simp only [List.length_append, List.length_cons, List.length_nil] at h8; omega)
    have HGX : Hid (goodJ x = true) := hid (good_in HG.out hx)
    clear hra hcs hx hgl
    have HXJ : Hid (∀ (W : World) (v : Value) (bs : List UInt8), Below w0.heap.size w0 W → FB W B v bs → B ≤ W.heap.size → goodJ x = true → szJ x ≤ 100000000 → bs.length + (toldJ x).length ≤ 9000000000 → Calls Tryz.prog 67 #[v, jval (x, xs i)] W (AppTo B W (bs ++ toldJ x))) := hid (HIH.out i x HX.out)
    have HSJ := hid (HJS.out i x HX.out).slJ
    clear HX
    generalize xs i = xi at *
    go_upto_region 17 with fail
    go_upto_region 18 with (first | refine wpList_loadMid rfl _ rfl (x, xi) HRA.out rfl ?_ | (refine wpList_allocJ rfl rfl ?_; intro w8 hBx) | (refine wpList_storeJ rfl _ _ rfl rfl hBx.row rfl (x, xi) HSJ.out rfl rfl ?_; intro w9 hSx))
    have HV9 := hid hSx.row
    have HB9 := hid (hSx.below (hBx.below HBr.out hzr) hzr (Nat.le_trans hzr hBx.be.size))
    have HJB := hid (hSx.blk hBx.blk)
    have HFB := hid (((FB.below HFr.out hBx.be).apartJ hBx.blk hSx.apart))
    have HOB := hid (hSx.kept (HOr.out.trans hBx.kept) HBr.out.size)
    obtain ⟨g9, hg9⟩ : ∃ g, wr.heap.size = g := ⟨_, rfl⟩
    rw [hg9] at HV9 HJB ⊢
    clear hBx hSx hg9 HBr HOr HFr HRA hzr HSJ
    have hz9 : B ≤ w9.heap.size := by have h1 := HB9.out.size; have h2 := HZ1.out; omega
    go_upto_if 56 with fail
    go_cut [0] from 56 to 59 (fun s0 wc => ∃ vv, vv = s0 ∧ FB wc B vv (((bs ++ [91]) ++ toldL false true (l.take i) ns) ++ (if i = 0 then [] else [44])) ∧ Below B w9 wc ∧ Lib.OthersKept 5 none w9 wc)
    case first =>
     by_cases hi0 : i = 0
     ·
      subst hi0
      go_wp2_with fail
      go_meet
      exact ⟨_, rfl, by rw [if_pos trivial, List.append_nil]; exact HFB.out, Below.refl _ _, Lib.OthersKept.refl _ _ _⟩
     have hip : (0 : Int) < (i : Int) := by omega
     go_wp2_with (at_builtin; refine wpList_append_F rfl _ _ rfl B _ _ rfl HFB.out [44] _ rfl 1 rfl rfl ?e3false ?e4false ?_)
     case e3false => have h1 := HLN.out; have h2 := toldL_take false l true ns i; simp only [List.length_append, List.length_cons, List.length_nil]; omega
     case e4false => exact hz9
     intro v7 w7 hF7 hB7 hO7
     go_wp2_with fail
     go_meet
     exact ⟨_, rfl, by rw [if_neg hi0]; simpa using hF7, hB7, hO7⟩
    obtain ⟨v8, rfl, hF8, hB8, hO8⟩ := hcut
    have HFC := hid hF8
    have HBC := hid hB8
    have HOC := hid hO8
    clear hF8 hB8 hO8 HFB
    obtain ⟨L8, hL8⟩ : ∃ L, ((bs ++ [91]) ++ toldL false true (l.take i) ns) ++ (if i = 0 then [] else [44]) = L := ⟨_, rfl⟩
    have HL8 := hid hL8
    rw [hL8] at HFC
    clear hL8
    have HLL : Hid (L8.length + (toldJ x).length ≤ 8999999999) := hid (by
     have h1 := HLN.out
     have h2 := HTL.out
     rw [HTT.out] at h2
     rw [← HL8.out]
     simp only [List.length_append, List.length_cons, List.length_nil] at h1 h2 ⊢
     omega)
    have hzc : B ≤ wc.heap.size := Nat.le_trans hz9 HBC.out.size
    have v0c : _ = some (Value.int .i64 4) := (HV1.out.kept HJ1.out (HOB.out.trans HOC.out)).cell 0 _ rfl
    have HBWc : Hid (Below w0.heap.size w0 wc) := hid (HB.out.trans ((HB1.out.trans (HB9.out.trans HBC.out)).mono hB0))
    have HFE := HFC
    have HBE := HBC
    have HOE := HOC
    have hze := hzc
    clear HFC HBC HOC hzc
    have HLF : Hid (L8.length + (toldJ x).length ≤ 8999999999) := HLL
    have HFIN : Hid (L8 ++ toldJ x = (bs ++ [91]) ++ toldL false true (l.take (i + 1)) ns) := hid (by rw [HTT.out, ← HL8.out]; simp only [List.append_assoc, List.nil_append])
    go_upto_region 22 with fail
    clear v0c HBWc
    have HVF : Hid (RowAt wc g9 (jcells (x, xi))) := hid (HV9.out.kept HJB.out HOE.out)
    go_wp2_with (refine wpList_loadJ rfl _ rfl (x, xi) HVF.out rfl ?_)
    refine (HXJ.out wc v8 L8 (HB.out.trans ((HB1.out.trans (HB9.out.trans HBE.out)).mono hB0)) HFE.out hze HGX.out (by have := HSZ.out; omega) (by have := HLF.out; omega)).mono ?_
    rintro e wg ⟨vg, rfl, hFg, hBg, hOg⟩
    rw [HFIN.out] at hFg
    have HFG := hid hFg
    have HBG := hid (HB9.out.trans (HBE.out.trans hBg))
    have HOG := hid (HOB.out.trans (HOE.out.trans hOg))
    clear hFg hBg hOg HVF HFE HBE HOE hze
    go_wp2_with fail
    go_roundg (l.length - (i + 1))
    case measure => have := Hki.out; omega
    exact ⟨i + 1, vg, rfl, by omega, rfl, by go_num, HFG.out, HBG.out, HOG.out⟩
   have hlti : ¬ (i : Int) < (l.length : Int) := by omega
   obtain rfl : i = l.length := by omega
   have HFL : Hid (FB wr B vv ((bs ++ [91]) ++ toldL false true l ns)) := hid (by have h9 := HFr.out; rw [List.take_length] at h9; exact h9)
   clear HFr
   have gx : ∀ h, (⟨#[91, 93]⟩ : ByteArray)[1]'h = 93 := fun _ => rfl
   have gy : (93 : UInt8).toNat = 93 := rfl
   have HLN : Hid (bs.length + (toldL false true l ns).length + 2 ≤ 9000000000) := hid (by have h8 := HLEN.out; rw [HT2.out] at h8; simp only [List.length_append, List.length_cons, List.length_nil] at h8; omega)
   go_upto_region 24 with fail
   go_wp2_with (at_builtin; refine wpList_append_F rfl _ _ rfl B _ _ rfl HFL.out [93] _ rfl 1 rfl rfl ?e7false ?e8false ?_)
   case e7false => have := HLN.out; (try simp only [List.length_append, List.length_cons, List.length_nil]); omega
   first | (case e8false => exact hzr) | skip
   intro vh wh hFh hBh hOh
   go_wp2_with fail
   go_ret
   exact ⟨vh, rfl, by rw [HT2.out]; simpa using hFh, HB1.out.trans (HBr.out.trans hBh), HO1.out.trans (HOr.out.trans hOh)⟩
end Go.Proofs.YtfclfaidmipjpaaGreatDoor
