/- Texts of this claim, joined: Equ, Prg. -/
import Derived.Test.YtfclfaidmipjpaaGreatDoorEq02
namespace Go.Proofs.YtfclfaidmipjpaaGreatDoor
set_option maxRecDepth 100000
set_option maxHeartbeats 20000000
open Go.RowKit
def EquTo (w : World) (a b : J) (e : Ending) (w' : World) : Prop := ∃ bb : Bool, e = .returned (.bool bb) ∧ (bb = true ↔ sortJ a = sortJ b) ∧ Below w.heap.size w w'
theorem EquTo.no {w W : World} {a b : J} (h : ¬ sortJ a = sortJ b) (hb : Below w.heap.size w W) : EquTo w a b (.returned (.bool false)) W := ⟨false, rfl, ⟨(fun h => by cases h), (fun e => absurd e h)⟩, hb⟩
theorem EquTo.yes {w W : World} {a b : J} (h : sortJ a = sortJ b) (hb : Below w.heap.size w W) : EquTo w a b (.returned (.bool true)) W := ⟨true, rfl, ⟨(fun _ => h), (fun _ => rfl)⟩, hb⟩
def EqP (k : Int) (ns ns2 : List (List UInt8)) (l l2 : List J) (i : Nat) : Prop := (k = 5 → ns.getD i [] ∈ ns2) ∧ sortJ (l.getD i J.zero) = sortJ (l2.getD (if k = 5 then ns2.idxOf (ns.getD i []) else i) J.zero)
def EqX (k : Int) (ns ns2 : List (List UInt8)) (i : Nat) : Int := if k = 5 then (if ns.getD i [] ∈ ns2 then (ns2.idxOf (ns.getD i []) : Int) else -1) else (i : Int)
theorem EqX_neg {k : Int} {ns ns2 : List (List UInt8)} {l l2 : List J} {i : Nat} (h : EqX k ns ns2 i < 0) : ¬ EqP k ns ns2 l l2 i := by
 rintro ⟨h1, _⟩
 unfold EqX at h
 split at h
 ·rename_i hk
  rw [if_pos (h1 hk)] at h
  omega
 omega
theorem EqX_nat {k : Int} {ns ns2 : List (List UInt8)} {l l2 : List J} {i : Nat} (h : ¬ EqX k ns ns2 i < 0) (hl : l.length = l2.length) (hi : i < l.length) (h5 : k = 5 → ns2.length = l2.length) :
  ∃ j : Nat, EqX k ns ns2 i = (j : Int) ∧ j < l2.length ∧ (EqP k ns ns2 l l2 i ↔ sortJ (l.getD i J.zero) = sortJ (l2.getD j J.zero)) := by
 unfold EqX at h ⊢
 unfold EqP
 by_cases hk : k = 5
 ·rw [if_pos hk] at h ⊢
  by_cases hm : ns.getD i [] ∈ ns2
  ·rw [if_pos hm]
   refine ⟨_, rfl, by rw [← h5 hk]; exact List.idxOf_lt_length_iff.2 hm, ?_⟩
   rw [if_pos hk]
   exact ⟨fun e => e.2, fun e => ⟨fun _ => hm, e⟩⟩
  rw [if_neg hm] at h; omega
 ·rw [if_neg hk]
  refine ⟨i, rfl, by omega, ?_⟩
  rw [if_neg hk]
  exact ⟨fun e => e.2, fun e => ⟨fun h9 => absurd h9 hk, e⟩⟩
structure EqI (w wr : World) (gA gB g9 : Nat) (A B X : List Value) : Prop where
 be : Below w.heap.size w wr
 a : RowAt wr gA A
 b : RowAt wr gB B
 x : RowAt wr g9 X
theorem EqI.below {w wr w' : World} {gA gB g9 : Nat} {A B X : List Value} (h : EqI w wr gA gB g9 A B X) (hb : Below wr.heap.size wr w') : EqI w w' gA gB g9 A B X :=
 ⟨h.be.trans (hb.mono h.be.size), h.a.below hb, h.b.below hb, h.x.below hb⟩
theorem equal_calls {w0 : World} {S1 : Nat → Prop} {r1 : JR} (h1 : JV w0 S1 r1) : ∀ (S2 : Nat → Prop) (r2 : JR) (w : World), Below w0.heap.size w0 w → JV w S2 r2 → goodJ r1.1 = true → goodJ r2.1 = true → szJ r2.1 ≤ 20000000 → Calls Tryz.prog 72 #[jval r1, jval r2] w (EquTo w r1.1 r2.1) := by
 induction h1 with
 | mk r1 xs hn1 hl1 hs1 ih =>
  intro S2 r2 w hb h2 hg1 hg2 hsz
  cases h2 with
  | mk _ ys hn2 hl2 hs2 =>
   obtain ⟨⟨k1, b1, ⟨ng1, dg1, ex1⟩, t1, l1, ns1⟩, lv1, nv1⟩ := r1
   obtain ⟨⟨k2, b2, ⟨ng2, dg2, ex2⟩, t2, l2, ns2⟩, lv2, nv2⟩ := r2
   have hn1w := hn1.below hb
   have hn2w := hn2
   obtain ⟨p1, c1, hp1, _, _, hL1⟩ := hl1
   change lv1 = Value.slice p1 l1.length c1 at hp1
   obtain ⟨q1, e1, hq1, _, hk1, hN1⟩ := hn1
   change nv1 = Value.slice q1 ns1.length e1 at hq1
   subst hp1 hq1
   simp only [J.l] at hL1
   simp only [J.ns] at hN1
   obtain ⟨p2, c2, hp2, _, _, hL2⟩ := hl2
   change lv2 = Value.slice p2 l2.length c2 at hp2
   obtain ⟨q2, e2, hq2, _, hk2, hN2⟩ := hn2
   change nv2 = Value.slice q2 ns2.length e2 at hq2
   subst hp2 hq2
   simp only [J.l] at hL2
   simp only [J.ns] at hN2
   simp only [szJ] at hsz
   have ML2 : l2.length ≤ 20000000 := by have := szL_len l2; omega
   have MN2 : ns2.length ≤ 20000000 := by have := szN_len ns2; omega
   have HSZ : Hid (szL l2 ≤ 20000000) := Lib.hid (by omega)
   change NamS w S1 (Value.slice q1 ns1.length e1) ns1 at hn1w
   change NamS w S2 (Value.slice q2 ns2.length e2) ns2 at hn2w
   have hes := eq_sort (k := k1) (b := b1) (n := ⟨ng1, dg1, ex1⟩) (t := t1) (l := l1) (ns := ns1) hg1 hg2
   have HES := Lib.hid hes
   have HG1 := Lib.hid hg1
   have HG2 := Lib.hid hg2
   have HN1W := Lib.hid hn1w
   have HN2W := Lib.hid hn2w
   have HL1 := Lib.hid hL1
   have HL2 := Lib.hid hL2
   have HN1 := Lib.hid hN1
   have HN2 := Lib.hid hN2
   have HIH := Lib.hid ih
   have HS1 := Lib.hid hs1
   have HS2 := Lib.hid hs2
   have HB := Lib.hid hb
   clear hes hg1 hg2 hn1w hn2w hL1 hL2 hN1 hN2 ih hs1 hs2 hb hk1 hk2 hsz
   go_enter Tryz.func72, Tryz.ntmps72
   go_upto_region 1 with (first | (refine wpList_boxJ rfl _ rfl ((J.mk k1 b1 ⟨ng1, dg1, ex1⟩ t1 l1 ns1), .slice p1 l1.length c1, .slice q1 ns1.length e1) rfl ?_; intro w1 hBx1) | (refine wpList_boxJ rfl _ rfl ((J.mk k2 b2 ⟨ng2, dg2, ex2⟩ t2 l2 ns2), .slice p2 l2.length c2, .slice q2 ns2.length e2) rfl ?_; intro w2 hBx2))
   have hA := hBx1.row.below hBx2.be
   have hB := hBx2.row
   have HBE : Hid (Below w.heap.size w w2) := Lib.hid (hBx2.below hBx1.be hBx1.be.size)
   have hz1 := hBx1.size
   obtain ⟨gA, hgA⟩ : ∃ g, w.heap.size = g := ⟨_, rfl⟩
   obtain ⟨gB, hgB⟩ : ∃ g, w1.heap.size = g := ⟨_, rfl⟩
   rw [hgA] at hA ⊢
   rw [hgB] at hB ⊢
   have HA : Hid (RowAt w2 gA [.int .i64 k1, .bool b1, .bool ng1, .string ⟨dg1.toArray⟩, .int .i64 ex1, .string ⟨t1.toArray⟩, .slice p1 l1.length c1, .slice q1 ns1.length e1]) := Lib.hid hA
   have HBB : Hid (RowAt w2 gB [.int .i64 k2, .bool b2, .bool ng2, .string ⟨dg2.toArray⟩, .int .i64 ex2, .string ⟨t2.toArray⟩, .slice p2 l2.length c2, .slice q2 ns2.length e2]) := Lib.hid hB
   clear hBx1 hBx2 hA hB hz1 hgA hgB
   have ac0 := HA.out.cell 0 _ rfl
   have ac1 := HA.out.cell 1 _ rfl
   have ac2 := HA.out.cell 2 _ rfl
   have ac3 := HA.out.cell 3 _ rfl
   have ac4 := HA.out.cell 4 _ rfl
   have ac5 := HA.out.cell 5 _ rfl
   have ac6 := HA.out.cell 6 _ rfl
   have bc0 := HBB.out.cell 0 _ rfl
   have bc1 := HBB.out.cell 1 _ rfl
   have bc2 := HBB.out.cell 2 _ rfl
   have bc3 := HBB.out.cell 3 _ rfl
   have bc4 := HBB.out.cell 4 _ rfl
   have bc5 := HBB.out.cell 5 _ rfl
   have bc6 := HBB.out.cell 6 _ rfl
   by_cases h0 : k1 = k2
   rotate_left
   ·
    have h0a : (k1 == k2) = false := by rw [beq_eq_false_iff_ne]; exact h0
    have h0b : (k1 != k2) = true := by rw [bne_iff_ne]; exact h0
    go_wp2_with fail
    go_ret
    exact EquTo.no (fun e => h0 (HES.out.1 e).1) HBE.out
   subst h0
   by_cases h0 : b1 = b2
   rotate_left
   ·
    have h0b : (b1 != b2) = true := by rw [bne_iff_ne]; exact h0
    have h0a : (b1 == b2) = false := by rw [beq_eq_false_iff_ne]; exact h0
    go_wp2_with fail
    go_ret
    exact EquTo.no (fun e => h0 (HES.out.1 e).2.1) HBE.out
   subst h0
   have hnd := fun W => run_neq_dec ⟨ng1, dg1, ex1⟩ ⟨ng2, dg2, ex2⟩ W
   simp only at hnd
   cases h0 : sameB ⟨ng1, dg1, ex1⟩ ⟨ng2, dg2, ex2⟩ with
   | false =>
    rw [h0] at hnd
    simp only [Bool.not_false] at hnd
    go_wp2_with fail
    go_ret
    exact EquTo.no (fun e => by rw [(sameB_iff _ _).2 (HES.out.1 e).2.2.1] at h0; cases h0) HBE.out
   | true =>
    rw [h0] at hnd
    simp only [Bool.not_true] at hnd
    have HDE := Lib.hid ((sameB_iff _ _).1 h0)
    clear h0
    by_cases h0 : t1 = t2
    rotate_left
    ·
     have hbb : ¬ (⟨t1.toArray⟩ : ByteArray) = ⟨t2.toArray⟩ := fun e => h0 (by simpa using e)
     go_wp2_with fail
     go_ret
     exact EquTo.no (fun e => h0 (HES.out.1 e).2.2.2.1) HBE.out
    subst h0
    by_cases h0 : l1.length = l2.length
    rotate_left
    ·
     have h0i : ¬ (l1.length : Int) = l2.length := by omega
     have h0a : ((l1.length : Int) == l2.length) = false := by rw [beq_eq_false_iff_ne]; exact h0i
     have h0b : ((l1.length : Int) != l2.length) = true := by rw [bne_iff_ne]; exact h0i
     go_wp2_with fail
     go_ret
     exact EquTo.no (fun e => h0 (HES.out.1 e).2.2.2.2.1) HBE.out
    have h0i : (l1.length : Int) = l2.length := by omega
    have h0a : ((l1.length : Int) == l2.length) = true := by rw [beq_iff_eq]; exact h0i
    have h0b : ((l1.length : Int) != l2.length) = false := by rw [bne_eq_false_iff_eq]; exact h0i
    have HLL := Lib.hid h0
    have ML1 : l1.length ≤ 20000000 := by omega
    clear h0 h0i
    have HN5 : Hid (k1 = 5 → ns1.length = l1.length ∧ ns2.length = l2.length) := Lib.hid (fun e => ⟨(cp_len (so := false) HG1.out).2 e |>.1, (cp_len (so := false) HG2.out).2 e |>.1⟩)
    go_upto_region 3 with fail
    clear hnd h0a h0b
    go_wp2_with fail
    clear ac0 bc0 ac1 bc1 ac2 bc2 ac3 bc3 ac4 bc4 ac5 bc5 ac6 bc6
    go_loopg [46] l1.length (fun kk s46 wr => ∃ i : Nat, kk = l1.length - i ∧ i ≤ l1.length ∧ s46 = .int .i64 (i : Int) ∧ (∀ j, j < i → EqP k1 ns1 ns2 l1 l2 j) ∧ RowAt wr gA [.int .i64 k1, .bool b1, .bool ng1, .string ⟨dg1.toArray⟩, .int .i64 ex1, .string ⟨t1.toArray⟩, .slice p1 l1.length c1, .slice q1 ns1.length e1] ∧ RowAt wr gB [.int .i64 k1, .bool b1, .bool ng2, .string ⟨dg2.toArray⟩, .int .i64 ex2, .string ⟨t1.toArray⟩, .slice p2 l2.length c2, .slice q2 ns2.length e2] ∧ Below w.heap.size w wr)
    case atStart => exact ⟨0, rfl, Nat.zero_le _, rfl, fun j h => by omega, HA.out, HBB.out, HBE.out⟩
    obtain ⟨i, hki, hi, rfl, heq, hA, hB, hBe⟩ := hrel
    have Hki := Lib.hid hki
    have HEQ := Lib.hid heq
    have HA2 := Lib.hid hA
    have HB2 := Lib.hid hB
    have HBE2 := Lib.hid hBe
    clear hki heq hA hB hBe HA HBB HBE
    by_cases hlt : i < l1.length
    ·
     have hlti : (i : Int) < (l1.length : Int) := by omega
     obtain ⟨g1, f1, rfl, _, hg1, hr1⟩ := HL1.out (by omega)
     obtain ⟨x, hx⟩ : ∃ x, l1[i]? = some x := ⟨_, List.getElem?_eq_getElem hlt⟩
     have hra : wr.rangeAt g1 (f1 + i * 8) (jcells (x, xs i)) := fun c v hc => by
      have hc8 : c < 8 := (List.getElem?_eq_some_iff.1 hc).1
      rw [HBE2.out.cell (p := ⟨g1, f1 + i * 8 + c, none⟩) (Nat.lt_of_lt_of_le hg1 HB.out.size), HB.out.cell (p := ⟨g1, f1 + i * 8 + c, none⟩) hg1, hr1 i x hx c hc8]; exact hc
     have HX := Lib.hid hx
     have HSJ := Lib.hid (HS1.out i x hx).slJ
     have HGX := Lib.hid (good_in HG1.out hx)
     have HGD : Hid (l1.getD i J.zero = x) := Lib.hid (by rw [List.getD_eq_getElem?_getD, hx]; rfl)
     clear hx hr1
     go_upto_region 6 with (first | refine wpList_loadMd rfl _ rfl (x, xs i) hra rfl ?_ | (refine wpList_allocJ rfl rfl ?_; intro w8 hBx) | (refine wpList_storeJ rfl _ _ rfl rfl hBx.row rfl (x, xs i) HSJ.out rfl rfl ?_; intro w9 hSx))
     have hI : EqI w w9 gA gB wr.heap.size _ _ _ := ⟨hSx.below (hBx.below HBE2.out HBE2.out.size) HBE2.out.size (Nat.le_trans HBE2.out.size hBx.be.size), (HA2.out.below hBx.be).apart hSx.apart (by have := HA2.out.lt; omega), (HB2.out.below hBx.be).apart hSx.apart (by have := HB2.out.lt; omega), hSx.row⟩
     obtain ⟨g9, hg9⟩ : ∃ g, wr.heap.size = g := ⟨_, rfl⟩
     rw [hg9] at hI ⊢
     have HI := Lib.hid hI
     clear hBx hSx hg9 hI hra HA2 HB2
     have ac0 : _ = some (Value.int .i64 k1) := HI.out.a.cell 0 _ rfl
     go_upto_if 54 with fail
     go_cut [7] from 54 to 62 (fun s7 wc => s7 = .int .i64 (EqX k1 ns1 ns2 i) ∧ EqI w wc gA gB g9 [.int .i64 k1, .bool b1, .bool ng1, .string ⟨dg1.toArray⟩, .int .i64 ex1, .string ⟨t1.toArray⟩, .slice (some ⟨g1, f1, none⟩) l1.length c1, .slice q1 ns1.length e1] [.int .i64 k1, .bool b1, .bool ng2, .string ⟨dg2.toArray⟩, .int .i64 ex2, .string ⟨t1.toArray⟩, .slice p2 l2.length c2, .slice q2 ns2.length e2] (jcells (x, xs i)))
     case first =>
      by_cases hk5 : k1 = 5
      rotate_left
      ·
       have n5 : ((k1 : Int) == 5) = false := by rw [beq_eq_false_iff_ne]; exact hk5
       go_wp2_with fail
       go_meet
       exact ⟨by unfold EqX; rw [if_neg hk5], HI.out⟩
      subst hk5
      have hnl := HN5.out rfl
      obtain ⟨gn, fn, rfl, _, hgn, hns⟩ := HN1.out (by omega)
      obtain ⟨s, hs⟩ : ∃ s, ns1[i]? = some s := ⟨_, List.getElem?_eq_getElem (by omega)⟩
      have hili : (i : Int) < (ns1.length : Int) := by omega
      have HSS : Hid (ns1.getD i [] = s) := Lib.hid (by rw [List.getD_eq_getElem?_getD, hs]; rfl)
      have s0 : w9.cell? ⟨gn, fn + i, none⟩ = some (.string ⟨s.toArray⟩) := (HI.out.be.cell (p := ⟨gn, fn + i, none⟩) (Nat.lt_of_lt_of_le hgn HB.out.size)).trans ((HB.out.cell (p := ⟨gn, fn + i, none⟩) hgn).trans (hns i s hs))
      have a7 : _ = some (Value.slice (some ⟨gn, fn, none⟩) ns1.length e1) := HI.out.a.cell 7 _ rfl
      have b7 : _ = some (Value.slice q2 ns2.length e2) := HI.out.b.cell 7 _ rfl
      have HND := Lib.hid hnl
      clear hs hns hgn hnl ac0
      go_upto_region 8 with fail
      refine wp_region_held_drew (S := (fun wq => wq.cell? ⟨gA, 7, none⟩ = some (Value.slice (some ⟨gn, fn, none⟩) ns1.length e1) ∧ wq.cell? ⟨gB, 7, none⟩ = some (Value.slice q2 ns2.length e2) ∧ wq.cell? ⟨gn, fn + i, none⟩ = some (Value.string ⟨s.toArray⟩))) (by kernel_rfl) ⟨a7, b7, s0⟩ (fun hHeld0 => ?_)
      have HID := Lib.hid (HI.out.below (Below.refl _ _).drew)
      obtain ⟨wd, hwd⟩ : ∃ wd, w9.drew = wd := ⟨_, rfl⟩
      have hS0 : (fun wq => wq.cell? ⟨gA, 7, none⟩ = some (Value.slice (some ⟨gn, fn, none⟩) ns1.length e1) ∧ wq.cell? ⟨gB, 7, none⟩ = some (Value.slice q2 ns2.length e2) ∧ wq.cell? ⟨gn, fn + i, none⟩ = some (Value.string ⟨s.toArray⟩)) wd := by rw [← hwd]; exact ⟨a7, b7, s0⟩
      rw [hwd] at HID hHeld0 ⊢
      clear hwd a7 b7 s0
      refine held_tk 0 ?_ (fun wq hSq => ?_) hHeld0 ?_
      rotate_left
      ·(try dsimp only at hSq); go_simp; try with_reducible rfl
      simp only [Act.put, sbA, sbB, sbC]
      refine held_tk 1 ?_ (fun wq hSq => ?_) hHeld0 ?_
      rotate_left
      ·(try dsimp only at hSq); go_simp; try with_reducible rfl
      simp only [Act.put, sbA, sbB, sbC]
      refine held_tk 2 ?_ (fun wq hSq => ?_) hHeld0 ?_
      rotate_left
      ·(try dsimp only at hSq); go_simp; try with_reducible rfl
      simp only [Act.put, sbA, sbB, sbC]
      refine held_tk 3 ?_ (fun wq hSq => ?_) hHeld0 ?_
      rotate_left
      ·(try dsimp only at hSq); go_simp; try with_reducible rfl
      simp only [Act.put, sbA, sbB, sbC]
      refine held_tk 4 ?_ (fun wq hSq => ?_) hHeld0 ?_
      rotate_left
      ·(try dsimp only at hSq); go_simp; try with_reducible rfl
      simp only [Act.put, sbA, sbB, sbC]
      refine held_tk 5 ?_ (fun wq hSq => ?_) hHeld0 ?_
      rotate_left
      ·(try dsimp only at hSq); go_simp; try with_reducible rfl
      simp only [Act.put, sbA, sbB, sbC]
      refine held_tk 6 ?_ (fun wq hSq => ?_) hHeld0 ?_
      rotate_left
      ·(try dsimp only at hSq); go_simp; try with_reducible rfl
      simp only [Act.put, sbA, sbB, sbC]
      refine held_step (i := 7) (by kernel_rfl) rfl (by rfl) (fun K hK => ?_)
      go_simp
      refine (same (index_calls (HN2W.out.below HID.out.be) (by omega) s)).mono ?_
      rintro ez wz ⟨rfl, rfl⟩
      obtain ⟨ix, hix⟩ : ∃ z : Int, (if s ∈ ns2 then ((ns2.idxOf s : Nat) : Int) else -1) = z := ⟨_, rfl⟩
      have HIX := Lib.hid hix
      rw [hix]
      clear hix
      refine hK.out _ _ hS0 (fun hHeld1 => ?_)
      clear hK K hHeld0
      refine held_tk 8 ?_ (fun wq hSq => ?_) hHeld1 ?_
      rotate_left
      ·(try dsimp only at hSq); go_simp; try with_reducible rfl
      simp only [Act.put, sbA, sbB, sbC]
      refine wpAnyH_done (by kernel_rfl) ?_ _
      clear hHeld1
      go_wp2_with fail
      go_meet
      exact ⟨by unfold EqX; rw [if_pos rfl, HSS.out, HIX.out], HID.out⟩
     obtain ⟨rfl, hI9⟩ := hcut
     have HI9 := Lib.hid hI9
     clear hI9 HI ac0
     have HID := Lib.hid (HI9.out.below (Below.refl _ _).drew)
     obtain ⟨kx, hkx⟩ : ∃ x, EqX k1 ns1 ns2 i = x := ⟨_, rfl⟩
     have HKX := Lib.hid hkx
     rw [hkx]
     clear hkx
     by_cases hneg : kx < 0
     ·
      have HNEG := Lib.hid hneg
      go_upto_region 9 with fail
      refine wp_region_held_drew (S := (fun _ => True)) (by kernel_rfl) trivial (fun hHeld0 => ?_)
      generalize wc.drew = wd at *
      refine held_tk 0 ?_ (fun wq hSq => ?_) hHeld0 ?_
      rotate_left
      ·(try dsimp only at hSq); go_simp; try with_reducible rfl
      simp only [Act.put, sbA, sbB, sbC]
      refine held_tk 1 ?_ (fun wq hSq => ?_) hHeld0 ?_
      rotate_left
      ·(try dsimp only at hSq); go_simp; try with_reducible rfl
      simp only [Act.put, sbA, sbB, sbC]
      refine held_tk 2 ?_ (fun wq hSq => ?_) hHeld0 ?_
      rotate_left
      ·(try dsimp only at hSq); go_simp; try with_reducible rfl
      simp only [Act.put, sbA, sbB, sbC]
      refine held_skip (i := 3) rfl (by kernel_rfl) (by kernel_rfl) (by kernel_rfl) (fun _ _ _ h => h) (by rfl) hHeld0 ?_
      simp only [Act.put, sbA, sbB, sbC]
      refine held_skip (i := 4) rfl (by kernel_rfl) (by kernel_rfl) (by kernel_rfl) (fun _ _ _ h => h) (by rfl) hHeld0 ?_
      simp only [Act.put, sbA, sbB, sbC]
      refine held_skip (i := 5) rfl (by kernel_rfl) (by kernel_rfl) (by kernel_rfl) (fun _ _ _ h => h) (by rfl) hHeld0 ?_
      simp only [Act.put, sbA, sbB, sbC]
      refine held_skip (i := 6) rfl (by kernel_rfl) (by kernel_rfl) (by kernel_rfl) (fun _ _ _ h => h) (by rfl) hHeld0 ?_
      simp only [Act.put, sbA, sbB, sbC]
      refine held_skip (i := 7) rfl (by kernel_rfl) (by kernel_rfl) (by kernel_rfl) (fun _ _ _ h => h) (by rfl) hHeld0 ?_
      simp only [Act.put, sbA, sbB, sbC]
      refine held_skip (i := 8) rfl (by kernel_rfl) (by kernel_rfl) (by kernel_rfl) (fun _ _ _ h => h) (by rfl) hHeld0 ?_
      simp only [Act.put, sbA, sbB, sbC]
      refine held_skip (i := 9) rfl (by kernel_rfl) (by kernel_rfl) (by kernel_rfl) (fun _ _ _ h => h) (by rfl) hHeld0 ?_
      simp only [Act.put, sbA, sbB, sbC]
      refine held_skip (i := 10) rfl (by kernel_rfl) (by kernel_rfl) (by kernel_rfl) (fun _ _ _ h => h) (by rfl) hHeld0 ?_
      simp only [Act.put, sbA, sbB, sbC]
      refine held_tk 11 ?_ (fun wq hSq => ?_) hHeld0 ?_
      rotate_left
      ·(try dsimp only at hSq); go_simp; try with_reducible rfl
      simp only [Act.put, sbA, sbB, sbC]
      refine wpAnyH_done (by kernel_rfl) ?_ _
      clear hHeld0
      go_wp2_with fail
      go_ret
      exact EquTo.no (fun e => EqX_neg (by rw [HKX.out]; exact HNEG.out) ((HES.out.1 e).2.2.2.2.2 i hlt)) HID.out.be
     obtain ⟨j, hj, hjl, hjp⟩ := EqX_nat (k := k1) (ns := ns1) (ns2 := ns2) (l := l1) (l2 := l2) (i := i) (by rw [HKX.out]; exact hneg) HLL.out hlt (fun e => (HN5.out e).2)
     have hkj : kx = (j : Int) := by rw [← hj, HKX.out]
     subst hkj
     have HJP := Lib.hid hjp
     clear hj hjp hneg
     obtain ⟨g2, f2, rfl, _, hg2, hr2⟩ := HL2.out (by omega)
     obtain ⟨y, hy⟩ : ∃ y, l2[j]? = some y := ⟨_, List.getElem?_eq_getElem hjl⟩
     have hjli : (j : Int) < (l2.length : Int) := by omega
     have hjn : ¬ (j : Int) < 0 := by omega
     have hjd : decide ((j : Int) < 0) = false := by rw [decide_eq_false_iff_not]; exact hjn
     have HRY : Hid (w.rangeAt g2 (f2 + j * 8) (jcells (y, ys j))) := Lib.hid (fun c v hc => by
      have hc8 : c < 8 := (List.getElem?_eq_some_iff.1 hc).1
      rw [hr2 j y hy c hc8]; exact hc)
     have HY := Lib.hid hy
     have HG2L := Lib.hid hg2
     have HGY := Lib.hid (good_in HG2.out hy)
     have HYD : Hid (l2.getD j J.zero = y) := Lib.hid (by rw [List.getD_eq_getElem?_getD, hy]; rfl)
     have hsy := szL_in hy
     have HSY : Hid (szJ y ≤ 20000000) := Lib.hid (by have := HSZ.out; omega)
     clear hy hr2 hg2 hsy
     have b6 : _ = some (Value.slice (some ⟨g2, f2, none⟩) l2.length c2) := HI9.out.b.cell 6 _ rfl
     have HXR : Hid (RowAt wc g9 (jcells (x, xs i))) := Lib.hid HI9.out.x
     go_upto_region 9 with fail
     refine wp_region_held_drew (S := (fun wq => wq.cell? ⟨gB, 6, none⟩ = some (Value.slice (some ⟨g2, f2, none⟩) l2.length c2) ∧ Below wc.heap.size wc wq)) (by kernel_rfl) ⟨b6, (Below.refl _ _).drew⟩ (fun hHeld0 => ?_)
     obtain ⟨wd, hwd⟩ : ∃ wd, wc.drew = wd := ⟨_, rfl⟩
     have HCD : Hid (Below wc.heap.size wc wd) := Lib.hid (by rw [← hwd]; exact (Below.refl _ _).drew)
     rw [hwd] at HID hHeld0 ⊢
     clear hwd
     refine held_tk 0 ?_ (fun wq hSq => ?_) hHeld0 ?_
     rotate_left
     ·(try dsimp only at hSq); go_simp; try with_reducible rfl
     simp only [Act.put, sbA, sbB, sbC]
     refine held_tk 1 ?_ (fun wq hSq => ?_) hHeld0 ?_
     rotate_left
     ·(try dsimp only at hSq); go_simp; try with_reducible rfl
     simp only [Act.put, sbA, sbB, sbC]
     refine held_tk 2 ?_ (fun wq hSq => ?_) hHeld0 ?_
     rotate_left
     ·(try dsimp only at hSq); go_simp; try with_reducible rfl
     simp only [Act.put, sbA, sbB, sbC]
     refine held_take (i := 3) (v := jval (x, xs i)) rfl (by kernel_rfl) (by kernel_rfl) (by kernel_rfl) (fun _ _ _ h => h) (by rfl) (fun wq hSq => exec_loadJ _ rfl rfl (x, xs i) (HXR.out.below hSq.2)) hHeld0 ?_
     simp only [Act.put, sbA, sbB, sbC]
     refine held_tk 4 ?_ (fun wq hSq => ?_) hHeld0 ?_
     rotate_left
     ·(try dsimp only at hSq); go_simp; try with_reducible rfl
     simp only [Act.put, sbA, sbB, sbC]
     refine held_tk 5 ?_ (fun wq hSq => ?_) hHeld0 ?_
     rotate_left
     ·(try dsimp only at hSq); go_simp; try with_reducible rfl
     simp only [Act.put, sbA, sbB, sbC]
     refine held_tk 6 ?_ (fun wq hSq => ?_) hHeld0 ?_
     rotate_left
     ·(try dsimp only at hSq); go_simp; try with_reducible rfl
     simp only [Act.put, sbA, sbB, sbC]
     refine held_tk 7 ?_ (fun wq hSq => ?_) hHeld0 ?_
     rotate_left
     ·(try dsimp only at hSq); go_simp; try with_reducible rfl
     simp only [Act.put, sbA, sbB, sbC]
     refine held_take (i := 8) (v := jval (y, ys j)) rfl (by kernel_rfl) (by kernel_rfl) (by kernel_rfl) (fun _ _ _ h => h) (by rfl) (fun wq hSq => exec_load8 _ rfl rfl (y, ys j) (rangeAt_bel HRY.out HI9.out.be hSq.2 HG2L.out)) hHeld0 ?_
     simp only [Act.put, sbA, sbB, sbC]
     refine held_step (i := 9) (by kernel_rfl) rfl (by rfl) (fun K hK => ?_)
     go_simp
     refine (HIH.out i x HX.out S2 (y, ys j) wd (HB.out.trans (HID.out.be.mono HB.out.size)) ((HS2.out j y HY.out).bel HID.out.be) HGX.out HGY.out HSY.out).mono ?_
     rintro e w5 ⟨bb, rfl, hbb, hb5⟩
     have HXY := Lib.hid hbb
     have HI5 := Lib.hid (HID.out.below hb5)
     have hS5 : (fun wq => wq.cell? ⟨gB, 6, none⟩ = some (Value.slice (some ⟨g2, f2, none⟩) l2.length c2) ∧ Below wc.heap.size wc wq) w5 := ⟨HI5.out.b.cell 6 _ rfl, HCD.out.trans (hb5.mono HCD.out.size)⟩
     clear hbb hb5
     refine hK.out _ _ hS5 (fun hHeld1 => ?_)
     clear hK K hHeld0
     refine held_tk 10 ?_ (fun wq hSq => ?_) hHeld1 ?_
     rotate_left
     ·(try dsimp only at hSq); go_simp; try with_reducible rfl
     simp only [Act.put, sbA, sbB, sbC]
     refine held_tk 11 ?_ (fun wq hSq => ?_) hHeld1 ?_
     rotate_left
     ·(try dsimp only at hSq); go_simp; try with_reducible rfl
     simp only [Act.put, sbA, sbB, sbC]
     refine wpAnyH_done (by kernel_rfl) ?_ _
     clear hHeld1
     clear hS5 b6
     have HPI : Hid (EqP k1 ns1 ns2 l1 l2 i ↔ bb = true) := Lib.hid (by rw [HJP.out, HGD.out, HYD.out]; exact HXY.out.symm)
     cases bb with
     | false =>
      go_wp2_with fail
      go_ret
      exact EquTo.no (fun e => by have := HPI.out.1 ((HES.out.1 e).2.2.2.2.2 i hlt); cases this) HI5.out.be
     | true =>
      go_wp2_with fail
      go_roundg (l1.length - (i + 1))
      case measure => have := Hki.out; omega
      refine ⟨i + 1, rfl, by omega, by go_num, fun j hj => ?_, HI5.out.a, HI5.out.b, HI5.out.be⟩
      rcases Nat.lt_or_ge j i with h9 | h9
      ·exact HEQ.out j h9
      obtain rfl : j = i := by omega
      exact HPI.out.2 (by trivial)
    have hlti : ¬ (i : Int) < (l1.length : Int) := by omega
    obtain rfl : i = l1.length := by omega
    go_wp2_with fail
    go_ret
    exact EquTo.yes (HES.out.2 (by refine ⟨?_, ?_, HDE.out, ?_, HLL.out, HEQ.out⟩ <;> trivial)) HBE2.out
theorem equalJ_calls {w0 : World} {S1 S2 : Nat → Prop} {r1 r2 : JR} (h1 : JV w0 S1 r1) (h2 : JV w0 S2 r2) (hTab : Tab w0) (hT : Lib.Utf8Tabs 0 1 w0) (w : World) (hb : Below w0.heap.size w0 w) (hsz : szJ r1.1 ≤ 20000000) (hsz2 : szJ r2.1 ≤ 20000000) :
  Calls Tryz.prog 36 #[jval r1, jval r2] w fun e w' => (∃ bb : Bool, e = .returned (.bool bb) ∧ (bb = true ↔ checkJ r1.1 = 0 ∧ checkJ r2.1 = 0 ∧ sortJ r1.1 = sortJ r2.1)) ∧ Below w.heap.size w w' := by
 have HB := Lib.hid hb
 clear hb
 go_enter Tryz.func36, Tryz.ntmps36
 go_upto_region 1 with (first | (refine wpList_boxJ rfl _ rfl r1 rfl ?_; intro w1 hBx1) | (refine wpList_boxJ rfl _ rfl r2 rfl ?_; intro w2 hBx2))
 have HV1 := Lib.hid (hBx1.row.below hBx2.be)
 have HV2 := Lib.hid hBx2.row
 have HBE : Hid (Below w.heap.size w w2) := Lib.hid (hBx2.below hBx1.be hBx1.be.size)
 have HW : Hid (Below w0.heap.size w0 w2) := Lib.hid (HB.out.trans (HBE.out.mono HB.out.size))
 obtain ⟨g1, hg1⟩ : ∃ g, w.heap.size = g := ⟨_, rfl⟩
 obtain ⟨g2, hg2⟩ : ∃ g, w1.heap.size = g := ⟨_, rfl⟩
 rw [hg1] at HV1 ⊢
 rw [hg2] at HV2 ⊢
 clear hBx1 hBx2 hg1 hg2
 have kk0 : w2.cell? ⟨g1, 0, none⟩ = some (.int .i64 r1.1.kind) := HV1.out.cell 0 _ rfl
 have kk1 : w2.cell? ⟨g1, 1, none⟩ = some (.bool r1.1.b) := HV1.out.cell 1 _ rfl
 have kk2 : w2.cell? ⟨g1, 2, none⟩ = some (.bool r1.1.n.neg) := HV1.out.cell 2 _ rfl
 have kk3 : w2.cell? ⟨g1, 3, none⟩ = some (.string ⟨r1.1.n.digits.toArray⟩) := HV1.out.cell 3 _ rfl
 have kk4 : w2.cell? ⟨g1, 4, none⟩ = some (.int .i64 r1.1.n.exp) := HV1.out.cell 4 _ rfl
 have kk5 : w2.cell? ⟨g1, 5, none⟩ = some (.string ⟨r1.1.t.toArray⟩) := HV1.out.cell 5 _ rfl
 have kk6 : w2.cell? ⟨g1, 6, none⟩ = some (r1.2.1) := HV1.out.cell 6 _ rfl
 have kk7 : w2.cell? ⟨g1, 7, none⟩ = some (r1.2.2) := HV1.out.cell 7 _ rfl
 go_wp2_with fail
 refine (checkJ_calls (r1 := r1) h1 hTab hT w2 HW.out hsz).mono ?_
 rintro e w3 ⟨rfl, hb3⟩
 clear kk0 kk1 kk2 kk3 kk4 kk5 kk6 kk7
 have HV3 := Lib.hid (HV1.out.below hb3)
 have HV4 := Lib.hid (HV2.out.below hb3)
 have HB3 := Lib.hid (HBE.out.trans (hb3.mono HBE.out.size))
 have HW3 := Lib.hid (HW.out.trans (hb3.mono HW.out.size))
 clear hb3 HV1 HV2 HBE HW
 obtain ⟨c1, hc1⟩ : ∃ c, checkJ r1.1 = c := ⟨_, rfl⟩
 have HC1 := Lib.hid hc1
 rw [hc1]
 clear hc1
 by_cases h10 : c1 = 0
 ·subst h10
  have kk0 : w3.cell? ⟨g2, 0, none⟩ = some (.int .i64 r2.1.kind) := HV4.out.cell 0 _ rfl
  have kk1 : w3.cell? ⟨g2, 1, none⟩ = some (.bool r2.1.b) := HV4.out.cell 1 _ rfl
  have kk2 : w3.cell? ⟨g2, 2, none⟩ = some (.bool r2.1.n.neg) := HV4.out.cell 2 _ rfl
  have kk3 : w3.cell? ⟨g2, 3, none⟩ = some (.string ⟨r2.1.n.digits.toArray⟩) := HV4.out.cell 3 _ rfl
  have kk4 : w3.cell? ⟨g2, 4, none⟩ = some (.int .i64 r2.1.n.exp) := HV4.out.cell 4 _ rfl
  have kk5 : w3.cell? ⟨g2, 5, none⟩ = some (.string ⟨r2.1.t.toArray⟩) := HV4.out.cell 5 _ rfl
  have kk6 : w3.cell? ⟨g2, 6, none⟩ = some (r2.2.1) := HV4.out.cell 6 _ rfl
  have kk7 : w3.cell? ⟨g2, 7, none⟩ = some (r2.2.2) := HV4.out.cell 7 _ rfl
  go_wp2_with fail
  refine (checkJ_calls (r1 := r2) h2 hTab hT w3 HW3.out hsz2).mono ?_
  rintro e w5 ⟨rfl, hb5⟩
  clear kk0 kk1 kk2 kk3 kk4 kk5 kk6 kk7
  have HV5 := Lib.hid (HV3.out.below hb5)
  have HV6 := Lib.hid (HV4.out.below hb5)
  have HB5 := Lib.hid (HB3.out.trans (hb5.mono HB3.out.size))
  have HW5 := Lib.hid (HW3.out.trans (hb5.mono HW3.out.size))
  clear hb5 HV3 HV4 HB3 HW3
  obtain ⟨c2, hc2⟩ : ∃ c, checkJ r2.1 = c := ⟨_, rfl⟩
  have HC2 := Lib.hid hc2
  rw [hc2]
  clear hc2
  by_cases h20 : c2 = 0
  ·subst h20
   go_wp2_with (first | refine wpList_loadJ rfl _ rfl r1 HV5.out rfl ?_ | refine wpList_loadJ rfl _ rfl r2 HV6.out rfl ?_)
   refine (equal_calls h1 S2 r2 w5 HW5.out (h2.bel HW5.out) (checkJ_zero.1 HC1.out).1 (checkJ_zero.1 HC2.out).1 hsz2).mono ?_
   rintro e w6 ⟨bb, rfl, hbb, hb6⟩
   have HBB := Lib.hid hbb
   have HB6 := Lib.hid (HB5.out.trans (hb6.mono HB5.out.size))
   clear hbb hb6
   go_wp2_with fail
   go_ret
   exact ⟨⟨bb, rfl, HBB.out.trans ⟨fun e => ⟨HC1.out, HC2.out, e⟩, fun e => e.2.2⟩⟩, HB6.out⟩
  have n0 : ((c2 : Int) == 0) = false := by rw [beq_eq_false_iff_ne]; exact h20
  have n1 : ((c2 : Int) != 0) = true := by rw [bne_iff_ne]; exact h20
  go_wp2_with fail
  go_ret
  exact ⟨⟨false, rfl, ⟨(fun e => by cases e), fun e => absurd (HC2.out.symm.trans e.2.1) h20⟩⟩, HB5.out⟩
 ·have n0 : ((c1 : Int) == 0) = false := by rw [beq_eq_false_iff_ne]; exact h10
  have n1 : ((c1 : Int) != 0) = true := by rw [bne_iff_ne]; exact h10
  go_wp2_with fail
  go_ret
  exact ⟨⟨false, rfl, ⟨(fun e => by cases e), fun e => absurd (HC1.out.symm.trans e.1) h10⟩⟩, HB3.out⟩
structure HeadR (k : Int) (b : Bool) (n : Dec) (t : List UInt8) (nl nn : Nat) : Prop where
 k0 : 0 ≤ k
 k5 : k ≤ 5
 b1 : k = 1 ∨ b = false
 n2 : k = 2 ∨ n = Dec.zero
 t3 : k = 3 ∨ t = []
 l4 : 4 ≤ k ∨ nl = 0
 m5 : 5 ≤ k ∨ nn = 0
theorem good_of {k : Int} {b : Bool} {n : Dec} {t : List UInt8} {l : List J} {ns : List (List UInt8)} (h : HeadR k b n t l.length ns.length) (hm : mayB n = true) (hv : Lib.validD t = true) (h5 : k = 5 → ns.length = l.length) (hg : goodL l = true) (hu : ns.Nodup ∧ ∀ s ∈ ns, Lib.validD s = true) : goodJ (.mk k b n t l ns) = true := by
 obtain ⟨a0, a5, b1, n2, t3, l4, m5⟩ := h
 simp only [goodJ, headB, badK, Bool.and_eq_true, Bool.not_eq_true', Bool.or_eq_false_iff]
 refine ⟨⟨⟨⟨⟨⟨?_, ?_⟩, ?_⟩, ?_⟩, ?_⟩, ?_⟩, hg⟩
 ·unfold bareB
  split
  ·simp
  rename_i e; rw [b1.resolve_left e]; rfl
 ·rw [Bool.not_eq_false', (sameB_iff _ _)]
  unfold bareN
  split
  ·rfl
  rename_i e; exact n2.resolve_left e
 ·unfold bareT
  split
  ·simp
  rename_i e; rw [t3.resolve_left e]; rfl
 ·unfold deepK
  split
  ·rfl
  rw [l4.resolve_left (by omega)]; rfl
 ·by_cases e : k = 5
  ·subst e; rfl
  rw [m5.resolve_left (by omega)]; simp
 unfold okK
 split
 ·rename_i e
  rw [hv, hm, h5 e, (unlike_iff ns).2 hu]; simp
 rw [if_pos (by omega), hv, hm]; rfl
theorem of_good {k : Int} {b : Bool} {n : Dec} {t : List UInt8} {l : List J} {ns : List (List UInt8)} (h : goodJ (.mk k b n t l ns) = true) : HeadR k b n t l.length ns.length ∧ mayB n = true ∧ Lib.validD t = true ∧ (k = 5 → ns.length = l.length) ∧ goodL l = true ∧ (ns.Nodup ∧ ∀ s ∈ ns, Lib.validD s = true) := by
 obtain ⟨h1, h2, h3, h4, h5, h6, h7, h8, h9⟩ := good_head h
 have hk : 0 ≤ k ∧ k ≤ 5 := by omega
 refine ⟨⟨hk.1, hk.2, h1, h2, h3, ?_, ?_⟩, h7, h6, fun e => ?_, h8, ?_⟩
 ·rcases h4 with g | g | g
  ·exact .inl (by omega)
  ·exact .inl (by omega)
  exact .inr (by rw [g]; rfl)
 ·rcases h5 with g | g
  ·exact .inl (by omega)
  exact .inr (by rw [g]; rfl)
 ·rcases h9 with g | g | g | g | g | g
  iterate 5 omega
  exact g.2.1
 rcases h5 with g | g
 ·rcases h9 with g9 | g9 | g9 | g9 | g9 | g9
  iterate 5 omega
  exact (unlike_iff ns).1 g9.2.2
 subst g; simp
mutual
def depR : J → Nat
 | .mk k _ _ _ l _ => if k < 4 then 0 else depRL l + 1
def depRL : List J → Nat
 | [] => 0
 | x :: r => max (depR x) (depRL r)
end
theorem depRL_take {l : List J} {i : Nat} {x : J} (h : l[i]? = some x) : depRL (l.take (i + 1)) = max (depRL (l.take i)) (depR x) := by
 have hs : ∀ (a b : List J), depRL (a ++ b) = max (depRL a) (depRL b) := fun a b => by
  induction a with
  | nil => simp [depRL]
  | cons y a ih => simp only [List.cons_append, depRL, ih]; omega
 rw [List.take_add_one, h, hs]
 simp [depRL]
mutual
theorem depR_le : (v : J) → depR v ≤ szJ v
 | .mk k b n t l ns => by
  have := depRL_le l
  simp only [depR, szJ]
  split <;> omega
theorem depRL_le : (l : List J) → depRL l ≤ szL l
 | [] => by simp [depRL]
 | x :: r => by
  have h1 := depR_le x
  have h2 := depRL_le r
  simp only [depRL, szL]
  omega
end
theorem depRL_mono (l : List J) : ∀ i, depRL (l.take i) ≤ depRL l := by
 induction l with
 | nil => intro i; simp
 | cons x l ih =>
  intro i
  cases i with
  | zero => simp [depRL]
  | succ i => have := ih i; simp only [List.take_succ_cons, depRL]; omega
mutual
theorem depR_good : (v : J) → goodJ v = true → depR v = deepJ v
 | .mk k b n t l ns, h => by
  have hh := (of_good h).1
  have hl := depRL_good l (of_good h).2.2.2.2.1
  simp only [depR, deepJ]
  by_cases hk : k < 4
  ·rw [if_pos hk]
   have : l = [] := List.length_eq_zero_iff.1 (hh.l4.resolve_left (by omega))
   subst this
   rw [show deepK k = 0 by unfold deepK; rw [if_neg (by omega)]]
   rfl
  rw [if_neg hk, show deepK k = 1 by unfold deepK; rw [if_pos (by have := hh.k5; omega)], hl]
  by_cases hn : l = []
  ·subst hn; simp [depRL]
  rw [if_neg hn]; omega
theorem depRL_good : (l : List J) → goodL l = true → ∀ d, deepL d l = max d (depRL l + (if l = [] then 0 else 1))
 | [], _ => fun d => by simp [deepL, depRL]
 | x :: r, h => by
  rw [goodL, Bool.and_eq_true] at h
  intro d
  have h1 := depR_good x h.1
  have h2 := depRL_good r h.2 (max d (deepJ x + 1))
  rw [deepL, h2, depRL, h1]
  cases r with
  | nil => simp [depRL]
  | cons y r => simp
end
end Go.Proofs.YtfclfaidmipjpaaGreatDoor
