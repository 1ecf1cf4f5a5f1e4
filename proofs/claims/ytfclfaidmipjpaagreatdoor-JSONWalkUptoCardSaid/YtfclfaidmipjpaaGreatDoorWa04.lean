/- Texts of this claim, joined: Wlk. -/
import Derived.Test.YtfclfaidmipjpaaGreatDoorWa02
import Derived.Test.YtfclfaidmipjpaaGreatDoorWa03
namespace Go.Proofs.YtfclfaidmipjpaaGreatDoor
set_option maxRecDepth 100000
set_option maxHeartbeats 20000000
open Go.Lib (hid)
open Go.RowKit
attribute [local go_sem] run_fnil Oper.semAt_some
structure WkI (w W : World) (g : Nat) (r0 r1 : JR) (pa : List UInt8) (lf : Int) : Prop where
 be : Below w.heap.size w W
 b0 : RowAt W g (jcells r0)
 b1 : RowAt W (g + 1) (jcells r1)
 c2 : W.cell? ⟨g + 2, 0, none⟩ = some (.string ⟨pa.toArray⟩)
 c3 : W.cell? ⟨g + 3, 0, none⟩ = some (.int .i64 lf)
 f3 : W.frozen? ⟨g + 3, 0, none⟩ = false
 c4 : ∃ k, W.cell? ⟨g + 4, 0, none⟩ = some (.int .i64 k)
 f4 : W.frozen? ⟨g + 4, 0, none⟩ = false
 lo : w.heap.size = g
 hi : g + 5 ≤ W.heap.size
theorem WkI.apart {S : Nat → Prop} {w W V : World} {g : Nat} {r0 r1 : JR} {pa : List UInt8} {lf : Int} (h : WkI w W g r0 r1 pa lf) (ha : Apart S W V) (hs : ∀ k, k < g + 5 → ¬ S k) : WkI w V g r0 r1 pa lf := by
 have hl := h.lo
 have hh := h.hi
 have cc : ∀ k, k < g + 5 → V.cell? ⟨k, 0, none⟩ = W.cell? ⟨k, 0, none⟩ := fun k hk => ha.cell (a := ⟨k, 0, none⟩) (by show k < _; omega) (hs k hk)
 have ff : ∀ k, k < g + 5 → V.frozen? ⟨k, 0, none⟩ = W.frozen? ⟨k, 0, none⟩ := fun k hk => ha.frozen (a := ⟨k, 0, none⟩) (by show k < _; omega) (hs k hk)
 exact ⟨h.be.trans (ha.below h.be.size (fun i hi => hs i (by omega))), h.b0.apart ha (hs _ (by omega)), h.b1.apart ha (hs _ (by omega)), (cc _ (by omega)).trans h.c2, (cc _ (by omega)).trans h.c3, (ff _ (by omega)).trans h.f3, by obtain ⟨b, hb⟩ := h.c4; exact ⟨b, (cc _ (by omega)).trans hb⟩, (ff _ (by omega)).trans h.f4, h.lo, Nat.le_trans hh ha.size⟩
theorem WkI.below {w W V : World} {g : Nat} {r0 r1 : JR} {pa : List UInt8} {lf : Int} (h : WkI w W g r0 r1 pa lf) (hb : Below W.heap.size W V) : WkI w V g r0 r1 pa lf := h.apart (S := fun _ => False) (Apart.ofBelow hb) (fun _ _ e => e)
theorem WkI.left {w W : World} {g : Nat} {r0 r1 : JR} {pa : List UInt8} {lf : Int} (h : WkI w W g r0 r1 pa lf) (lf2 : Int) : WkI w (W.setCell ⟨g + 3, 0, none⟩ (.int .i64 lf2)) g r0 r1 pa lf2 := by
 have ha : Apart (fun k => k = g + 3) W (W.setCell ⟨g + 3, 0, none⟩ (.int .i64 lf2)) := Apart.set (S := fun k => k = g + 3) W (a := ⟨g + 3, 0, none⟩) rfl _
 have hl := h.lo
 have hh := h.hi
 have cc : ∀ k, k < g + 5 → k ≠ g + 3 → (W.setCell ⟨g + 3, 0, none⟩ (.int .i64 lf2)).cell? ⟨k, 0, none⟩ = W.cell? ⟨k, 0, none⟩ := fun k hk hne => ha.cell (a := ⟨k, 0, none⟩) (by show k < _; omega) hne
 exact ⟨h.be.trans (ha.below h.be.size (fun i hi => by omega)), h.b0.apart ha (by omega), h.b1.apart ha (by omega), (cc _ (by omega) (by omega)).trans h.c2, World.cell?_setCell_same' _ _ _ (by rw [h.c3]; rfl), by rw [World.frozen?_setCell]; exact h.f3, by obtain ⟨b, hb⟩ := h.c4; exact ⟨b, (cc _ (by omega) (by omega)).trans hb⟩, by rw [World.frozen?_setCell]; exact h.f4, h.lo, Nat.le_trans hh ha.size⟩
structure WkN (w W : World) (g gn : Nat) (r0 r1 : JR) (pa : List UInt8) (lf : Int) (n : Nat) : Prop where
 i : WkI w W g r0 r1 pa lf
 cn : W.cell? ⟨gn, 0, none⟩ = some (.int .i64 (n : Int))
 fn : W.frozen? ⟨gn, 0, none⟩ = false
 lon : g + 5 ≤ gn
 hin : gn < W.heap.size
theorem WkN.apart {S : Nat → Prop} {w W V : World} {g gn n : Nat} {r0 r1 : JR} {pa : List UInt8} {lf : Int} (h : WkN w W g gn r0 r1 pa lf n) (ha : Apart S W V) (hs : ∀ k, k ≤ gn → ¬ S k) : WkN w V g gn r0 r1 pa lf n :=
 ⟨h.i.apart ha (fun k hk => hs k (by have := h.lon; omega)), (ha.cell (a := ⟨gn, 0, none⟩) h.hin (hs gn (Nat.le_refl _))).trans h.cn, (ha.frozen (a := ⟨gn, 0, none⟩) h.hin (hs gn (Nat.le_refl _))).trans h.fn, h.lon, Nat.lt_of_lt_of_le h.hin ha.size⟩
theorem WkN.below {w W V : World} {g gn n : Nat} {r0 r1 : JR} {pa : List UInt8} {lf : Int} (h : WkN w W g gn r0 r1 pa lf n) (hb : Below W.heap.size W V) : WkN w V g gn r0 r1 pa lf n := h.apart (S := fun _ => False) (Apart.ofBelow hb) (fun _ _ e => e)
theorem WkN.left {w W : World} {g gn n : Nat} {r0 r1 : JR} {pa : List UInt8} {lf : Int} (h : WkN w W g gn r0 r1 pa lf n) (lf2 : Int) : WkN w (W.setCell ⟨g + 3, 0, none⟩ (.int .i64 lf2)) g gn r0 r1 pa lf2 n := by
 have ha : Apart (fun k => k = g + 3) W (W.setCell ⟨g + 3, 0, none⟩ (.int .i64 lf2)) := Apart.set (S := fun k => k = g + 3) W (a := ⟨g + 3, 0, none⟩) rfl _
 have hl := h.lon
 exact ⟨h.i.left lf2, (ha.cell (a := ⟨gn, 0, none⟩) h.hin (by show ¬ gn = _; omega)).trans h.cn, (ha.frozen (a := ⟨gn, 0, none⟩) h.hin (by show ¬ gn = _; omega)).trans h.fn, h.lon, Nat.lt_of_lt_of_le h.hin ha.size⟩
theorem WkN.count {w W : World} {g gn n : Nat} {r0 r1 : JR} {pa : List UInt8} {lf : Int} (h : WkN w W g gn r0 r1 pa lf n) : WkN w (W.setCell ⟨gn, 0, none⟩ (.int .i64 ((n + 1 : Nat) : Int))) g gn r0 r1 pa lf (n + 1) := by
 have ha : Apart (fun k => k = gn) W (W.setCell ⟨gn, 0, none⟩ (.int .i64 ((n + 1 : Nat) : Int))) := Apart.set (S := fun k => k = gn) W (a := ⟨gn, 0, none⟩) rfl _
 have hl := h.lon
 exact ⟨h.i.apart ha (fun k hk e => by omega), World.cell?_setCell_same' _ _ _ (by rw [h.cn]; rfl), by rw [World.frozen?_setCell]; exact h.fn, h.lon, Nat.lt_of_lt_of_le h.hin ha.size⟩
def ClB (S1 : Nat → Prop) (g : Nat) (r1 : JR) (V : World) : Prop := RowAt V g (jcells r1) ∧ JV V S1 r1
theorem ClB.apart {S1 T : Nat → Prop} {g : Nat} {r1 : JR} {W V : World} (h : ClB S1 g r1 W) (ha : Apart T W V) (hg : ¬ T g) (hS : ∀ k, S1 k → ¬ T k) : ClB S1 g r1 V := ⟨h.1.apart ha hg, h.2.apart ha (fun k hk _ => hS k hk)⟩
theorem ClB.below {S1 : Nat → Prop} {g : Nat} {r1 : JR} {W V : World} (h : ClB S1 g r1 W) (hb : Below W.heap.size W V) : ClB S1 g r1 V := ⟨h.1.below hb, h.2.bel hb⟩
theorem ptr_kid {v v1 x : J} (hc : checkJ v = 0) (hz : szJ v ≤ 20000000) {us : List (List UInt8)} (hw : walkR v us = some v1) (hg : goodJ v1 = true) (hz1 : v1.l.length ≤ 20000000) {i : Nat} (hx : v1.l[i]? = some x) : ptrJ v (pthN us ++ 47 :: escN (labV v1 i)) = (x, 0) := by
 rw [← pth_snoc, rpt_same hc hz, path_pth]
 unfold rptK
 simp only
 rw [walkR_snoc us v v1 _ hw, step_lab hg hz1 hx]
def WlkTo (w : World) (e : Ending) (w' : World) : Prop := ∃ k : Int, e = .returned (.int .i64 k) ∧ 0 ≤ k ∧ k ≤ 200 ∧ Below w.heap.size w w'
theorem walk_all {w0 : World} {S0 : Nat → Prop} {r0 : JR} (h0 : JV w0 S0 r0) (hEnv : EnvJ w0) (hc0 : checkJ r0.1 = 0) (hsz0 : szJ r0.1 ≤ 4000000) : ∀ (N : Nat) (w : World) (S1 : Nat → Prop) (r1 : JR) (us : List (List UInt8)) (lf : Int), szJ r1.1 ≤ N → Below w0.heap.size w0 w → JV w S1 r1 → checkJ r1.1 = 0 →
  walkR r0.1 us = some r1.1 → (pthN us).length + 20 * szJ r1.1 ≤ 80000000 → 0 ≤ lf → lf ≤ 200 → Calls Tryz.prog 30 #[jval r0, jval r1, .string ⟨(pthN us).toArray⟩, .int .i64 lf] w (WlkTo w) := by
 intro N
 induction N with
 | zero => intro w S1 r1 us lf hN; have := szJ_pos r1.1; omega
 | succ N ih =>
  intro w S1 r1 us lf hN hb h1 hc1 hw1 hpl hl0 hl2
  have HE0 := hid hEnv
  have HJ0 := hid h0
  have HC0 := hid hc0
  have HZ0 := hid hsz0
  have HB := hid hb
  have HJ1 := hid h1
  have HC1 := hid hc1
  have HW1 := hid hw1
  have HN := hid hN
  have HL := hid (show 0 ≤ lf ∧ lf ≤ 200 from ⟨hl0, hl2⟩)
  have HIH := hid ih
  have HG1 : Hid (goodJ r1.1 = true) := hid (checkJ_zero.1 hc1).1
  have HZ1 : Hid (szJ r1.1 ≤ 4000000) := hid (by omega)
  obtain ⟨pa, hpa⟩ : ∃ q, pthN us = q := ⟨_, rfl⟩
  have HPA := hid hpa
  have HPL : Hid (pa.length + 20 * szJ r1.1 ≤ 80000000) := hid (by rw [← hpa]; exact hpl)
  rw [hpa]
  clear hb h1 hc1 hw1 hpl hl0 hl2 hN hpa ih h0 hEnv hc0 hsz0
  have HLN : Hid (r1.1.l.length ≤ 4000000) := hid (by
   have hsz := HZ1.out
   obtain ⟨⟨k, b, n, t, l, ns⟩, _⟩ := r1
   simp only [szJ] at hsz
   have := szL_len l
   show l.length ≤ _
   omega)
  refine callsIn_wide.1 (callsIn_of_wp_marks (F := Fence.wide) (n := 5) Tryz.func30 rfl trivial ?_ rfl)
  simp only [Tryz.ntmps30, List.size_toArray, List.length_cons, List.length_nil, Nat.reduceAdd, Nat.reduceSub, Array.replicate_succ, Array.replicate_zero, List.push_toArray, List.append_toArray, List.nil_append, List.cons_append]
  refine wpIn_wide.2 ?_
  go_upto_region 1 with (first | (refine wpList_boxJ rfl _ rfl r0 rfl ?_; intro wb0 hBx) | (refine wpList_boxJ rfl _ rfl r1 rfl ?_; intro wb1 hBy))
  obtain ⟨g, hg⟩ : ∃ g, w.heap.size = g := ⟨_, rfl⟩
  have hy0 : wb0.heap.size = g + 1 := by have := hBx.size; omega
  have hy1 : wb1.heap.size = g + 2 := by have := hBy.size; omega
  obtain ⟨WL, hWL⟩ : ∃ W, ((wb1.alloc (.cells #[.string ⟨pa.toArray⟩] 9)).alloc (.cells #[.int .i64 lf] 3)).alloc (.cells #[.int .i64 0] 3) = W := ⟨_, rfl⟩
  have HI0 : Hid (WkI w WL g r0 r1 pa lf ∧ WL.heap.size = g + 5) := hid (by
   obtain ⟨A, hA⟩ : ∃ A, wb1.alloc (.cells #[.string ⟨pa.toArray⟩] 9) = A := ⟨_, rfl⟩
   obtain ⟨B, hB⟩ : ∃ B, A.alloc (.cells #[.int .i64 lf] 3) = B := ⟨_, rfl⟩
   rw [hA, hB] at hWL
   have sA : A.heap.size = g + 3 := by rw [← hA, World.size_alloc, hy1]
   have sB : B.heap.size = g + 4 := by rw [← hB, World.size_alloc, sA]
   have sL : WL.heap.size = g + 5 := by rw [← hWL, World.size_alloc, sB]
   have bL : Below B.heap.size B WL := by rw [← hWL]; exact (Below.refl _ B).alloc (Nat.le_refl _) _
   have bB : Below A.heap.size A B := by rw [← hB]; exact (Below.refl _ A).alloc (Nat.le_refl _) _
   have bA : Below wb1.heap.size wb1 A := by rw [← hA]; exact (Below.refl _ wb1).alloc (Nat.le_refl _) _
   have bAL := bB.trans (bL.mono bB.size)
   have b1L := bA.trans (bAL.mono bA.size)
   have b0L := hBy.be.trans (b1L.mono hBy.be.size)
   have e2 := new1 (V := WL) (v := .string ⟨pa.toArray⟩) (t := 9) hy1 (by rw [hA]; exact bAL)
   have e3 := new1 (V := WL) (v := .int .i64 lf) (t := 3) sA (by rw [hB]; exact bL)
   have e4 := new1 (V := WL) (v := .int .i64 0) (t := 3) sB (by rw [hWL]; exact Below.refl _ _)
   have hx0 := hBx.row.below b0L
   have hx1 := hBy.row.below b1L
   rw [hg] at hx0
   rw [hy0] at hx1
   exact ⟨⟨hBx.be.trans (b0L.mono hBx.be.size), hx0, hx1, e2.1, e3.1, e3.2, ⟨_, e4.1⟩, e4.2, hg, by omega⟩, sL⟩)
  rw [hWL]
  simp only [hg, hy0, hy1, Nat.add_assoc, Nat.reduceAdd]
  have HGW := hid hg
  clear hg hy0 hy1 hWL hBx hBy
  have HBL : Hid (Below w0.heap.size w0 WL) := hid (HB.out.trans (HI0.out.1.be.mono HB.out.size))
  have HEL := hid (HE0.out.below HBL.out (Nat.le_refl _))
  have HJL := hid (HJ1.out.bel HI0.out.1.be)
  go_upto_region 2 with (refine wpList_loadJ rfl _ rfl r1 HI0.out.1.b1 rfl ?_)
  refine (allJ_calls (r1 := r1) HJL.out HEL.out.tab HEL.out.utf WL (Below.refl _ _) (Nat.le_trans HZ1.out (by decide))).mono ?_
  rintro e w2 ⟨gA, lA, nA, rfl, hgA, hrowA, hjA, hb2⟩
  rw [show allV r1.1 = r1.1 from by rw [allV, if_pos HC1.out]] at hrowA hjA
  obtain ⟨rA, hrA⟩ : ∃ r : JR, (r1.1, lA, nA) = r := ⟨_, rfl⟩
  have HRA : Hid (rA.1 = r1.1) := hid (by rw [← hrA])
  rw [hrA] at hrowA hjA
  obtain ⟨gn, hgn⟩ : ∃ q, w2.heap.size = q := ⟨_, rfl⟩
  have HGL : Hid (g + 5 ≤ gA ∧ gA < gn) := hid ⟨by have := HI0.out.2; omega, by have := hrowA.lt; omega⟩
  have HCA : Hid (ClB (fun k => gA < k ∧ k < gn) gA rA w2) := hid ⟨hrowA, hjA.mono (fun k hk hs => ⟨hs, by omega⟩)⟩
  have HGN := hid hgn
  have HI2 := hid (HI0.out.1.below hb2)
  have HB2 : Hid (Below w0.heap.size w0 w2) := hid (HBL.out.trans (hb2.mono HBL.out.size))
  have HS2 : Hid (g + 5 ≤ w2.heap.size) := hid (by have := HI0.out.2; have := hb2.size; omega)
  clear hgA hrowA hjA hb2 HEL HJL HBL hrA hgn
  go_upto_region 4 with fail
  have c3 := HI2.out.c3
  have f4 := HI2.out.f4
  obtain ⟨k4, c4⟩ := HI2.out.c4
  by_cases hl0 : lf ≤ 0
  ·
   go_wp2_with fail
   have hb9 : Below w.heap.size w (w2.setCell ⟨g + 4, 0, none⟩ (.int .i64 0)) := HI2.out.be.trans ((Below.refl _ w2).setCell (p := ⟨g + 4, 0, none⟩) (by show w.heap.size ≤ g + 4; have := HGW.out; omega) _)
   have hc9 := World.cell?_setCell_same' w2 ⟨g + 4, 0, none⟩ (.int .i64 0) (by rw [c4]; rfl)
   refine ⟨.int .i64 0, ?_, 0, rfl, Int.le_refl _, by decide, hb9⟩
   simp [results, Tryz.f30, go_sem, hc9]
  have HL1 : Hid (1 ≤ lf) := hid (by omega)
  go_wp2_with fail
  clear c3 f4 c4 hl0
  have hgn := HGN.out
  obtain ⟨WN, hWN⟩ : ∃ W, w2.alloc (.cells #[.int .i64 0] 3) = W := ⟨_, rfl⟩
  have HN0 : Hid (WkN w WN g gn r0 r1 pa lf 0 ∧ WN.heap.size = gn + 1 ∧ g + 5 ≤ gn) := hid (by
   have bN : Below w2.heap.size w2 WN := by rw [← hWN]; exact (Below.refl _ w2).alloc (Nat.le_refl _) _
   have e1 := new1 (V := WN) (v := .int .i64 0) (t := 3) hgn (by rw [hWN]; exact Below.refl _ _)
   have sN : WN.heap.size = gn + 1 := by rw [← hWN, World.size_alloc, hgn]
   have h5 := HS2.out
   exact ⟨⟨HI2.out.below bN, e1.1, e1.2, by omega, by omega⟩, sN, by omega⟩)
  have HBN : Hid (Below w0.heap.size w0 WN) := hid (HB.out.trans (HN0.out.1.i.be.mono HB.out.size))
  have hbA : Below w2.heap.size w2 WN := by rw [← hWN]; exact (Below.refl _ w2).alloc (Nat.le_refl _) _
  have HCA := hid (HCA.out.below hbA)
  have HTW : Hid (Tab w) := hid (HE0.out.below HB.out (Nat.le_refl _)).tab
  try rw [hWN]
  try simp only [hgn]
  clear hbA hWN hgn
  refine (wpIn_wide (n := 5)).1 ?_
  refine range_handsC (F := Fence.wide) (n := 5) rfl (by decide) (gf := 60) (lb := #[.pointer (some ⟨gA, 0, none⟩)]) rfl trivial (enters_of Tryz.func60 (by kernel_rfl) rfl)
   (all1_handsC (S1 := fun k => gA < k ∧ k < gn) (r1 := rA) (g := gA) (by rw [HRA.out]; exact HG1.out) (by rw [HRA.out]; exact Nat.le_trans HZ1.out (by decide)) WN (5 - 1)) (Below.refl _ _) (fun _ => rfl)
   (fun pre W => ∃ lc, 1 ≤ lc ∧ lc ≤ 200 ∧ WkN w W g gn r0 r1 pa lc pre.length ∧ ClB (fun k => gA < k ∧ k < gn) gA rA W)
   (fun c pre W => c = .ret ∧ Below w.heap.size w W ∧ ∃ k : Int, 0 ≤ k ∧ k ≤ 200 ∧ W.cell? ⟨g + 4, 0, none⟩ = some (.int .i64 k))
   (fun s W k o o9 h hk ho hc => by obtain ⟨lc, h1, h2, h, hC⟩ := h; have ha := putObj_apart W k o9; exact ⟨lc, h1, h2, h.apart ha (fun i hi e => by have := HN0.out.2.1; omega), hC.apart ha (by have := HGL.out; have := HN0.out.2.1; omega) (fun i hi e => by have := HN0.out.2.1; omega)⟩)
   (fun s W V h hb => by obtain ⟨lc, h1, h2, h, hC⟩ := h; exact ⟨lc, h1, h2, h.below hb, hC.below hb⟩)
   (fun c s W k o o9 h hk ho hc => by obtain ⟨h1, h2, kk, h3, h4, h5⟩ := h; exact ⟨h1, h2.trans ((putObj_apart W k o9).below h2.size (fun i hi e => by have := HN0.out.2; have := HGW.out; omega)), kk, h3, h4, ((putObj_apart W k o9).cell (a := ⟨g + 4, 0, none⟩) (World.block_lt_of_cell? _ _ h5) (fun e => by have := HN0.out.2; have e2 : g + 4 = k := e; omega)).trans h5⟩)
   (fun c s W V h hb => by obtain ⟨h1, h2, kk, h3, h4, h5⟩ := h; exact ⟨h1, h2.trans (hb.mono h2.size), kk, h3, h4, (hb.cell (p := ⟨g + 4, 0, none⟩) (World.block_lt_of_cell? _ _ h5)).trans h5⟩)
   (fun s W h => by obtain ⟨_, _, _, hN, hC⟩ := h; exact ⟨hC.1, hC.2, HTW.out.below hN.i.be⟩) ⟨lf, HL1.out, HL.out.2, HN0.out.1, HCA.out⟩ ?round ?done ?stop
  case round =>
   rintro l pre ⟨s, xr⟩ W hl hlt ⟨lc, hlc1, hlc2, hi, hcl⟩ ⟨hs, hx, hjx⟩
   dsimp only at hs hx hjx
   subst hs
   dsimp only [encA]
   have HLR := hid hl
   have HI := hid hi
   have HCL := hid hcl
   rw [HRA.out] at hx
   have HX := hid hx
   have HJX := hid hjx
   have HLT := hid hlt
   have HLC := hid (show 1 ≤ lc ∧ lc ≤ 200 from ⟨hlc1, hlc2⟩)
   try rw [HRA.out]
   clear hl hlt hi hcl hx hjx hlc1 hlc2
   refine wpIn_seq_k (fun K hK => ?_)
   refine region_in_lit (by kernel_rfl) (by rintro ⟨_, _, h⟩; exact h) ?_
   go_wp2_with fail
   refine region_in_lit (by kernel_rfl) (by rintro ⟨_, _, h⟩; exact h) ?_
   have SLX := hid HJX.out.slJ
   go_wp2_with (first | (refine wpList_allocJ rfl rfl ?_; intro wa hBy) | (refine wpList_storeJ rfl _ _ rfl rfl hBy.row rfl xr SLX.out rfl rfl ?_; intro wb hSx))
   have HKF : Hid (WkN w wb g gn r0 r1 pa lc pre.length ∧ ClB (fun k => gA < k ∧ k < gn) gA rA wb ∧ RowAt wb W.heap.size (jcells xr) ∧ Below W.heap.size W wb ∧ JV wb (fun k => WN.heap.size + 2 ≤ k) xr) := hid (by
    have hbb : Below W.heap.size W wb := hSx.below hBy.be (Nat.le_refl _) hBy.be.size
    exact ⟨HI.out.below hbb, HCL.out.below hbb, hSx.row, hbb, HJX.out.bel hbb⟩)
   refine ⟨⟨HKF.out.2.2.2.1.size, fun k o _ hk _ => (HKF.out.2.2.2.1.block k (Array.getElem?_eq_some_iff.1 hk).1).trans hk⟩, fun W2 hap hsz2 => ?_⟩
   have hl2 := HLR.out
   have H4 := HN0.out.2
   obtain ⟨g9, hg9⟩ : ∃ q, W.heap.size = q := ⟨_, rfl⟩
   have hg9l : l < g9 := by have := HLT.out; omega
   have HC2 : Hid (ClB (fun k => gA < k ∧ k < gn) gA rA W2) := hid (HKF.out.2.1.apart hap (by have := HGL.out; omega) (fun k hk e => by omega))
   have HI2 : Hid (WkN w W2 g gn r0 r1 pa lc pre.length ∧ RowAt W2 g9 (jcells xr) ∧ JV W2 (fun k => WN.heap.size + 2 ≤ k) xr ∧ g9 < W2.heap.size ∧ gn + 2 < g9) := hid (by
    obtain ⟨a1, _, a2, a3, a4⟩ := HKF.out
    rw [hg9] at a2
    refine ⟨a1.apart hap (fun k hk e => by omega), a2.apart hap (by omega), a4.apart hap (fun k hk _ e => by omega), by have := (a2.apart hap (by omega)).lt; omega, by omega⟩)
   rw [hg9]
   have HNB : Hid (WN.heap.size = gn + 1) := hid H4.1
   clear HKF hap hBy hSx hl2 hsz2 HI HCL HJX HLT hg9 hg9l H4
   refine wpIn_block ?_
   refine wpIn_seq_k (fun K2 hK2 => ?_)
   have HSX : Hid (goodJ xr.1 = true ∧ szJ xr.1 < szJ r1.1 ∧ (labV r1.1 pre.length).length ≤ 8 * (szJ r1.1 - szJ xr.1)) := hid ⟨(good_mem HG1.out (List.mem_of_getElem? HX.out)).1, (lab_sz HG1.out (Nat.le_trans HLN.out (by decide)) HX.out).2, (lab_sz HG1.out (Nat.le_trans HLN.out (by decide)) HX.out).1⟩
   obtain ⟨pe, hpe⟩ : ∃ q, 47 :: escN (labV r1.1 pre.length) = q := ⟨_, rfl⟩
   have HPE := hid hpe
   have HPEL : Hid (pe.length ≤ 1 + 16 * (szJ r1.1 - szJ xr.1)) := hid (by rw [← hpe, List.length_cons]; have := escN_len (labV r1.1 pre.length); have := HSX.out.2.2; omega)
   have HPC : Hid (∀ V, Calls Tryz.prog 68 #[.string ⟨(labV r1.1 pre.length).toArray⟩] V fun e w' => e = .returned (.string ⟨pe.toArray⟩) ∧ V = w') := hid (fun V => by rw [← hpe]; exact pathL_calls V _ (by have := HSX.out.2.2; have := HZ1.out; omega))
   have HPT : Hid (ptrJ r0.1 (pa ++ pe) = (xr.1, 0)) := hid (by rw [← hpe, ← HPA.out]; exact ptr_kid HC0.out (Nat.le_trans HZ0.out (by decide)) HW1.out HG1.out (Nat.le_trans HLN.out (by decide)) HX.out)
   have HPP : Hid ((pa ++ pe).length ≤ 80000000 ∧ (pa ++ pe).length + 20 * szJ xr.1 ≤ 80000000) := hid (by rw [List.length_append]; have := HPEL.out; have := HPL.out; have := HSX.out.2.1; omega)
   clear hpe
   obtain ⟨lb, hlb⟩ : ∃ q, labV r1.1 pre.length = q := ⟨_, rfl⟩
   have HLB := hid hlb
   rw [hlb] at HPC HPE
   try rw [hlb]
   clear hlb
   have hcat := bytes_app pa pe
   have hsm : ¬ 9223372036854775807 < pa.length + pe.length := by have := HPP.out.1; rw [List.length_append] at this; omega
   have HB2 : Hid (Below W2.heap.size W2 W2.drew) := hid (Below.refl _ _).drew
   have HBW : Hid (∀ V, Below W2.heap.size W2 V → Below w0.heap.size w0 V) := hid (fun V hV => HB.out.trans ((HI2.out.1.i.below hV).be.mono HB.out.size))
   have HM10 : Hid (∀ V, Below W2.heap.size W2 V → (fun wq => RowAt wq g (jcells r0) ∧ wq.cell? ⟨g + 2, 0, none⟩ = some (.string ⟨pa.toArray⟩)) V) := hid (fun V hV => ⟨(HI2.out.1.below hV).i.b0, (HI2.out.1.below hV).i.c2⟩)
   simp only [Act.put, List.setIfInBounds_toArray, List.set_cons_zero, List.set_cons_succ]
   refine region_in_held (S := (fun wq => RowAt wq g (jcells r0) ∧ wq.cell? ⟨g + 2, 0, none⟩ = some (.string ⟨pa.toArray⟩))) (by kernel_rfl) (by rintro ⟨_, _, h⟩; exact h) (by kernel_rfl) (HM10.out _ HB2.out) (fun hHeld0 => ?_)
   generalize W2.drew = wd at *
   refine held_tv 0 (jval r0) rfl (fun wq hSq => exec_loadJ _ rfl rfl r0 hSq.1) hHeld0 ?_
   refine held_ta 1 hHeld0 ?_
   refine held_ta 2 hHeld0 ?_
   refine held_two (i := 3) (j := 9) (by kernel_rfl) rfl rfl (by rfl) (by rfl) (fun K hK => ?_) (fun K hK => ?_)
   ·
    go_simp
    refine (HPC.out wd).mono ?_
    rintro ez wq9 ⟨rfl, rfl⟩
    refine hK.out _ _ (HM10.out _ HB2.out) (fun hHeld1 => ?_)
    clear hK K hHeld0
    refine held_ta 4 hHeld1 ?_
    refine held_two (i := 5) (j := 9) (by kernel_rfl) rfl rfl (by rfl) (by rfl) (fun K hK => ?_) (fun K hK => ?_)
    ·
     go_simp
     obtain ⟨m9, hm9⟩ := HE0.out.ml
     have hpt := pointer_calls (r1 := r0) HJ0.out HE0.out.tab HE0.out.errs HE0.out.utf m9 hm9 wd (HBW.out _ HB2.out) (Nat.le_trans HZ0.out (by decide)) (pa ++ pe) (by have := HPP.out.1; omega)
     rw [HPT.out] at hpt
     refine hpt.mono ?_
     rintro ez w3 ⟨ly, ny, rfl, hj, hb⟩
     clear hpt hm9
     obtain ⟨ry, hry⟩ : ∃ r : JR, (xr.1, ly, ny) = r := ⟨_, rfl⟩
     have HRY : Hid (ry.1 = xr.1) := hid (by rw [← hry])
     rw [hry] at hj ⊢
     obtain ⟨bY, hbY⟩ : ∃ q, wd.heap.size = q := ⟨_, rfl⟩
     obtain ⟨eY, heY⟩ : ∃ q, w3.heap.size = q := ⟨_, rfl⟩
     have HJY : Hid (JV w3 (fun k => bY ≤ k ∧ k < eY) ry) := hid (hj.mono (fun k hk hs => ⟨by rw [← hbY]; exact hs, by rw [← heY]; exact hk⟩))
     have HYB : Hid (wd.heap.size = bY ∧ w3.heap.size = eY) := hid ⟨hbY, heY⟩
     have SLY := hid HJY.out.slJ
     replace HB2 : Hid (Below W2.heap.size W2 w3) := hid (HB2.out.trans (hb.mono HB2.out.size))
     clear hj hb hry hbY heY
     refine hK.out _ _ (HM10.out _ HB2.out) (fun hHeld2 => ?_)
     clear hK K hHeld1
     refine held_ta 6 hHeld2 ?_
     refine held_ta 7 hHeld2 ?_
     refine held_ta 8 hHeld2 ?_
     refine held_st 9 rfl (fun K hK => ?_)
     refine oper_allocJ rfl ?_
     intro w4 hBx
     obtain ⟨g13, hg13⟩ : ∃ q, w3.heap.size = q := ⟨_, rfl⟩
     have HA : Hid (RowAt w4 g13 (jcells jzero)) := hid (by rw [← hg13]; exact hBx.row)
     have HGA : Hid (w3.heap.size = g13 ∧ w4.heap.size = g13 + 1 ∧ W2.heap.size ≤ g13) := hid ⟨hg13, by rw [hBx.size, hg13], by rw [← hg13]; exact HB2.out.size⟩
     have HJY := hid (HJY.out.bel hBx.be)
     replace HB2 : Hid (Below W2.heap.size W2 w4) := hid (HB2.out.trans (hBx.be.mono HB2.out.size))
     rw [hg13]
     clear hBx hg13
     refine hK.out _ _ (HM10.out _ HB2.out) (fun hHeld3 => ?_)
     clear hK K hHeld2
     refine held_st 10 rfl (fun K hK => ?_)
     refine oper_storeJ _ _ rfl rfl HA.out rfl ry SLY.out rfl rfl ?_
     intro w5 hSx
     have HA := hid hSx.row
     have HJY := hid (HJY.out.apart hSx.apart (fun k hk _ e => by have h1 := HGA.out; have h2 := HYB.out; omega))
     replace HB2 : Hid (Below W2.heap.size W2 w5) := hid (HB2.out.trans (hSx.apart.below HB2.out.size (fun i hi e => by have := HGA.out; omega)))
     clear hSx
     refine hK.out _ _ (HM10.out _ HB2.out) (fun hHeld4 => ?_)
     clear hK K hHeld3
     refine held_ta 11 hHeld4 ?_
     refine wpAnyH_done (by kernel_rfl) ?_ _
     clear hHeld4
     refine hK2 _ _ ?_
     clear hK2 K2 hcat hsm HM10
     have HN2 := hid (HI2.out.1.below HB2.out)
     have HX2 := hid (HI2.out.2.1.below HB2.out)
     have HJX := hid (HI2.out.2.2.1.bel HB2.out)
     skip
     refine wpIn_seq_k (fun K3 hK3 => ?_)
     refine wpIn_seq_k (fun K4 hK4 => ?_)
     have hi9 : pre.length < r1.1.l.length := (List.getElem?_eq_some_iff.1 HX.out).1
     have hlti : (pre.length : Int) < (r1.1.l.length : Int) := by omega
     have hge : decide (r1.1.l.length ≤ pre.length) = false := decide_eq_false (by omega)
     obtain ⟨gl, fl, ly9, c9, hlq, hra, hjm⟩ : ∃ gl fl ly9 c9, r1.2.1 = .slice (some ⟨gl, fl, none⟩) r1.1.l.length c9 ∧ (∀ V, Below w.heap.size w V → V.rangeAt gl (fl + pre.length * 8) (jcells (xr.1, ly9))) ∧ JV w S1 (xr.1, ly9) := by
      cases HJ1.out with
      | mk _ xs hn hl hs9 =>
       obtain ⟨p2, c2, e2, _, _, hL2⟩ := hl
       obtain ⟨g2, f2, e3, _, hg2, hr2⟩ := hL2 (by omega)
       refine ⟨g2, f2, xs pre.length, c2, by rw [e2, e3], fun V hV c v hc => ?_, hs9 _ _ HX.out⟩
       have hc8 : c < 8 := (List.getElem?_eq_some_iff.1 hc).1
       rw [hV.cell (p := ⟨g2, f2 + pre.length * 8 + c, none⟩) hg2, hr2 _ _ HX.out c hc8]; exact hc
     have HM11 : Hid (∀ V, Below w5.heap.size w5 V → (fun wq => RowAt wq g9 (jcells xr) ∧ RowAt wq g13 (jcells ry) ∧ wq.cell? ⟨g + 1, 6, none⟩ = some (.slice (some ⟨gl, fl, none⟩) r1.1.l.length c9) ∧ wq.cell? ⟨gn, 0, none⟩ = some (.int .i64 (pre.length : Int)) ∧ wq.rangeAt gl (fl + pre.length * 8) (jcells (xr.1, ly9))) V) := hid (fun V hV => ⟨HX2.out.below hV, HA.out.below hV, by rw [← hlq]; exact (HN2.out.below hV).i.b1.cell 6 _ rfl, (HN2.out.below hV).cn, hra V ((HN2.out.below hV).i.be)⟩)
     have HJM := hid hjm
     have HB3 : Hid (Below w5.heap.size w5 w5.drew) := hid (Below.refl _ _).drew
     clear hlq hra hjm hi9
     try simp only [Act.put, List.setIfInBounds_toArray, List.set_cons_zero, List.set_cons_succ]
     refine region_in_held (S := (fun wq => RowAt wq g9 (jcells xr) ∧ RowAt wq g13 (jcells ry) ∧ wq.cell? ⟨g + 1, 6, none⟩ = some (.slice (some ⟨gl, fl, none⟩) r1.1.l.length c9) ∧ wq.cell? ⟨gn, 0, none⟩ = some (.int .i64 (pre.length : Int)) ∧ wq.rangeAt gl (fl + pre.length * 8) (jcells (xr.1, ly9)))) (by kernel_rfl) (by rintro ⟨_, _, h⟩; exact h) (by kernel_rfl) (HM11.out _ HB3.out) (fun hHeld0 => ?_)
     generalize w5.drew = wd11 at *
     refine held_ta 0 hHeld0 ?_
     refine held_st 1 rfl (fun K hK => ?_)
     go_simp
     refine (num_calls _ wd11).mono ?_
     rintro ez wq9 ⟨rfl, rfl⟩
     refine hK.out _ _ (HM11.out _ HB3.out) (fun hHeld1 => ?_)
     clear hK K hHeld0
     refine held_ta 2 hHeld1 ?_
     refine held_ta 3 hHeld1 ?_
     refine held_tv 4 (jval xr) rfl (fun wq hSq => exec_loadJ _ rfl rfl xr hSq.1) hHeld1 ?_
     refine held_tv 5 (jval ry) rfl (fun wq hSq => exec_loadJ _ rfl rfl ry hSq.2.1) hHeld1 ?_
     refine held_st 6 rfl (fun K hK => ?_)
     go_simp
     refine (sameL_calls HJX.out _ ry wd11 HB3.out (HJY.out.bel HB3.out)).mono ?_
     rintro ez w6 ⟨bb, rfl, hbb, hb6⟩
     obtain rfl : bb = true := hbb.2 HRY.out.symm
     replace HB3 : Hid (Below w5.heap.size w5 w6) := hid (HB3.out.trans (hb6.mono HB3.out.size))
     clear hbb hb6
     refine hK.out _ _ (HM11.out _ HB3.out) (fun hHeld2 => ?_)
     clear hK K hHeld1
     refine held_ta 7 hHeld2 ?_
     refine held_ta 8 hHeld2 ?_
     refine held_ta 9 hHeld2 ?_
     refine held_ta 10 hHeld2 ?_
     refine held_ta 11 hHeld2 ?_
     refine held_ta 12 hHeld2 ?_
     refine held_ta 13 hHeld2 ?_
     refine held_ta 14 hHeld2 ?_
     refine held_ta 15 hHeld2 ?_
     refine held_ta 16 hHeld2 ?_
     refine held_tv 17 (jval xr) rfl (fun wq hSq => exec_loadJ _ rfl rfl xr hSq.1) hHeld2 ?_
     refine held_ta 18 hHeld2 ?_
     refine held_ta 19 hHeld2 ?_
     refine held_ta 20 hHeld2 ?_
     refine held_ta 21 hHeld2 ?_
     refine held_tv 22 (jval (xr.1, ly9)) rfl (fun wq hSq => exec_load8 _ rfl rfl (xr.1, ly9) hSq.2.2.2.2) hHeld2 ?_
     refine held_st 23 rfl (fun K hK => ?_)
     go_simp
     refine (sameL_calls HJX.out S1 (xr.1, ly9) w6 HB3.out (HJM.out.bel (HN2.out.below HB3.out).i.be)).mono ?_
     rintro ez w7 ⟨bb, rfl, hbb, hb7⟩
     obtain rfl : bb = true := hbb.2 rfl
     replace HB3 : Hid (Below w5.heap.size w5 w7) := hid (HB3.out.trans (hb7.mono HB3.out.size))
     clear hbb hb7
     refine hK.out _ _ (HM11.out _ HB3.out) (fun hHeld3 => ?_)
     clear hK K hHeld2
     refine held_ta 24 hHeld3 ?_
     refine held_ta 25 hHeld3 ?_
     refine wpAnyH_done (by kernel_rfl) ?_ _
     clear hHeld3
     refine hK4 _ _ ?_
     refine wpIn_cond_false rfl ?_
     refine wpIn_skip ?_
     refine hK3 _ _ ?_
     clear hK3 hK4 K3 K4 hlti hge HM11 HJM
     have HN7 := hid (HN2.out.below HB3.out)
     have HX7 := hid (HX2.out.below HB3.out)
     have HJX7 := hid (HJX.out.bel HB3.out)
     have HW27 : Hid (Below W2.heap.size W2 w7) := hid (HB2.out.trans (HB3.out.mono HB2.out.size))
     clear HN2 HX2 HJX HA HJY HB3 HB2 SLY HYB HGA HRY
     refine wpIn_seq_k (fun K3 hK3 => ?_)
     refine wpIn_seq_k (fun K4 hK4 => ?_)
     refine region_in_lit (by kernel_rfl) (by rintro ⟨_, _, h⟩; exact h) ?_
     have HJ17 := hid (HJ1.out.bel HN7.out.i.be)
     have HEW := hid (HE0.out.below (HBW.out _ HW27.out) (Nat.le_refl _))
     have HGV : Hid (getV r1.1 lb = if r1.1.kind = 5 then (xr.1, true) else (J.zero, false)) := hid (by rw [← HLB.out]; exact get_lab HC1.out HX.out)
     obtain ⟨b5, hb5⟩ : ∃ b, (r1.1.kind == 5) = b := ⟨_, rfl⟩
     have HB5 := hid hb5
     clear hb5
     obtain ⟨vz, hvz⟩ : ∃ q, getV r1.1 lb = q := ⟨_, rfl⟩
     have HVZ : Hid (vz.2 = b5 ∧ (b5 = true → vz.1 = xr.1)) := hid (by
      rw [← hvz, HGV.out, ← HB5.out]
      by_cases h5 : r1.1.kind = 5
      ·rw [if_pos h5, h5]; exact ⟨rfl, fun _ => rfl⟩
      rw [if_neg h5, beq_eq_false_iff_ne.2 h5]; exact ⟨rfl, fun e => (by cases e)⟩)
     go_wp2_with (first | (refine wpList_loadJ rfl _ rfl r1 HN7.out.i.b1 rfl ?_) | (refine wpList_allocJ rfl rfl ?_; intro w9 hBx) | (refine wpList_storeJ rfl _ _ rfl rfl hBx.row rfl rz SLZ.out rfl rfl ?_; intro w10 hSx))
     have hgt := getP_calls (r1 := r1) HJ17.out HEW.out.tab HEW.out.utf w7 (Below.refl _ _) (Nat.le_trans HZ1.out (by decide)) lb
     rw [hvz] at hgt
     refine hgt.mono ?_
     rintro ez w8 ⟨lz, nz, rfl, hjz, hb8⟩
     clear hgt hvz HGV
     obtain ⟨rz, hrz⟩ : ∃ r : JR, (vz.1, lz, nz) = r := ⟨_, rfl⟩
     have HRZ : Hid (rz.1 = vz.1) := hid (by rw [← hrz])
     rw [hrz] at hjz ⊢
     rw [HVZ.out.1]
     have HJZ := hid hjz
     have SLZ := hid hjz.slJ
     have HB8 := hid hb8
     clear hjz hb8 hrz
     go_wp2_with (first | (refine wpList_allocJ rfl rfl ?_; intro w9 hBx) | (refine wpList_storeJ rfl _ _ rfl rfl hBx.row rfl rz SLZ.out rfl rfl ?_; intro w10 hSx))
     skip
     have HBT : Hid (Below w7.heap.size w7 w10) := hid (hSx.below (hBx.below HB8.out HB8.out.size) HB8.out.size (Nat.le_trans HB8.out.size hBx.be.size))
     have HZA := hid hSx.row
     have HJZ := hid (HJZ.out.bel (hSx.below hBx.be (Nat.le_refl _) hBx.be.size))
     have HN10 := hid (HN7.out.below HBT.out)
     have HX10 := hid (HX7.out.below HBT.out)
     have HJX10 := hid (HJX7.out.bel HBT.out)
     have HW10 : Hid (Below W2.heap.size W2 w10) := hid (HW27.out.trans (HBT.out.mono HW27.out.size))
     obtain ⟨gz, hgz⟩ : ∃ q, w8.heap.size = q := ⟨_, rfl⟩
     rw [hgz] at HZA ⊢
     clear hBx hSx hgz HN7 HX7 HJX7 HBT HW27 HB8
     refine wpIn_seq_k (fun K5 hK5 => ?_)
     refine region_in_lit (by kernel_rfl) (by rintro ⟨_, _, h⟩; exact h) ?_
     have k0 := HN10.out.i.b1.cell 0 _ rfl
     have e5 := HB5.out
     cases b5
     ·
      go_wp2_with fail
      obtain ⟨w11, hw11⟩ : ∃ V, w10 = V := ⟨_, rfl⟩
      rw [hw11] at HN10 HX10 HJX10 HW10 ⊢
      have HN11 := HN10
      have HX11 := HX10
      have HJX11 := HJX10
      have HW11 := HW10
      clear hw11 HN10 HX10 HJX10 HW10
      refine wpIn_cond_false rfl ?_
      refine wpIn_skip ?_
      refine hK3 _ _ ?_
      clear hK3 K3 k0 e5
      have cn := HN11.out.cn
      have fn := HN11.out.fn
      have hwi : IntKind.i64.wrap ((pre.length : Int) + 1) = ((pre.length + 1 : Nat) : Int) := by have := HLN.out; have := (List.getElem?_eq_some_iff.1 HX.out).1; rw [IntWalk.i64_in _ (by omega)]; omega
      refine wpIn_seq_k (fun K4 hK4 => ?_)
      refine region_in_lit (by kernel_rfl) (by rintro ⟨_, _, h⟩; exact h) ?_
      go_wp2_with fail
      have HN12 := hid HN11.out.count
      have ha12 := Apart.set (S := fun k => k = gn) w11 (a := ⟨gn, 0, none⟩) rfl (.int .i64 ((pre.length + 1 : Nat) : Int))
      have hk12 : KeepsFrom WN.heap.size w11 (w11.setCell ⟨gn, 0, none⟩ (.int .i64 ((pre.length + 1 : Nat) : Int))) := (KeepsOthers.setCell _ _ _).from _
      have hg3 := HNB.out
      have hg4 := HI2.out.2.2.2
      have hg5 := HN0.out.2
      have HX12 := hid (HX11.out.apart ha12 (by show ¬ g9 = gn; omega))
      have HJX12 := hid (HJX11.out.apart ha12 (fun k hk _ e => by omega))
      have HC12 := hid ((HC2.out.below HW11.out).apart ha12 (by have := HGL.out; omega) (fun k hk e => by omega))
      have HK12 : Hid (KeepsFrom WN.heap.size W2 (w11.setCell ⟨gn, 0, none⟩ (.int .i64 ((pre.length + 1 : Nat) : Int)))) := hid (KeepsFrom.trans ⟨HW11.out.size, fun k o _ hk _ => (HW11.out.block k (Array.getElem?_eq_some_iff.1 hk).1).trans hk⟩ hk12)
      obtain ⟨w12, hw12⟩ : ∃ V, w11.setCell ⟨gn, 0, none⟩ (.int .i64 ((pre.length + 1 : Nat) : Int)) = V := ⟨_, rfl⟩
      rw [hw12] at HN12 HX12 HJX12 HC12 HK12
      first | rw [hw12] | (push_cast at hw12; rw [hw12])
      clear hw12 ha12 hk12 cn fn hwi hg3 hg4 hg5 HN11 HX11 HJX11
      skip
      have HM17 : Hid (∀ V, Below w12.heap.size w12 V → (fun wq => RowAt wq g (jcells r0) ∧ RowAt wq g9 (jcells xr) ∧ wq.cell? ⟨g + 2, 0, none⟩ = some (.string ⟨pa.toArray⟩) ∧ wq.cell? ⟨g + 3, 0, none⟩ = some (.int .i64 lc) ∧ wq.frozen? ⟨g + 3, 0, none⟩ = false) V) := hid (fun V hV => ⟨(HN12.out.below hV).i.b0, HX12.out.below hV, (HN12.out.below hV).i.c2, (HN12.out.below hV).i.c3, (HN12.out.below hV).i.f3⟩)
      have HB4 : Hid (Below w12.heap.size w12 w12.drew) := hid (Below.refl _ _).drew
      have hwl : IntKind.i64.wrap (lc - 1) = lc - 1 := IntWalk.i64_in _ (by have := HLC.out; omega)
      have hcat := bytes_app pa pe
      have hsm : ¬ 9223372036854775807 < pa.length + pe.length := by have := HPP.out.1; rw [List.length_append] at this; omega
      refine wpIn_seq_k (fun K5 hK5 => ?_)
      try simp only [Act.put, List.setIfInBounds_toArray, List.set_cons_zero, List.set_cons_succ]
      refine region_in_heldT [9] (S := (fun wq => RowAt wq g (jcells r0) ∧ RowAt wq g9 (jcells xr) ∧ wq.cell? ⟨g + 2, 0, none⟩ = some (.string ⟨pa.toArray⟩) ∧ wq.cell? ⟨g + 3, 0, none⟩ = some (.int .i64 lc) ∧ wq.frozen? ⟨g + 3, 0, none⟩ = false)) (by kernel_rfl) (by rintro ⟨_, _, h⟩; exact h) (by kernel_rfl) (HM17.out _ HB4.out) (fun hHeld0 => ?_)
      generalize w12.drew = wd17 at *
      skip
      have HB1217 : Hid (∀ V, Below w12.heap.size w12 V → Below w.heap.size w V) := hid (fun V hV => (HN12.out.below hV).i.be)
      refine heldT_tv 0 (jval r0) rfl (fun wq hSq => exec_loadJ _ rfl rfl r0 hSq.1) hHeld0 ?_
      refine heldT_tv 1 (jval xr) rfl (fun wq hSq => exec_loadJ _ rfl rfl xr hSq.2.1) hHeld0 ?_
      refine heldT_ta 2 hHeld0 ?_
      refine heldT_ta 3 hHeld0 ?_
      refine heldT_ta 6 hHeld0 ?_
      refine heldT_ta 7 hHeld0 ?_
      refine heldT_step 4 rfl (fun K hK => ?_)
      go_simp
      refine (HPC.out wd17).mono ?_
      rintro ez wq9 ⟨rfl, rfl⟩
      refine hK.out _ _ (HM17.out _ HB4.out) (fun hHeld1 => ?_)
      clear hK K hHeld0
      refine heldT_ta 5 hHeld1 ?_
      refine heldT_step 8 rfl (fun K hK => ?_)
      go_simp
      have hwk := HIH.out wd17 (fun k => WN.heap.size + 2 ≤ k) xr (us ++ [lb]) (lc - 1) (by have := HN.out; have := HSX.out.2.1; omega) (HB.out.trans ((HB1217.out _ HB4.out).mono HB.out.size)) (HJX12.out.bel HB4.out) (check_mem HC1.out HX.out) (by rw [walkR_snoc us _ _ _ HW1.out, ← HLB.out]; exact step_lab HG1.out (Nat.le_trans HLN.out (by decide)) HX.out) (by rw [pth_snoc, HPA.out, HPE.out]; exact HPP.out.2) (by have := HLC.out; omega) (by have := HLC.out; omega)
      rw [pth_snoc, HPA.out, HPE.out] at hwk
      refine hwk.mono ?_
      rintro ez w13 ⟨k2, rfl, hk0, hk2, hb13⟩
      have HK2 : Hid (0 ≤ k2 ∧ k2 ≤ 200) := hid ⟨hk0, hk2⟩
      replace HB4 : Hid (Below w12.heap.size w12 w13) := hid (HB4.out.trans (hb13.mono HB4.out.size))
      have c39 := (HN12.out.below HB4.out).i.c3
      have f39 := (HN12.out.below HB4.out).i.f3
      clear hwk hk0 hk2 hb13
      refine hK.out _ _ (HM17.out _ HB4.out) (fun hHeld2 => ?_)
      clear hK K hHeld1
      refine heldT_late ?_
      clear hHeld2
      have hHeld3 : True := trivial
      refine held_st 9 rfl (fun K hK => ?_)
      go_simp
      skip
      refine hK.out _ _ trivial (fun hHeld4 => ?_)
      clear hK K hHeld3
      refine wpAnyH_done (by kernel_rfl) ?_ _
      clear hHeld4
      refine hK5 _ _ ?_
      clear hK5 K5 hcat hsm hwl c39 f39 HM17 HB1217
      have HN13 := hid (HN12.out.below HB4.out)
      have HC12 : Hid (ClB (fun k => gA < k ∧ k < gn) gA rA w12) := HC12
      have HC13 := hid (HC12.out.below HB4.out)
      have HK13 : Hid (KeepsFrom WN.heap.size W2 w13) := hid (KeepsFrom.trans HK12.out ⟨HB4.out.size, fun k o _ hk _ => (HB4.out.block k (Array.getElem?_eq_some_iff.1 hk).1).trans hk⟩)
      have HN14 := hid (HN13.out.left k2)
      have ha14 := Apart.set (S := fun k => k = g + 3) w13 (a := ⟨g + 3, 0, none⟩) rfl (.int .i64 k2)
      have HC14 := hid (HC13.out.apart ha14 (by have := HGL.out; omega) (fun k hk e => by have := HGL.out; omega))
      have HK14 : Hid (KeepsFrom WN.heap.size W2 (w13.setCell ⟨g + 3, 0, none⟩ (.int .i64 k2))) := hid (KeepsFrom.trans HK13.out ((KeepsOthers.setCell _ _ _).from _))
      obtain ⟨w14, hw14⟩ : ∃ V, w13.setCell ⟨g + 3, 0, none⟩ (.int .i64 k2) = V := ⟨_, rfl⟩
      rw [hw14] at HN14 HC14 HK14 ⊢
      clear hw14 ha14 HN12 HX12 HJX12 HK12 HB4 HN13 HC13 HK13
      have c3 := HN14.out.i.c3
      have f4 := HN14.out.i.f4
      obtain ⟨k4, c4⟩ := HN14.out.i.c4
      by_cases hk0 : k2 ≤ 0
      ·
       gi_wp2
       have hc9 := World.cell?_setCell_same' w14 ⟨g + 4, 0, none⟩ (.int .i64 k2) (by rw [c4]; rfl)
       exact ⟨HK14.out.trans ((KeepsOthers.setCell _ _ _).from _), rfl, HN14.out.i.be.trans ((Below.refl _ w14).setCell (p := ⟨g + 4, 0, none⟩) (by show w.heap.size ≤ g + 4; have := HGW.out; omega) _), k2, HK2.out.1, HK2.out.2, hc9⟩
      gi_wp2
      exact ⟨HK14.out, k2, by omega, HK2.out.2, by rw [List.length_append, List.length_singleton]; exact HN14.out, HC14.out⟩
     have j0 : w10.cell? ⟨g9, 0, none⟩ = some (.int .i64 xr.1.kind) := HX10.out.cell 0 _ rfl
     have z0 : w10.cell? ⟨gz, 0, none⟩ = some (.int .i64 rz.1.kind) := HZA.out.cell 0 _ rfl
     have j1 : w10.cell? ⟨g9, 1, none⟩ = some (.bool xr.1.b) := HX10.out.cell 1 _ rfl
     have z1 : w10.cell? ⟨gz, 1, none⟩ = some (.bool rz.1.b) := HZA.out.cell 1 _ rfl
     have j2 : w10.cell? ⟨g9, 2, none⟩ = some (.bool xr.1.n.neg) := HX10.out.cell 2 _ rfl
     have z2 : w10.cell? ⟨gz, 2, none⟩ = some (.bool rz.1.n.neg) := HZA.out.cell 2 _ rfl
     have j3 : w10.cell? ⟨g9, 3, none⟩ = some (.string ⟨xr.1.n.digits.toArray⟩) := HX10.out.cell 3 _ rfl
     have z3 : w10.cell? ⟨gz, 3, none⟩ = some (.string ⟨rz.1.n.digits.toArray⟩) := HZA.out.cell 3 _ rfl
     have j4 : w10.cell? ⟨g9, 4, none⟩ = some (.int .i64 xr.1.n.exp) := HX10.out.cell 4 _ rfl
     have z4 : w10.cell? ⟨gz, 4, none⟩ = some (.int .i64 rz.1.n.exp) := HZA.out.cell 4 _ rfl
     have j5 : w10.cell? ⟨g9, 5, none⟩ = some (.string ⟨xr.1.t.toArray⟩) := HX10.out.cell 5 _ rfl
     have z5 : w10.cell? ⟨gz, 5, none⟩ = some (.string ⟨rz.1.t.toArray⟩) := HZA.out.cell 5 _ rfl
     have j6 : w10.cell? ⟨g9, 6, none⟩ = some (xr.2.1) := HX10.out.cell 6 _ rfl
     have z6 : w10.cell? ⟨gz, 6, none⟩ = some (rz.2.1) := HZA.out.cell 6 _ rfl
     have j7 : w10.cell? ⟨g9, 7, none⟩ = some (xr.2.2) := HX10.out.cell 7 _ rfl
     have z7 : w10.cell? ⟨gz, 7, none⟩ = some (rz.2.2) := HZA.out.cell 7 _ rfl
     go_wp2_with fail
     refine (sameL_calls HJX10.out _ rz w10 (Below.refl _ _) HJZ.out).mono ?_
     rintro ez w11 ⟨bb, rfl, hbb, hb11⟩
     obtain rfl : bb = true := hbb.2 (by rw [HRZ.out, HVZ.out.2 (by first | rfl | trivial)])
     clear hbb j0 j1 j2 j3 j4 j5 j6 j7 z0 z1 z2 z3 z4 z5 z6 z7
     have HN11 := hid (HN10.out.below hb11)
     have HX11 := hid (HX10.out.below hb11)
     have HJX11 := hid (HJX10.out.bel hb11)
     have HW11 : Hid (Below W2.heap.size W2 w11) := hid (HW10.out.trans (hb11.mono HW10.out.size))
     clear hb11
     go_wp2_with fail
     refine wpIn_cond_false rfl ?_
     refine wpIn_skip ?_
     refine hK3 _ _ ?_
     clear hK3 K3 k0 e5
     have cn := HN11.out.cn
     have fn := HN11.out.fn
     have hwi : IntKind.i64.wrap ((pre.length : Int) + 1) = ((pre.length + 1 : Nat) : Int) := by have := HLN.out; have := (List.getElem?_eq_some_iff.1 HX.out).1; rw [IntWalk.i64_in _ (by omega)]; omega
     refine wpIn_seq_k (fun K4 hK4 => ?_)
     refine region_in_lit (by kernel_rfl) (by rintro ⟨_, _, h⟩; exact h) ?_
     go_wp2_with fail
     have HN12 := hid HN11.out.count
     have ha12 := Apart.set (S := fun k => k = gn) w11 (a := ⟨gn, 0, none⟩) rfl (.int .i64 ((pre.length + 1 : Nat) : Int))
     have hk12 : KeepsFrom WN.heap.size w11 (w11.setCell ⟨gn, 0, none⟩ (.int .i64 ((pre.length + 1 : Nat) : Int))) := (KeepsOthers.setCell _ _ _).from _
     have hg3 := HNB.out
     have hg4 := HI2.out.2.2.2
     have hg5 := HN0.out.2
     have HX12 := hid (HX11.out.apart ha12 (by show ¬ g9 = gn; omega))
     have HJX12 := hid (HJX11.out.apart ha12 (fun k hk _ e => by omega))
     have HC12 := hid ((HC2.out.below HW11.out).apart ha12 (by have := HGL.out; omega) (fun k hk e => by omega))
     have HK12 : Hid (KeepsFrom WN.heap.size W2 (w11.setCell ⟨gn, 0, none⟩ (.int .i64 ((pre.length + 1 : Nat) : Int)))) := hid (KeepsFrom.trans ⟨HW11.out.size, fun k o _ hk _ => (HW11.out.block k (Array.getElem?_eq_some_iff.1 hk).1).trans hk⟩ hk12)
     obtain ⟨w12, hw12⟩ : ∃ V, w11.setCell ⟨gn, 0, none⟩ (.int .i64 ((pre.length + 1 : Nat) : Int)) = V := ⟨_, rfl⟩
     rw [hw12] at HN12 HX12 HJX12 HC12 HK12
     first | rw [hw12] | (push_cast at hw12; rw [hw12])
     clear hw12 ha12 hk12 cn fn hwi hg3 hg4 hg5 HN11 HX11 HJX11
     skip
     have HM17 : Hid (∀ V, Below w12.heap.size w12 V → (fun wq => RowAt wq g (jcells r0) ∧ RowAt wq g9 (jcells xr) ∧ wq.cell? ⟨g + 2, 0, none⟩ = some (.string ⟨pa.toArray⟩) ∧ wq.cell? ⟨g + 3, 0, none⟩ = some (.int .i64 lc) ∧ wq.frozen? ⟨g + 3, 0, none⟩ = false) V) := hid (fun V hV => ⟨(HN12.out.below hV).i.b0, HX12.out.below hV, (HN12.out.below hV).i.c2, (HN12.out.below hV).i.c3, (HN12.out.below hV).i.f3⟩)
     have HB4 : Hid (Below w12.heap.size w12 w12.drew) := hid (Below.refl _ _).drew
     have hwl : IntKind.i64.wrap (lc - 1) = lc - 1 := IntWalk.i64_in _ (by have := HLC.out; omega)
     have hcat := bytes_app pa pe
     have hsm : ¬ 9223372036854775807 < pa.length + pe.length := by have := HPP.out.1; rw [List.length_append] at this; omega
     refine wpIn_seq_k (fun K5 hK5 => ?_)
     try simp only [Act.put, List.setIfInBounds_toArray, List.set_cons_zero, List.set_cons_succ]
     refine region_in_heldT [9] (S := (fun wq => RowAt wq g (jcells r0) ∧ RowAt wq g9 (jcells xr) ∧ wq.cell? ⟨g + 2, 0, none⟩ = some (.string ⟨pa.toArray⟩) ∧ wq.cell? ⟨g + 3, 0, none⟩ = some (.int .i64 lc) ∧ wq.frozen? ⟨g + 3, 0, none⟩ = false)) (by kernel_rfl) (by rintro ⟨_, _, h⟩; exact h) (by kernel_rfl) (HM17.out _ HB4.out) (fun hHeld0 => ?_)
     generalize w12.drew = wd17 at *
     skip
     have HB1217 : Hid (∀ V, Below w12.heap.size w12 V → Below w.heap.size w V) := hid (fun V hV => (HN12.out.below hV).i.be)
     refine heldT_tv 0 (jval r0) rfl (fun wq hSq => exec_loadJ _ rfl rfl r0 hSq.1) hHeld0 ?_
     refine heldT_tv 1 (jval xr) rfl (fun wq hSq => exec_loadJ _ rfl rfl xr hSq.2.1) hHeld0 ?_
     refine heldT_ta 2 hHeld0 ?_
     refine heldT_ta 3 hHeld0 ?_
     refine heldT_ta 6 hHeld0 ?_
     refine heldT_ta 7 hHeld0 ?_
     refine heldT_step 4 rfl (fun K hK => ?_)
     go_simp
     refine (HPC.out wd17).mono ?_
     rintro ez wq9 ⟨rfl, rfl⟩
     refine hK.out _ _ (HM17.out _ HB4.out) (fun hHeld1 => ?_)
     clear hK K hHeld0
     refine heldT_ta 5 hHeld1 ?_
     refine heldT_step 8 rfl (fun K hK => ?_)
     go_simp
     have hwk := HIH.out wd17 (fun k => WN.heap.size + 2 ≤ k) xr (us ++ [lb]) (lc - 1) (by have := HN.out; have := HSX.out.2.1; omega) (HB.out.trans ((HB1217.out _ HB4.out).mono HB.out.size)) (HJX12.out.bel HB4.out) (check_mem HC1.out HX.out) (by rw [walkR_snoc us _ _ _ HW1.out, ← HLB.out]; exact step_lab HG1.out (Nat.le_trans HLN.out (by decide)) HX.out) (by rw [pth_snoc, HPA.out, HPE.out]; exact HPP.out.2) (by have := HLC.out; omega) (by have := HLC.out; omega)
     rw [pth_snoc, HPA.out, HPE.out] at hwk
     refine hwk.mono ?_
     rintro ez w13 ⟨k2, rfl, hk0, hk2, hb13⟩
     have HK2 : Hid (0 ≤ k2 ∧ k2 ≤ 200) := hid ⟨hk0, hk2⟩
     replace HB4 : Hid (Below w12.heap.size w12 w13) := hid (HB4.out.trans (hb13.mono HB4.out.size))
     have c39 := (HN12.out.below HB4.out).i.c3
     have f39 := (HN12.out.below HB4.out).i.f3
     clear hwk hk0 hk2 hb13
     refine hK.out _ _ (HM17.out _ HB4.out) (fun hHeld2 => ?_)
     clear hK K hHeld1
     refine heldT_late ?_
     clear hHeld2
     have hHeld3 : True := trivial
     refine held_st 9 rfl (fun K hK => ?_)
     go_simp
     skip
     refine hK.out _ _ trivial (fun hHeld4 => ?_)
     clear hK K hHeld3
     refine wpAnyH_done (by kernel_rfl) ?_ _
     clear hHeld4
     refine hK5 _ _ ?_
     clear hK5 K5 hcat hsm hwl c39 f39 HM17 HB1217
     have HN13 := hid (HN12.out.below HB4.out)
     have HC12 : Hid (ClB (fun k => gA < k ∧ k < gn) gA rA w12) := HC12
     have HC13 := hid (HC12.out.below HB4.out)
     have HK13 : Hid (KeepsFrom WN.heap.size W2 w13) := hid (KeepsFrom.trans HK12.out ⟨HB4.out.size, fun k o _ hk _ => (HB4.out.block k (Array.getElem?_eq_some_iff.1 hk).1).trans hk⟩)
     have HN14 := hid (HN13.out.left k2)
     have ha14 := Apart.set (S := fun k => k = g + 3) w13 (a := ⟨g + 3, 0, none⟩) rfl (.int .i64 k2)
     have HC14 := hid (HC13.out.apart ha14 (by have := HGL.out; omega) (fun k hk e => by have := HGL.out; omega))
     have HK14 : Hid (KeepsFrom WN.heap.size W2 (w13.setCell ⟨g + 3, 0, none⟩ (.int .i64 k2))) := hid (KeepsFrom.trans HK13.out ((KeepsOthers.setCell _ _ _).from _))
     obtain ⟨w14, hw14⟩ : ∃ V, w13.setCell ⟨g + 3, 0, none⟩ (.int .i64 k2) = V := ⟨_, rfl⟩
     rw [hw14] at HN14 HC14 HK14 ⊢
     clear hw14 ha14 HN12 HX12 HJX12 HK12 HB4 HN13 HC13 HK13
     have c3 := HN14.out.i.c3
     have f4 := HN14.out.i.f4
     obtain ⟨k4, c4⟩ := HN14.out.i.c4
     by_cases hk0 : k2 ≤ 0
     ·
      gi_wp2
      have hc9 := World.cell?_setCell_same' w14 ⟨g + 4, 0, none⟩ (.int .i64 k2) (by rw [c4]; rfl)
      exact ⟨HK14.out.trans ((KeepsOthers.setCell _ _ _).from _), rfl, HN14.out.i.be.trans ((Below.refl _ w14).setCell (p := ⟨g + 4, 0, none⟩) (by show w.heap.size ≤ g + 4; have := HGW.out; omega) _), k2, HK2.out.1, HK2.out.2, hc9⟩
     gi_wp2
     exact ⟨HK14.out, k2, by omega, HK2.out.2, by rw [List.length_append, List.length_singleton]; exact HN14.out, HC14.out⟩
    refine oper_allocJ rfl ?_
    intro w4 hBx
    obtain ⟨g13, hg13⟩ : ∃ q, wd.heap.size = q := ⟨_, rfl⟩
    have HA : Hid (RowAt w4 g13 (jcells jzero)) := hid (by rw [← hg13]; exact hBx.row)
    have HGA : Hid (wd.heap.size = g13 ∧ w4.heap.size = g13 + 1 ∧ W2.heap.size ≤ g13) := hid ⟨hg13, by rw [hBx.size, hg13], by rw [← hg13]; exact HB2.out.size⟩
    replace HB2 : Hid (Below W2.heap.size W2 w4) := hid (HB2.out.trans (hBx.be.mono HB2.out.size))
    rw [hg13]
    clear hBx hg13
    refine hK.out _ _ (HM10.out _ HB2.out) (fun hHeld2 => ?_)
    clear hK K hHeld1
    refine held_st 5 rfl (fun K hK => ?_)
    go_simp
    obtain ⟨m9, hm9⟩ := HE0.out.ml
    have hpt := pointer_calls (r1 := r0) HJ0.out HE0.out.tab HE0.out.errs HE0.out.utf m9 hm9 w4 (HBW.out _ HB2.out) (Nat.le_trans HZ0.out (by decide)) (pa ++ pe) (by have := HPP.out.1; omega)
    rw [HPT.out] at hpt
    refine hpt.mono ?_
    rintro ez w3b ⟨ly, ny, rfl, hj, hb⟩
    clear hpt hm9
    obtain ⟨ry, hry⟩ : ∃ r : JR, (xr.1, ly, ny) = r := ⟨_, rfl⟩
    have HRY : Hid (ry.1 = xr.1) := hid (by rw [← hry])
    rw [hry] at hj ⊢
    obtain ⟨bY, hbY⟩ : ∃ q, w4.heap.size = q := ⟨_, rfl⟩
    obtain ⟨eY, heY⟩ : ∃ q, w3b.heap.size = q := ⟨_, rfl⟩
    have HJY : Hid (JV w3b (fun k => bY ≤ k ∧ k < eY) ry) := hid (hj.mono (fun k hk hs => ⟨by rw [← hbY]; exact hs, by rw [← heY]; exact hk⟩))
    have HYB : Hid (w4.heap.size = bY ∧ w3b.heap.size = eY) := hid ⟨hbY, heY⟩
    have SLY := hid HJY.out.slJ
    have HA := hid (HA.out.below hb)
    replace HB2 : Hid (Below W2.heap.size W2 w3b) := hid (HB2.out.trans (hb.mono HB2.out.size))
    clear hj hb hry hbY heY
    refine hK.out _ _ (HM10.out _ HB2.out) (fun hHeld3 => ?_)
    clear hK K hHeld2
    refine held_ta 6 hHeld3 ?_
    refine held_ta 7 hHeld3 ?_
    refine held_ta 8 hHeld3 ?_
    refine held_st 10 rfl (fun K hK => ?_)
    refine oper_storeJ _ _ rfl rfl HA.out rfl ry SLY.out rfl rfl ?_
    intro w5 hSx
    have HA := hid hSx.row
    have HJY := hid (HJY.out.apart hSx.apart (fun k hk _ e => by have h1 := HGA.out; have h2 := HYB.out; omega))
    replace HB2 : Hid (Below W2.heap.size W2 w5) := hid (HB2.out.trans (hSx.apart.below HB2.out.size (fun i hi e => by have := HGA.out; omega)))
    clear hSx
    refine hK.out _ _ (HM10.out _ HB2.out) (fun hHeld4 => ?_)
    clear hK K hHeld3
    refine held_ta 11 hHeld4 ?_
    refine wpAnyH_done (by kernel_rfl) ?_ _
    clear hHeld4
    refine hK2 _ _ ?_
    clear hK2 K2 hcat hsm HM10
    have HN2 := hid (HI2.out.1.below HB2.out)
    have HX2 := hid (HI2.out.2.1.below HB2.out)
    have HJX := hid (HI2.out.2.2.1.bel HB2.out)
    skip
    refine wpIn_seq_k (fun K3 hK3 => ?_)
    refine wpIn_seq_k (fun K4 hK4 => ?_)
    have hi9 : pre.length < r1.1.l.length := (List.getElem?_eq_some_iff.1 HX.out).1
    have hlti : (pre.length : Int) < (r1.1.l.length : Int) := by omega
    have hge : decide (r1.1.l.length ≤ pre.length) = false := decide_eq_false (by omega)
    obtain ⟨gl, fl, ly9, c9, hlq, hra, hjm⟩ : ∃ gl fl ly9 c9, r1.2.1 = .slice (some ⟨gl, fl, none⟩) r1.1.l.length c9 ∧ (∀ V, Below w.heap.size w V → V.rangeAt gl (fl + pre.length * 8) (jcells (xr.1, ly9))) ∧ JV w S1 (xr.1, ly9) := by
     cases HJ1.out with
     | mk _ xs hn hl hs9 =>
      obtain ⟨p2, c2, e2, _, _, hL2⟩ := hl
      obtain ⟨g2, f2, e3, _, hg2, hr2⟩ := hL2 (by omega)
      refine ⟨g2, f2, xs pre.length, c2, by rw [e2, e3], fun V hV c v hc => ?_, hs9 _ _ HX.out⟩
      have hc8 : c < 8 := (List.getElem?_eq_some_iff.1 hc).1
      rw [hV.cell (p := ⟨g2, f2 + pre.length * 8 + c, none⟩) hg2, hr2 _ _ HX.out c hc8]; exact hc
    have HM11 : Hid (∀ V, Below w5.heap.size w5 V → (fun wq => RowAt wq g9 (jcells xr) ∧ RowAt wq g13 (jcells ry) ∧ wq.cell? ⟨g + 1, 6, none⟩ = some (.slice (some ⟨gl, fl, none⟩) r1.1.l.length c9) ∧ wq.cell? ⟨gn, 0, none⟩ = some (.int .i64 (pre.length : Int)) ∧ wq.rangeAt gl (fl + pre.length * 8) (jcells (xr.1, ly9))) V) := hid (fun V hV => ⟨HX2.out.below hV, HA.out.below hV, by rw [← hlq]; exact (HN2.out.below hV).i.b1.cell 6 _ rfl, (HN2.out.below hV).cn, hra V ((HN2.out.below hV).i.be)⟩)
    have HJM := hid hjm
    have HB3 : Hid (Below w5.heap.size w5 w5.drew) := hid (Below.refl _ _).drew
    clear hlq hra hjm hi9
    try simp only [Act.put, List.setIfInBounds_toArray, List.set_cons_zero, List.set_cons_succ]
    refine region_in_held (S := (fun wq => RowAt wq g9 (jcells xr) ∧ RowAt wq g13 (jcells ry) ∧ wq.cell? ⟨g + 1, 6, none⟩ = some (.slice (some ⟨gl, fl, none⟩) r1.1.l.length c9) ∧ wq.cell? ⟨gn, 0, none⟩ = some (.int .i64 (pre.length : Int)) ∧ wq.rangeAt gl (fl + pre.length * 8) (jcells (xr.1, ly9)))) (by kernel_rfl) (by rintro ⟨_, _, h⟩; exact h) (by kernel_rfl) (HM11.out _ HB3.out) (fun hHeld0 => ?_)
    generalize w5.drew = wd11 at *
    refine held_ta 0 hHeld0 ?_
    refine held_st 1 rfl (fun K hK => ?_)
    go_simp
    refine (num_calls _ wd11).mono ?_
    rintro ez wq9 ⟨rfl, rfl⟩
    refine hK.out _ _ (HM11.out _ HB3.out) (fun hHeld1 => ?_)
    clear hK K hHeld0
    refine held_ta 2 hHeld1 ?_
    refine held_ta 3 hHeld1 ?_
    refine held_tv 4 (jval xr) rfl (fun wq hSq => exec_loadJ _ rfl rfl xr hSq.1) hHeld1 ?_
    refine held_tv 5 (jval ry) rfl (fun wq hSq => exec_loadJ _ rfl rfl ry hSq.2.1) hHeld1 ?_
    refine held_st 6 rfl (fun K hK => ?_)
    go_simp
    refine (sameL_calls HJX.out _ ry wd11 HB3.out (HJY.out.bel HB3.out)).mono ?_
    rintro ez w6 ⟨bb, rfl, hbb, hb6⟩
    obtain rfl : bb = true := hbb.2 HRY.out.symm
    replace HB3 : Hid (Below w5.heap.size w5 w6) := hid (HB3.out.trans (hb6.mono HB3.out.size))
    clear hbb hb6
    refine hK.out _ _ (HM11.out _ HB3.out) (fun hHeld2 => ?_)
    clear hK K hHeld1
    refine held_ta 7 hHeld2 ?_
    refine held_ta 8 hHeld2 ?_
    refine held_ta 9 hHeld2 ?_
    refine held_ta 10 hHeld2 ?_
    refine held_ta 11 hHeld2 ?_
    refine held_ta 12 hHeld2 ?_
    refine held_ta 13 hHeld2 ?_
    refine held_ta 14 hHeld2 ?_
    refine held_ta 15 hHeld2 ?_
    refine held_ta 16 hHeld2 ?_
    refine held_tv 17 (jval xr) rfl (fun wq hSq => exec_loadJ _ rfl rfl xr hSq.1) hHeld2 ?_
    refine held_ta 18 hHeld2 ?_
    refine held_ta 19 hHeld2 ?_
    refine held_ta 20 hHeld2 ?_
    refine held_ta 21 hHeld2 ?_
    refine held_tv 22 (jval (xr.1, ly9)) rfl (fun wq hSq => exec_load8 _ rfl rfl (xr.1, ly9) hSq.2.2.2.2) hHeld2 ?_
    refine held_st 23 rfl (fun K hK => ?_)
    go_simp
    refine (sameL_calls HJX.out S1 (xr.1, ly9) w6 HB3.out (HJM.out.bel (HN2.out.below HB3.out).i.be)).mono ?_
    rintro ez w7 ⟨bb, rfl, hbb, hb7⟩
    obtain rfl : bb = true := hbb.2 rfl
    replace HB3 : Hid (Below w5.heap.size w5 w7) := hid (HB3.out.trans (hb7.mono HB3.out.size))
    clear hbb hb7
    refine hK.out _ _ (HM11.out _ HB3.out) (fun hHeld3 => ?_)
    clear hK K hHeld2
    refine held_ta 24 hHeld3 ?_
    refine held_ta 25 hHeld3 ?_
    refine wpAnyH_done (by kernel_rfl) ?_ _
    clear hHeld3
    refine hK4 _ _ ?_
    refine wpIn_cond_false rfl ?_
    refine wpIn_skip ?_
    refine hK3 _ _ ?_
    clear hK3 hK4 K3 K4 hlti hge HM11 HJM
    have HN7 := hid (HN2.out.below HB3.out)
    have HX7 := hid (HX2.out.below HB3.out)
    have HJX7 := hid (HJX.out.bel HB3.out)
    have HW27 : Hid (Below W2.heap.size W2 w7) := hid (HB2.out.trans (HB3.out.mono HB2.out.size))
    clear HN2 HX2 HJX HA HJY HB3 HB2 SLY HYB HGA HRY
    refine wpIn_seq_k (fun K3 hK3 => ?_)
    refine wpIn_seq_k (fun K4 hK4 => ?_)
    refine region_in_lit (by kernel_rfl) (by rintro ⟨_, _, h⟩; exact h) ?_
    have HJ17 := hid (HJ1.out.bel HN7.out.i.be)
    have HEW := hid (HE0.out.below (HBW.out _ HW27.out) (Nat.le_refl _))
    have HGV : Hid (getV r1.1 lb = if r1.1.kind = 5 then (xr.1, true) else (J.zero, false)) := hid (by rw [← HLB.out]; exact get_lab HC1.out HX.out)
    obtain ⟨b5, hb5⟩ : ∃ b, (r1.1.kind == 5) = b := ⟨_, rfl⟩
    have HB5 := hid hb5
    clear hb5
    obtain ⟨vz, hvz⟩ : ∃ q, getV r1.1 lb = q := ⟨_, rfl⟩
    have HVZ : Hid (vz.2 = b5 ∧ (b5 = true → vz.1 = xr.1)) := hid (by
     rw [← hvz, HGV.out, ← HB5.out]
     by_cases h5 : r1.1.kind = 5
     ·rw [if_pos h5, h5]; exact ⟨rfl, fun _ => rfl⟩
     rw [if_neg h5, beq_eq_false_iff_ne.2 h5]; exact ⟨rfl, fun e => (by cases e)⟩)
    go_wp2_with (first | (refine wpList_loadJ rfl _ rfl r1 HN7.out.i.b1 rfl ?_) | (refine wpList_allocJ rfl rfl ?_; intro w9 hBx) | (refine wpList_storeJ rfl _ _ rfl rfl hBx.row rfl rz SLZ.out rfl rfl ?_; intro w10 hSx))
    have hgt := getP_calls (r1 := r1) HJ17.out HEW.out.tab HEW.out.utf w7 (Below.refl _ _) (Nat.le_trans HZ1.out (by decide)) lb
    rw [hvz] at hgt
    refine hgt.mono ?_
    rintro ez w8 ⟨lz, nz, rfl, hjz, hb8⟩
    clear hgt hvz HGV
    obtain ⟨rz, hrz⟩ : ∃ r : JR, (vz.1, lz, nz) = r := ⟨_, rfl⟩
    have HRZ : Hid (rz.1 = vz.1) := hid (by rw [← hrz])
    rw [hrz] at hjz ⊢
    rw [HVZ.out.1]
    have HJZ := hid hjz
    have SLZ := hid hjz.slJ
    have HB8 := hid hb8
    clear hjz hb8 hrz
    go_wp2_with (first | (refine wpList_allocJ rfl rfl ?_; intro w9 hBx) | (refine wpList_storeJ rfl _ _ rfl rfl hBx.row rfl rz SLZ.out rfl rfl ?_; intro w10 hSx))
    skip
    have HBT : Hid (Below w7.heap.size w7 w10) := hid (hSx.below (hBx.below HB8.out HB8.out.size) HB8.out.size (Nat.le_trans HB8.out.size hBx.be.size))
    have HZA := hid hSx.row
    have HJZ := hid (HJZ.out.bel (hSx.below hBx.be (Nat.le_refl _) hBx.be.size))
    have HN10 := hid (HN7.out.below HBT.out)
    have HX10 := hid (HX7.out.below HBT.out)
    have HJX10 := hid (HJX7.out.bel HBT.out)
    have HW10 : Hid (Below W2.heap.size W2 w10) := hid (HW27.out.trans (HBT.out.mono HW27.out.size))
    obtain ⟨gz, hgz⟩ : ∃ q, w8.heap.size = q := ⟨_, rfl⟩
    rw [hgz] at HZA ⊢
    clear hBx hSx hgz HN7 HX7 HJX7 HBT HW27 HB8
    refine wpIn_seq_k (fun K5 hK5 => ?_)
    refine region_in_lit (by kernel_rfl) (by rintro ⟨_, _, h⟩; exact h) ?_
    have k0 := HN10.out.i.b1.cell 0 _ rfl
    have e5 := HB5.out
    cases b5
    ·
     go_wp2_with fail
     obtain ⟨w11, hw11⟩ : ∃ V, w10 = V := ⟨_, rfl⟩
     rw [hw11] at HN10 HX10 HJX10 HW10 ⊢
     have HN11 := HN10
     have HX11 := HX10
     have HJX11 := HJX10
     have HW11 := HW10
     clear hw11 HN10 HX10 HJX10 HW10
     refine wpIn_cond_false rfl ?_
     refine wpIn_skip ?_
     refine hK3 _ _ ?_
     clear hK3 K3 k0 e5
     have cn := HN11.out.cn
     have fn := HN11.out.fn
     have hwi : IntKind.i64.wrap ((pre.length : Int) + 1) = ((pre.length + 1 : Nat) : Int) := by have := HLN.out; have := (List.getElem?_eq_some_iff.1 HX.out).1; rw [IntWalk.i64_in _ (by omega)]; omega
     refine wpIn_seq_k (fun K4 hK4 => ?_)
     refine region_in_lit (by kernel_rfl) (by rintro ⟨_, _, h⟩; exact h) ?_
     go_wp2_with fail
     have HN12 := hid HN11.out.count
     have ha12 := Apart.set (S := fun k => k = gn) w11 (a := ⟨gn, 0, none⟩) rfl (.int .i64 ((pre.length + 1 : Nat) : Int))
     have hk12 : KeepsFrom WN.heap.size w11 (w11.setCell ⟨gn, 0, none⟩ (.int .i64 ((pre.length + 1 : Nat) : Int))) := (KeepsOthers.setCell _ _ _).from _
     have hg3 := HNB.out
     have hg4 := HI2.out.2.2.2
     have hg5 := HN0.out.2
     have HX12 := hid (HX11.out.apart ha12 (by show ¬ g9 = gn; omega))
     have HJX12 := hid (HJX11.out.apart ha12 (fun k hk _ e => by omega))
     have HC12 := hid ((HC2.out.below HW11.out).apart ha12 (by have := HGL.out; omega) (fun k hk e => by omega))
     have HK12 : Hid (KeepsFrom WN.heap.size W2 (w11.setCell ⟨gn, 0, none⟩ (.int .i64 ((pre.length + 1 : Nat) : Int)))) := hid (KeepsFrom.trans ⟨HW11.out.size, fun k o _ hk _ => (HW11.out.block k (Array.getElem?_eq_some_iff.1 hk).1).trans hk⟩ hk12)
     obtain ⟨w12, hw12⟩ : ∃ V, w11.setCell ⟨gn, 0, none⟩ (.int .i64 ((pre.length + 1 : Nat) : Int)) = V := ⟨_, rfl⟩
     rw [hw12] at HN12 HX12 HJX12 HC12 HK12
     first | rw [hw12] | (push_cast at hw12; rw [hw12])
     clear hw12 ha12 hk12 cn fn hwi hg3 hg4 hg5 HN11 HX11 HJX11
     skip
     have HM17 : Hid (∀ V, Below w12.heap.size w12 V → (fun wq => RowAt wq g (jcells r0) ∧ RowAt wq g9 (jcells xr) ∧ wq.cell? ⟨g + 2, 0, none⟩ = some (.string ⟨pa.toArray⟩) ∧ wq.cell? ⟨g + 3, 0, none⟩ = some (.int .i64 lc) ∧ wq.frozen? ⟨g + 3, 0, none⟩ = false) V) := hid (fun V hV => ⟨(HN12.out.below hV).i.b0, HX12.out.below hV, (HN12.out.below hV).i.c2, (HN12.out.below hV).i.c3, (HN12.out.below hV).i.f3⟩)
     have HB4 : Hid (Below w12.heap.size w12 w12.drew) := hid (Below.refl _ _).drew
     have hwl : IntKind.i64.wrap (lc - 1) = lc - 1 := IntWalk.i64_in _ (by have := HLC.out; omega)
     have hcat := bytes_app pa pe
     have hsm : ¬ 9223372036854775807 < pa.length + pe.length := by have := HPP.out.1; rw [List.length_append] at this; omega
     refine wpIn_seq_k (fun K5 hK5 => ?_)
     try simp only [Act.put, List.setIfInBounds_toArray, List.set_cons_zero, List.set_cons_succ]
     refine region_in_heldT [9] (S := (fun wq => RowAt wq g (jcells r0) ∧ RowAt wq g9 (jcells xr) ∧ wq.cell? ⟨g + 2, 0, none⟩ = some (.string ⟨pa.toArray⟩) ∧ wq.cell? ⟨g + 3, 0, none⟩ = some (.int .i64 lc) ∧ wq.frozen? ⟨g + 3, 0, none⟩ = false)) (by kernel_rfl) (by rintro ⟨_, _, h⟩; exact h) (by kernel_rfl) (HM17.out _ HB4.out) (fun hHeld0 => ?_)
     generalize w12.drew = wd17 at *
     skip
     have HB1217 : Hid (∀ V, Below w12.heap.size w12 V → Below w.heap.size w V) := hid (fun V hV => (HN12.out.below hV).i.be)
     refine heldT_tv 0 (jval r0) rfl (fun wq hSq => exec_loadJ _ rfl rfl r0 hSq.1) hHeld0 ?_
     refine heldT_tv 1 (jval xr) rfl (fun wq hSq => exec_loadJ _ rfl rfl xr hSq.2.1) hHeld0 ?_
     refine heldT_ta 2 hHeld0 ?_
     refine heldT_ta 3 hHeld0 ?_
     refine heldT_ta 6 hHeld0 ?_
     refine heldT_ta 7 hHeld0 ?_
     refine heldT_step 4 rfl (fun K hK => ?_)
     go_simp
     refine (HPC.out wd17).mono ?_
     rintro ez wq9 ⟨rfl, rfl⟩
     refine hK.out _ _ (HM17.out _ HB4.out) (fun hHeld1 => ?_)
     clear hK K hHeld0
     refine heldT_ta 5 hHeld1 ?_
     refine heldT_step 8 rfl (fun K hK => ?_)
     go_simp
     have hwk := HIH.out wd17 (fun k => WN.heap.size + 2 ≤ k) xr (us ++ [lb]) (lc - 1) (by have := HN.out; have := HSX.out.2.1; omega) (HB.out.trans ((HB1217.out _ HB4.out).mono HB.out.size)) (HJX12.out.bel HB4.out) (check_mem HC1.out HX.out) (by rw [walkR_snoc us _ _ _ HW1.out, ← HLB.out]; exact step_lab HG1.out (Nat.le_trans HLN.out (by decide)) HX.out) (by rw [pth_snoc, HPA.out, HPE.out]; exact HPP.out.2) (by have := HLC.out; omega) (by have := HLC.out; omega)
     rw [pth_snoc, HPA.out, HPE.out] at hwk
     refine hwk.mono ?_
     rintro ez w13 ⟨k2, rfl, hk0, hk2, hb13⟩
     have HK2 : Hid (0 ≤ k2 ∧ k2 ≤ 200) := hid ⟨hk0, hk2⟩
     replace HB4 : Hid (Below w12.heap.size w12 w13) := hid (HB4.out.trans (hb13.mono HB4.out.size))
     have c39 := (HN12.out.below HB4.out).i.c3
     have f39 := (HN12.out.below HB4.out).i.f3
     clear hwk hk0 hk2 hb13
     refine hK.out _ _ (HM17.out _ HB4.out) (fun hHeld2 => ?_)
     clear hK K hHeld1
     refine heldT_late ?_
     clear hHeld2
     have hHeld3 : True := trivial
     refine held_st 9 rfl (fun K hK => ?_)
     go_simp
     skip
     refine hK.out _ _ trivial (fun hHeld4 => ?_)
     clear hK K hHeld3
     refine wpAnyH_done (by kernel_rfl) ?_ _
     clear hHeld4
     refine hK5 _ _ ?_
     clear hK5 K5 hcat hsm hwl c39 f39 HM17 HB1217
     have HN13 := hid (HN12.out.below HB4.out)
     have HC12 : Hid (ClB (fun k => gA < k ∧ k < gn) gA rA w12) := HC12
     have HC13 := hid (HC12.out.below HB4.out)
     have HK13 : Hid (KeepsFrom WN.heap.size W2 w13) := hid (KeepsFrom.trans HK12.out ⟨HB4.out.size, fun k o _ hk _ => (HB4.out.block k (Array.getElem?_eq_some_iff.1 hk).1).trans hk⟩)
     have HN14 := hid (HN13.out.left k2)
     have ha14 := Apart.set (S := fun k => k = g + 3) w13 (a := ⟨g + 3, 0, none⟩) rfl (.int .i64 k2)
     have HC14 := hid (HC13.out.apart ha14 (by have := HGL.out; omega) (fun k hk e => by have := HGL.out; omega))
     have HK14 : Hid (KeepsFrom WN.heap.size W2 (w13.setCell ⟨g + 3, 0, none⟩ (.int .i64 k2))) := hid (KeepsFrom.trans HK13.out ((KeepsOthers.setCell _ _ _).from _))
     obtain ⟨w14, hw14⟩ : ∃ V, w13.setCell ⟨g + 3, 0, none⟩ (.int .i64 k2) = V := ⟨_, rfl⟩
     rw [hw14] at HN14 HC14 HK14 ⊢
     clear hw14 ha14 HN12 HX12 HJX12 HK12 HB4 HN13 HC13 HK13
     have c3 := HN14.out.i.c3
     have f4 := HN14.out.i.f4
     obtain ⟨k4, c4⟩ := HN14.out.i.c4
     by_cases hk0 : k2 ≤ 0
     ·
      gi_wp2
      have hc9 := World.cell?_setCell_same' w14 ⟨g + 4, 0, none⟩ (.int .i64 k2) (by rw [c4]; rfl)
      exact ⟨HK14.out.trans ((KeepsOthers.setCell _ _ _).from _), rfl, HN14.out.i.be.trans ((Below.refl _ w14).setCell (p := ⟨g + 4, 0, none⟩) (by show w.heap.size ≤ g + 4; have := HGW.out; omega) _), k2, HK2.out.1, HK2.out.2, hc9⟩
     gi_wp2
     exact ⟨HK14.out, k2, by omega, HK2.out.2, by rw [List.length_append, List.length_singleton]; exact HN14.out, HC14.out⟩
    have j0 : w10.cell? ⟨g9, 0, none⟩ = some (.int .i64 xr.1.kind) := HX10.out.cell 0 _ rfl
    have z0 : w10.cell? ⟨gz, 0, none⟩ = some (.int .i64 rz.1.kind) := HZA.out.cell 0 _ rfl
    have j1 : w10.cell? ⟨g9, 1, none⟩ = some (.bool xr.1.b) := HX10.out.cell 1 _ rfl
    have z1 : w10.cell? ⟨gz, 1, none⟩ = some (.bool rz.1.b) := HZA.out.cell 1 _ rfl
    have j2 : w10.cell? ⟨g9, 2, none⟩ = some (.bool xr.1.n.neg) := HX10.out.cell 2 _ rfl
    have z2 : w10.cell? ⟨gz, 2, none⟩ = some (.bool rz.1.n.neg) := HZA.out.cell 2 _ rfl
    have j3 : w10.cell? ⟨g9, 3, none⟩ = some (.string ⟨xr.1.n.digits.toArray⟩) := HX10.out.cell 3 _ rfl
    have z3 : w10.cell? ⟨gz, 3, none⟩ = some (.string ⟨rz.1.n.digits.toArray⟩) := HZA.out.cell 3 _ rfl
    have j4 : w10.cell? ⟨g9, 4, none⟩ = some (.int .i64 xr.1.n.exp) := HX10.out.cell 4 _ rfl
    have z4 : w10.cell? ⟨gz, 4, none⟩ = some (.int .i64 rz.1.n.exp) := HZA.out.cell 4 _ rfl
    have j5 : w10.cell? ⟨g9, 5, none⟩ = some (.string ⟨xr.1.t.toArray⟩) := HX10.out.cell 5 _ rfl
    have z5 : w10.cell? ⟨gz, 5, none⟩ = some (.string ⟨rz.1.t.toArray⟩) := HZA.out.cell 5 _ rfl
    have j6 : w10.cell? ⟨g9, 6, none⟩ = some (xr.2.1) := HX10.out.cell 6 _ rfl
    have z6 : w10.cell? ⟨gz, 6, none⟩ = some (rz.2.1) := HZA.out.cell 6 _ rfl
    have j7 : w10.cell? ⟨g9, 7, none⟩ = some (xr.2.2) := HX10.out.cell 7 _ rfl
    have z7 : w10.cell? ⟨gz, 7, none⟩ = some (rz.2.2) := HZA.out.cell 7 _ rfl
    go_wp2_with fail
    refine (sameL_calls HJX10.out _ rz w10 (Below.refl _ _) HJZ.out).mono ?_
    rintro ez w11 ⟨bb, rfl, hbb, hb11⟩
    obtain rfl : bb = true := hbb.2 (by rw [HRZ.out, HVZ.out.2 (by first | rfl | trivial)])
    clear hbb j0 j1 j2 j3 j4 j5 j6 j7 z0 z1 z2 z3 z4 z5 z6 z7
    have HN11 := hid (HN10.out.below hb11)
    have HX11 := hid (HX10.out.below hb11)
    have HJX11 := hid (HJX10.out.bel hb11)
    have HW11 : Hid (Below W2.heap.size W2 w11) := hid (HW10.out.trans (hb11.mono HW10.out.size))
    clear hb11
    go_wp2_with fail
    refine wpIn_cond_false rfl ?_
    refine wpIn_skip ?_
    refine hK3 _ _ ?_
    clear hK3 K3 k0 e5
    have cn := HN11.out.cn
    have fn := HN11.out.fn
    have hwi : IntKind.i64.wrap ((pre.length : Int) + 1) = ((pre.length + 1 : Nat) : Int) := by have := HLN.out; have := (List.getElem?_eq_some_iff.1 HX.out).1; rw [IntWalk.i64_in _ (by omega)]; omega
    refine wpIn_seq_k (fun K4 hK4 => ?_)
    refine region_in_lit (by kernel_rfl) (by rintro ⟨_, _, h⟩; exact h) ?_
    go_wp2_with fail
    have HN12 := hid HN11.out.count
    have ha12 := Apart.set (S := fun k => k = gn) w11 (a := ⟨gn, 0, none⟩) rfl (.int .i64 ((pre.length + 1 : Nat) : Int))
    have hk12 : KeepsFrom WN.heap.size w11 (w11.setCell ⟨gn, 0, none⟩ (.int .i64 ((pre.length + 1 : Nat) : Int))) := (KeepsOthers.setCell _ _ _).from _
    have hg3 := HNB.out
    have hg4 := HI2.out.2.2.2
    have hg5 := HN0.out.2
    have HX12 := hid (HX11.out.apart ha12 (by show ¬ g9 = gn; omega))
    have HJX12 := hid (HJX11.out.apart ha12 (fun k hk _ e => by omega))
    have HC12 := hid ((HC2.out.below HW11.out).apart ha12 (by have := HGL.out; omega) (fun k hk e => by omega))
    have HK12 : Hid (KeepsFrom WN.heap.size W2 (w11.setCell ⟨gn, 0, none⟩ (.int .i64 ((pre.length + 1 : Nat) : Int)))) := hid (KeepsFrom.trans ⟨HW11.out.size, fun k o _ hk _ => (HW11.out.block k (Array.getElem?_eq_some_iff.1 hk).1).trans hk⟩ hk12)
    obtain ⟨w12, hw12⟩ : ∃ V, w11.setCell ⟨gn, 0, none⟩ (.int .i64 ((pre.length + 1 : Nat) : Int)) = V := ⟨_, rfl⟩
    rw [hw12] at HN12 HX12 HJX12 HC12 HK12
    first | rw [hw12] | (push_cast at hw12; rw [hw12])
    clear hw12 ha12 hk12 cn fn hwi hg3 hg4 hg5 HN11 HX11 HJX11
    skip
    have HM17 : Hid (∀ V, Below w12.heap.size w12 V → (fun wq => RowAt wq g (jcells r0) ∧ RowAt wq g9 (jcells xr) ∧ wq.cell? ⟨g + 2, 0, none⟩ = some (.string ⟨pa.toArray⟩) ∧ wq.cell? ⟨g + 3, 0, none⟩ = some (.int .i64 lc) ∧ wq.frozen? ⟨g + 3, 0, none⟩ = false) V) := hid (fun V hV => ⟨(HN12.out.below hV).i.b0, HX12.out.below hV, (HN12.out.below hV).i.c2, (HN12.out.below hV).i.c3, (HN12.out.below hV).i.f3⟩)
    have HB4 : Hid (Below w12.heap.size w12 w12.drew) := hid (Below.refl _ _).drew
    have hwl : IntKind.i64.wrap (lc - 1) = lc - 1 := IntWalk.i64_in _ (by have := HLC.out; omega)
    have hcat := bytes_app pa pe
    have hsm : ¬ 9223372036854775807 < pa.length + pe.length := by have := HPP.out.1; rw [List.length_append] at this; omega
    refine wpIn_seq_k (fun K5 hK5 => ?_)
    try simp only [Act.put, List.setIfInBounds_toArray, List.set_cons_zero, List.set_cons_succ]
    refine region_in_heldT [9] (S := (fun wq => RowAt wq g (jcells r0) ∧ RowAt wq g9 (jcells xr) ∧ wq.cell? ⟨g + 2, 0, none⟩ = some (.string ⟨pa.toArray⟩) ∧ wq.cell? ⟨g + 3, 0, none⟩ = some (.int .i64 lc) ∧ wq.frozen? ⟨g + 3, 0, none⟩ = false)) (by kernel_rfl) (by rintro ⟨_, _, h⟩; exact h) (by kernel_rfl) (HM17.out _ HB4.out) (fun hHeld0 => ?_)
    generalize w12.drew = wd17 at *
    skip
    have HB1217 : Hid (∀ V, Below w12.heap.size w12 V → Below w.heap.size w V) := hid (fun V hV => (HN12.out.below hV).i.be)
    refine heldT_tv 0 (jval r0) rfl (fun wq hSq => exec_loadJ _ rfl rfl r0 hSq.1) hHeld0 ?_
    refine heldT_tv 1 (jval xr) rfl (fun wq hSq => exec_loadJ _ rfl rfl xr hSq.2.1) hHeld0 ?_
    refine heldT_ta 2 hHeld0 ?_
    refine heldT_ta 3 hHeld0 ?_
    refine heldT_ta 6 hHeld0 ?_
    refine heldT_ta 7 hHeld0 ?_
    refine heldT_step 4 rfl (fun K hK => ?_)
    go_simp
    refine (HPC.out wd17).mono ?_
    rintro ez wq9 ⟨rfl, rfl⟩
    refine hK.out _ _ (HM17.out _ HB4.out) (fun hHeld1 => ?_)
    clear hK K hHeld0
    refine heldT_ta 5 hHeld1 ?_
    refine heldT_step 8 rfl (fun K hK => ?_)
    go_simp
    have hwk := HIH.out wd17 (fun k => WN.heap.size + 2 ≤ k) xr (us ++ [lb]) (lc - 1) (by have := HN.out; have := HSX.out.2.1; omega) (HB.out.trans ((HB1217.out _ HB4.out).mono HB.out.size)) (HJX12.out.bel HB4.out) (check_mem HC1.out HX.out) (by rw [walkR_snoc us _ _ _ HW1.out, ← HLB.out]; exact step_lab HG1.out (Nat.le_trans HLN.out (by decide)) HX.out) (by rw [pth_snoc, HPA.out, HPE.out]; exact HPP.out.2) (by have := HLC.out; omega) (by have := HLC.out; omega)
    rw [pth_snoc, HPA.out, HPE.out] at hwk
    refine hwk.mono ?_
    rintro ez w13 ⟨k2, rfl, hk0, hk2, hb13⟩
    have HK2 : Hid (0 ≤ k2 ∧ k2 ≤ 200) := hid ⟨hk0, hk2⟩
    replace HB4 : Hid (Below w12.heap.size w12 w13) := hid (HB4.out.trans (hb13.mono HB4.out.size))
    have c39 := (HN12.out.below HB4.out).i.c3
    have f39 := (HN12.out.below HB4.out).i.f3
    clear hwk hk0 hk2 hb13
    refine hK.out _ _ (HM17.out _ HB4.out) (fun hHeld2 => ?_)
    clear hK K hHeld1
    refine heldT_late ?_
    clear hHeld2
    have hHeld3 : True := trivial
    refine held_st 9 rfl (fun K hK => ?_)
    go_simp
    skip
    refine hK.out _ _ trivial (fun hHeld4 => ?_)
    clear hK K hHeld3
    refine wpAnyH_done (by kernel_rfl) ?_ _
    clear hHeld4
    refine hK5 _ _ ?_
    clear hK5 K5 hcat hsm hwl c39 f39 HM17 HB1217
    have HN13 := hid (HN12.out.below HB4.out)
    have HC12 : Hid (ClB (fun k => gA < k ∧ k < gn) gA rA w12) := HC12
    have HC13 := hid (HC12.out.below HB4.out)
    have HK13 : Hid (KeepsFrom WN.heap.size W2 w13) := hid (KeepsFrom.trans HK12.out ⟨HB4.out.size, fun k o _ hk _ => (HB4.out.block k (Array.getElem?_eq_some_iff.1 hk).1).trans hk⟩)
    have HN14 := hid (HN13.out.left k2)
    have ha14 := Apart.set (S := fun k => k = g + 3) w13 (a := ⟨g + 3, 0, none⟩) rfl (.int .i64 k2)
    have HC14 := hid (HC13.out.apart ha14 (by have := HGL.out; omega) (fun k hk e => by have := HGL.out; omega))
    have HK14 : Hid (KeepsFrom WN.heap.size W2 (w13.setCell ⟨g + 3, 0, none⟩ (.int .i64 k2))) := hid (KeepsFrom.trans HK13.out ((KeepsOthers.setCell _ _ _).from _))
    obtain ⟨w14, hw14⟩ : ∃ V, w13.setCell ⟨g + 3, 0, none⟩ (.int .i64 k2) = V := ⟨_, rfl⟩
    rw [hw14] at HN14 HC14 HK14 ⊢
    clear hw14 ha14 HN12 HX12 HJX12 HK12 HB4 HN13 HC13 HK13
    have c3 := HN14.out.i.c3
    have f4 := HN14.out.i.f4
    obtain ⟨k4, c4⟩ := HN14.out.i.c4
    by_cases hk0 : k2 ≤ 0
    ·
     gi_wp2
     have hc9 := World.cell?_setCell_same' w14 ⟨g + 4, 0, none⟩ (.int .i64 k2) (by rw [c4]; rfl)
     exact ⟨HK14.out.trans ((KeepsOthers.setCell _ _ _).from _), rfl, HN14.out.i.be.trans ((Below.refl _ w14).setCell (p := ⟨g + 4, 0, none⟩) (by show w.heap.size ≤ g + 4; have := HGW.out; omega) _), k2, HK2.out.1, HK2.out.2, hc9⟩
    gi_wp2
    exact ⟨HK14.out, k2, by omega, HK2.out.2, by rw [List.length_append, List.length_singleton]; exact HN14.out, HC14.out⟩
   refine oper_allocJ rfl ?_
   intro w4 hBx
   obtain ⟨g13, hg13⟩ : ∃ q, wd.heap.size = q := ⟨_, rfl⟩
   have HA : Hid (RowAt w4 g13 (jcells jzero)) := hid (by rw [← hg13]; exact hBx.row)
   have HGA : Hid (wd.heap.size = g13 ∧ w4.heap.size = g13 + 1 ∧ W2.heap.size ≤ g13) := hid ⟨hg13, by rw [hBx.size, hg13], by rw [← hg13]; exact HB2.out.size⟩
   replace HB2 : Hid (Below W2.heap.size W2 w4) := hid (HB2.out.trans (hBx.be.mono HB2.out.size))
   rw [hg13]
   clear hBx hg13
   refine hK.out _ _ (HM10.out _ HB2.out) (fun hHeld1 => ?_)
   clear hK K hHeld0
   refine held_st 3 rfl (fun K hK => ?_)
   go_simp
   refine (HPC.out w4).mono ?_
   rintro ez wq9 ⟨rfl, rfl⟩
   refine hK.out _ _ (HM10.out _ HB2.out) (fun hHeld2 => ?_)
   clear hK K hHeld1
   refine held_ta 4 hHeld2 ?_
   refine held_st 5 rfl (fun K hK => ?_)
   go_simp
   obtain ⟨m9, hm9⟩ := HE0.out.ml
   have hpt := pointer_calls (r1 := r0) HJ0.out HE0.out.tab HE0.out.errs HE0.out.utf m9 hm9 w4 (HBW.out _ HB2.out) (Nat.le_trans HZ0.out (by decide)) (pa ++ pe) (by have := HPP.out.1; omega)
   rw [HPT.out] at hpt
   refine hpt.mono ?_
   rintro ez w3b ⟨ly, ny, rfl, hj, hb⟩
   clear hpt hm9
   obtain ⟨ry, hry⟩ : ∃ r : JR, (xr.1, ly, ny) = r := ⟨_, rfl⟩
   have HRY : Hid (ry.1 = xr.1) := hid (by rw [← hry])
   rw [hry] at hj ⊢
   obtain ⟨bY, hbY⟩ : ∃ q, w4.heap.size = q := ⟨_, rfl⟩
   obtain ⟨eY, heY⟩ : ∃ q, w3b.heap.size = q := ⟨_, rfl⟩
   have HJY : Hid (JV w3b (fun k => bY ≤ k ∧ k < eY) ry) := hid (hj.mono (fun k hk hs => ⟨by rw [← hbY]; exact hs, by rw [← heY]; exact hk⟩))
   have HYB : Hid (w4.heap.size = bY ∧ w3b.heap.size = eY) := hid ⟨hbY, heY⟩
   have SLY := hid HJY.out.slJ
   have HA := hid (HA.out.below hb)
   replace HB2 : Hid (Below W2.heap.size W2 w3b) := hid (HB2.out.trans (hb.mono HB2.out.size))
   clear hj hb hry hbY heY
   refine hK.out _ _ (HM10.out _ HB2.out) (fun hHeld3 => ?_)
   clear hK K hHeld2
   refine held_ta 6 hHeld3 ?_
   refine held_ta 7 hHeld3 ?_
   refine held_ta 8 hHeld3 ?_
   refine held_st 10 rfl (fun K hK => ?_)
   refine oper_storeJ _ _ rfl rfl HA.out rfl ry SLY.out rfl rfl ?_
   intro w5 hSx
   have HA := hid hSx.row
   have HJY := hid (HJY.out.apart hSx.apart (fun k hk _ e => by have h1 := HGA.out; have h2 := HYB.out; omega))
   replace HB2 : Hid (Below W2.heap.size W2 w5) := hid (HB2.out.trans (hSx.apart.below HB2.out.size (fun i hi e => by have := HGA.out; omega)))
   clear hSx
   refine hK.out _ _ (HM10.out _ HB2.out) (fun hHeld4 => ?_)
   clear hK K hHeld3
   refine held_ta 11 hHeld4 ?_
   refine wpAnyH_done (by kernel_rfl) ?_ _
   clear hHeld4
   refine hK2 _ _ ?_
   clear hK2 K2 hcat hsm HM10
   have HN2 := hid (HI2.out.1.below HB2.out)
   have HX2 := hid (HI2.out.2.1.below HB2.out)
   have HJX := hid (HI2.out.2.2.1.bel HB2.out)
   skip
   refine wpIn_seq_k (fun K3 hK3 => ?_)
   refine wpIn_seq_k (fun K4 hK4 => ?_)
   have hi9 : pre.length < r1.1.l.length := (List.getElem?_eq_some_iff.1 HX.out).1
   have hlti : (pre.length : Int) < (r1.1.l.length : Int) := by omega
   have hge : decide (r1.1.l.length ≤ pre.length) = false := decide_eq_false (by omega)
   obtain ⟨gl, fl, ly9, c9, hlq, hra, hjm⟩ : ∃ gl fl ly9 c9, r1.2.1 = .slice (some ⟨gl, fl, none⟩) r1.1.l.length c9 ∧ (∀ V, Below w.heap.size w V → V.rangeAt gl (fl + pre.length * 8) (jcells (xr.1, ly9))) ∧ JV w S1 (xr.1, ly9) := by
    cases HJ1.out with
    | mk _ xs hn hl hs9 =>
     obtain ⟨p2, c2, e2, _, _, hL2⟩ := hl
     obtain ⟨g2, f2, e3, _, hg2, hr2⟩ := hL2 (by omega)
     refine ⟨g2, f2, xs pre.length, c2, by rw [e2, e3], fun V hV c v hc => ?_, hs9 _ _ HX.out⟩
     have hc8 : c < 8 := (List.getElem?_eq_some_iff.1 hc).1
     rw [hV.cell (p := ⟨g2, f2 + pre.length * 8 + c, none⟩) hg2, hr2 _ _ HX.out c hc8]; exact hc
   have HM11 : Hid (∀ V, Below w5.heap.size w5 V → (fun wq => RowAt wq g9 (jcells xr) ∧ RowAt wq g13 (jcells ry) ∧ wq.cell? ⟨g + 1, 6, none⟩ = some (.slice (some ⟨gl, fl, none⟩) r1.1.l.length c9) ∧ wq.cell? ⟨gn, 0, none⟩ = some (.int .i64 (pre.length : Int)) ∧ wq.rangeAt gl (fl + pre.length * 8) (jcells (xr.1, ly9))) V) := hid (fun V hV => ⟨HX2.out.below hV, HA.out.below hV, by rw [← hlq]; exact (HN2.out.below hV).i.b1.cell 6 _ rfl, (HN2.out.below hV).cn, hra V ((HN2.out.below hV).i.be)⟩)
   have HJM := hid hjm
   have HB3 : Hid (Below w5.heap.size w5 w5.drew) := hid (Below.refl _ _).drew
   clear hlq hra hjm hi9
   try simp only [Act.put, List.setIfInBounds_toArray, List.set_cons_zero, List.set_cons_succ]
   refine region_in_held (S := (fun wq => RowAt wq g9 (jcells xr) ∧ RowAt wq g13 (jcells ry) ∧ wq.cell? ⟨g + 1, 6, none⟩ = some (.slice (some ⟨gl, fl, none⟩) r1.1.l.length c9) ∧ wq.cell? ⟨gn, 0, none⟩ = some (.int .i64 (pre.length : Int)) ∧ wq.rangeAt gl (fl + pre.length * 8) (jcells (xr.1, ly9)))) (by kernel_rfl) (by rintro ⟨_, _, h⟩; exact h) (by kernel_rfl) (HM11.out _ HB3.out) (fun hHeld0 => ?_)
   generalize w5.drew = wd11 at *
   refine held_ta 0 hHeld0 ?_
   refine held_st 1 rfl (fun K hK => ?_)
   go_simp
   refine (num_calls _ wd11).mono ?_
   rintro ez wq9 ⟨rfl, rfl⟩
   refine hK.out _ _ (HM11.out _ HB3.out) (fun hHeld1 => ?_)
   clear hK K hHeld0
   refine held_ta 2 hHeld1 ?_
   refine held_ta 3 hHeld1 ?_
   refine held_tv 4 (jval xr) rfl (fun wq hSq => exec_loadJ _ rfl rfl xr hSq.1) hHeld1 ?_
   refine held_tv 5 (jval ry) rfl (fun wq hSq => exec_loadJ _ rfl rfl ry hSq.2.1) hHeld1 ?_
   refine held_st 6 rfl (fun K hK => ?_)
   go_simp
   refine (sameL_calls HJX.out _ ry wd11 HB3.out (HJY.out.bel HB3.out)).mono ?_
   rintro ez w6 ⟨bb, rfl, hbb, hb6⟩
   obtain rfl : bb = true := hbb.2 HRY.out.symm
   replace HB3 : Hid (Below w5.heap.size w5 w6) := hid (HB3.out.trans (hb6.mono HB3.out.size))
   clear hbb hb6
   refine hK.out _ _ (HM11.out _ HB3.out) (fun hHeld2 => ?_)
   clear hK K hHeld1
   refine held_ta 7 hHeld2 ?_
   refine held_ta 8 hHeld2 ?_
   refine held_ta 9 hHeld2 ?_
   refine held_ta 10 hHeld2 ?_
   refine held_ta 11 hHeld2 ?_
   refine held_ta 12 hHeld2 ?_
   refine held_ta 13 hHeld2 ?_
   refine held_ta 14 hHeld2 ?_
   refine held_ta 15 hHeld2 ?_
   refine held_ta 16 hHeld2 ?_
   refine held_tv 17 (jval xr) rfl (fun wq hSq => exec_loadJ _ rfl rfl xr hSq.1) hHeld2 ?_
   refine held_ta 18 hHeld2 ?_
   refine held_ta 19 hHeld2 ?_
   refine held_ta 20 hHeld2 ?_
   refine held_ta 21 hHeld2 ?_
   refine held_tv 22 (jval (xr.1, ly9)) rfl (fun wq hSq => exec_load8 _ rfl rfl (xr.1, ly9) hSq.2.2.2.2) hHeld2 ?_
   refine held_st 23 rfl (fun K hK => ?_)
   go_simp
   refine (sameL_calls HJX.out S1 (xr.1, ly9) w6 HB3.out (HJM.out.bel (HN2.out.below HB3.out).i.be)).mono ?_
   rintro ez w7 ⟨bb, rfl, hbb, hb7⟩
   obtain rfl : bb = true := hbb.2 rfl
   replace HB3 : Hid (Below w5.heap.size w5 w7) := hid (HB3.out.trans (hb7.mono HB3.out.size))
   clear hbb hb7
   refine hK.out _ _ (HM11.out _ HB3.out) (fun hHeld3 => ?_)
   clear hK K hHeld2
   refine held_ta 24 hHeld3 ?_
   refine held_ta 25 hHeld3 ?_
   refine wpAnyH_done (by kernel_rfl) ?_ _
   clear hHeld3
   refine hK4 _ _ ?_
   refine wpIn_cond_false rfl ?_
   refine wpIn_skip ?_
   refine hK3 _ _ ?_
   clear hK3 hK4 K3 K4 hlti hge HM11 HJM
   have HN7 := hid (HN2.out.below HB3.out)
   have HX7 := hid (HX2.out.below HB3.out)
   have HJX7 := hid (HJX.out.bel HB3.out)
   have HW27 : Hid (Below W2.heap.size W2 w7) := hid (HB2.out.trans (HB3.out.mono HB2.out.size))
   clear HN2 HX2 HJX HA HJY HB3 HB2 SLY HYB HGA HRY
   refine wpIn_seq_k (fun K3 hK3 => ?_)
   refine wpIn_seq_k (fun K4 hK4 => ?_)
   refine region_in_lit (by kernel_rfl) (by rintro ⟨_, _, h⟩; exact h) ?_
   have HJ17 := hid (HJ1.out.bel HN7.out.i.be)
   have HEW := hid (HE0.out.below (HBW.out _ HW27.out) (Nat.le_refl _))
   have HGV : Hid (getV r1.1 lb = if r1.1.kind = 5 then (xr.1, true) else (J.zero, false)) := hid (by rw [← HLB.out]; exact get_lab HC1.out HX.out)
   obtain ⟨b5, hb5⟩ : ∃ b, (r1.1.kind == 5) = b := ⟨_, rfl⟩
   have HB5 := hid hb5
   clear hb5
   obtain ⟨vz, hvz⟩ : ∃ q, getV r1.1 lb = q := ⟨_, rfl⟩
   have HVZ : Hid (vz.2 = b5 ∧ (b5 = true → vz.1 = xr.1)) := hid (by
    rw [← hvz, HGV.out, ← HB5.out]
    by_cases h5 : r1.1.kind = 5
    ·rw [if_pos h5, h5]; exact ⟨rfl, fun _ => rfl⟩
    rw [if_neg h5, beq_eq_false_iff_ne.2 h5]; exact ⟨rfl, fun e => (by cases e)⟩)
   go_wp2_with (first | (refine wpList_loadJ rfl _ rfl r1 HN7.out.i.b1 rfl ?_) | (refine wpList_allocJ rfl rfl ?_; intro w9 hBx) | (refine wpList_storeJ rfl _ _ rfl rfl hBx.row rfl rz SLZ.out rfl rfl ?_; intro w10 hSx))
   have hgt := getP_calls (r1 := r1) HJ17.out HEW.out.tab HEW.out.utf w7 (Below.refl _ _) (Nat.le_trans HZ1.out (by decide)) lb
   rw [hvz] at hgt
   refine hgt.mono ?_
   rintro ez w8 ⟨lz, nz, rfl, hjz, hb8⟩
   clear hgt hvz HGV
   obtain ⟨rz, hrz⟩ : ∃ r : JR, (vz.1, lz, nz) = r := ⟨_, rfl⟩
   have HRZ : Hid (rz.1 = vz.1) := hid (by rw [← hrz])
   rw [hrz] at hjz ⊢
   rw [HVZ.out.1]
   have HJZ := hid hjz
   have SLZ := hid hjz.slJ
   have HB8 := hid hb8
   clear hjz hb8 hrz
   go_wp2_with (first | (refine wpList_allocJ rfl rfl ?_; intro w9 hBx) | (refine wpList_storeJ rfl _ _ rfl rfl hBx.row rfl rz SLZ.out rfl rfl ?_; intro w10 hSx))
   skip
   have HBT : Hid (Below w7.heap.size w7 w10) := hid (hSx.below (hBx.below HB8.out HB8.out.size) HB8.out.size (Nat.le_trans HB8.out.size hBx.be.size))
   have HZA := hid hSx.row
   have HJZ := hid (HJZ.out.bel (hSx.below hBx.be (Nat.le_refl _) hBx.be.size))
   have HN10 := hid (HN7.out.below HBT.out)
   have HX10 := hid (HX7.out.below HBT.out)
   have HJX10 := hid (HJX7.out.bel HBT.out)
   have HW10 : Hid (Below W2.heap.size W2 w10) := hid (HW27.out.trans (HBT.out.mono HW27.out.size))
   obtain ⟨gz, hgz⟩ : ∃ q, w8.heap.size = q := ⟨_, rfl⟩
   rw [hgz] at HZA ⊢
   clear hBx hSx hgz HN7 HX7 HJX7 HBT HW27 HB8
   refine wpIn_seq_k (fun K5 hK5 => ?_)
   refine region_in_lit (by kernel_rfl) (by rintro ⟨_, _, h⟩; exact h) ?_
   have k0 := HN10.out.i.b1.cell 0 _ rfl
   have e5 := HB5.out
   cases b5
   ·
    go_wp2_with fail
    obtain ⟨w11, hw11⟩ : ∃ V, w10 = V := ⟨_, rfl⟩
    rw [hw11] at HN10 HX10 HJX10 HW10 ⊢
    have HN11 := HN10
    have HX11 := HX10
    have HJX11 := HJX10
    have HW11 := HW10
    clear hw11 HN10 HX10 HJX10 HW10
    refine wpIn_cond_false rfl ?_
    refine wpIn_skip ?_
    refine hK3 _ _ ?_
    clear hK3 K3 k0 e5
    have cn := HN11.out.cn
    have fn := HN11.out.fn
    have hwi : IntKind.i64.wrap ((pre.length : Int) + 1) = ((pre.length + 1 : Nat) : Int) := by have := HLN.out; have := (List.getElem?_eq_some_iff.1 HX.out).1; rw [IntWalk.i64_in _ (by omega)]; omega
    refine wpIn_seq_k (fun K4 hK4 => ?_)
    refine region_in_lit (by kernel_rfl) (by rintro ⟨_, _, h⟩; exact h) ?_
    go_wp2_with fail
    have HN12 := hid HN11.out.count
    have ha12 := Apart.set (S := fun k => k = gn) w11 (a := ⟨gn, 0, none⟩) rfl (.int .i64 ((pre.length + 1 : Nat) : Int))
    have hk12 : KeepsFrom WN.heap.size w11 (w11.setCell ⟨gn, 0, none⟩ (.int .i64 ((pre.length + 1 : Nat) : Int))) := (KeepsOthers.setCell _ _ _).from _
    have hg3 := HNB.out
    have hg4 := HI2.out.2.2.2
    have hg5 := HN0.out.2
    have HX12 := hid (HX11.out.apart ha12 (by show ¬ g9 = gn; omega))
    have HJX12 := hid (HJX11.out.apart ha12 (fun k hk _ e => by omega))
    have HC12 := hid ((HC2.out.below HW11.out).apart ha12 (by have := HGL.out; omega) (fun k hk e => by omega))
    have HK12 : Hid (KeepsFrom WN.heap.size W2 (w11.setCell ⟨gn, 0, none⟩ (.int .i64 ((pre.length + 1 : Nat) : Int)))) := hid (KeepsFrom.trans ⟨HW11.out.size, fun k o _ hk _ => (HW11.out.block k (Array.getElem?_eq_some_iff.1 hk).1).trans hk⟩ hk12)
    obtain ⟨w12, hw12⟩ : ∃ V, w11.setCell ⟨gn, 0, none⟩ (.int .i64 ((pre.length + 1 : Nat) : Int)) = V := ⟨_, rfl⟩
    rw [hw12] at HN12 HX12 HJX12 HC12 HK12
    first | rw [hw12] | (push_cast at hw12; rw [hw12])
    clear hw12 ha12 hk12 cn fn hwi hg3 hg4 hg5 HN11 HX11 HJX11
    skip
    have HM17 : Hid (∀ V, Below w12.heap.size w12 V → (fun wq => RowAt wq g (jcells r0) ∧ RowAt wq g9 (jcells xr) ∧ wq.cell? ⟨g + 2, 0, none⟩ = some (.string ⟨pa.toArray⟩) ∧ wq.cell? ⟨g + 3, 0, none⟩ = some (.int .i64 lc) ∧ wq.frozen? ⟨g + 3, 0, none⟩ = false) V) := hid (fun V hV => ⟨(HN12.out.below hV).i.b0, HX12.out.below hV, (HN12.out.below hV).i.c2, (HN12.out.below hV).i.c3, (HN12.out.below hV).i.f3⟩)
    have HB4 : Hid (Below w12.heap.size w12 w12.drew) := hid (Below.refl _ _).drew
    have hwl : IntKind.i64.wrap (lc - 1) = lc - 1 := IntWalk.i64_in _ (by have := HLC.out; omega)
    have hcat := bytes_app pa pe
    have hsm : ¬ 9223372036854775807 < pa.length + pe.length := by have := HPP.out.1; rw [List.length_append] at this; omega
    refine wpIn_seq_k (fun K5 hK5 => ?_)
    try simp only [Act.put, List.setIfInBounds_toArray, List.set_cons_zero, List.set_cons_succ]
    refine region_in_heldT [9] (S := (fun wq => RowAt wq g (jcells r0) ∧ RowAt wq g9 (jcells xr) ∧ wq.cell? ⟨g + 2, 0, none⟩ = some (.string ⟨pa.toArray⟩) ∧ wq.cell? ⟨g + 3, 0, none⟩ = some (.int .i64 lc) ∧ wq.frozen? ⟨g + 3, 0, none⟩ = false)) (by kernel_rfl) (by rintro ⟨_, _, h⟩; exact h) (by kernel_rfl) (HM17.out _ HB4.out) (fun hHeld0 => ?_)
    generalize w12.drew = wd17 at *
    skip
    have HB1217 : Hid (∀ V, Below w12.heap.size w12 V → Below w.heap.size w V) := hid (fun V hV => (HN12.out.below hV).i.be)
    refine heldT_tv 0 (jval r0) rfl (fun wq hSq => exec_loadJ _ rfl rfl r0 hSq.1) hHeld0 ?_
    refine heldT_tv 1 (jval xr) rfl (fun wq hSq => exec_loadJ _ rfl rfl xr hSq.2.1) hHeld0 ?_
    refine heldT_ta 2 hHeld0 ?_
    refine heldT_ta 3 hHeld0 ?_
    refine heldT_ta 6 hHeld0 ?_
    refine heldT_ta 7 hHeld0 ?_
    refine heldT_step 4 rfl (fun K hK => ?_)
    go_simp
    refine (HPC.out wd17).mono ?_
    rintro ez wq9 ⟨rfl, rfl⟩
    refine hK.out _ _ (HM17.out _ HB4.out) (fun hHeld1 => ?_)
    clear hK K hHeld0
    refine heldT_ta 5 hHeld1 ?_
    refine heldT_step 8 rfl (fun K hK => ?_)
    go_simp
    have hwk := HIH.out wd17 (fun k => WN.heap.size + 2 ≤ k) xr (us ++ [lb]) (lc - 1) (by have := HN.out; have := HSX.out.2.1; omega) (HB.out.trans ((HB1217.out _ HB4.out).mono HB.out.size)) (HJX12.out.bel HB4.out) (check_mem HC1.out HX.out) (by rw [walkR_snoc us _ _ _ HW1.out, ← HLB.out]; exact step_lab HG1.out (Nat.le_trans HLN.out (by decide)) HX.out) (by rw [pth_snoc, HPA.out, HPE.out]; exact HPP.out.2) (by have := HLC.out; omega) (by have := HLC.out; omega)
    rw [pth_snoc, HPA.out, HPE.out] at hwk
    refine hwk.mono ?_
    rintro ez w13 ⟨k2, rfl, hk0, hk2, hb13⟩
    have HK2 : Hid (0 ≤ k2 ∧ k2 ≤ 200) := hid ⟨hk0, hk2⟩
    replace HB4 : Hid (Below w12.heap.size w12 w13) := hid (HB4.out.trans (hb13.mono HB4.out.size))
    have c39 := (HN12.out.below HB4.out).i.c3
    have f39 := (HN12.out.below HB4.out).i.f3
    clear hwk hk0 hk2 hb13
    refine hK.out _ _ (HM17.out _ HB4.out) (fun hHeld2 => ?_)
    clear hK K hHeld1
    refine heldT_late ?_
    clear hHeld2
    have hHeld3 : True := trivial
    refine held_st 9 rfl (fun K hK => ?_)
    go_simp
    skip
    refine hK.out _ _ trivial (fun hHeld4 => ?_)
    clear hK K hHeld3
    refine wpAnyH_done (by kernel_rfl) ?_ _
    clear hHeld4
    refine hK5 _ _ ?_
    clear hK5 K5 hcat hsm hwl c39 f39 HM17 HB1217
    have HN13 := hid (HN12.out.below HB4.out)
    have HC12 : Hid (ClB (fun k => gA < k ∧ k < gn) gA rA w12) := HC12
    have HC13 := hid (HC12.out.below HB4.out)
    have HK13 : Hid (KeepsFrom WN.heap.size W2 w13) := hid (KeepsFrom.trans HK12.out ⟨HB4.out.size, fun k o _ hk _ => (HB4.out.block k (Array.getElem?_eq_some_iff.1 hk).1).trans hk⟩)
    have HN14 := hid (HN13.out.left k2)
    have ha14 := Apart.set (S := fun k => k = g + 3) w13 (a := ⟨g + 3, 0, none⟩) rfl (.int .i64 k2)
    have HC14 := hid (HC13.out.apart ha14 (by have := HGL.out; omega) (fun k hk e => by have := HGL.out; omega))
    have HK14 : Hid (KeepsFrom WN.heap.size W2 (w13.setCell ⟨g + 3, 0, none⟩ (.int .i64 k2))) := hid (KeepsFrom.trans HK13.out ((KeepsOthers.setCell _ _ _).from _))
    obtain ⟨w14, hw14⟩ : ∃ V, w13.setCell ⟨g + 3, 0, none⟩ (.int .i64 k2) = V := ⟨_, rfl⟩
    rw [hw14] at HN14 HC14 HK14 ⊢
    clear hw14 ha14 HN12 HX12 HJX12 HK12 HB4 HN13 HC13 HK13
    have c3 := HN14.out.i.c3
    have f4 := HN14.out.i.f4
    obtain ⟨k4, c4⟩ := HN14.out.i.c4
    by_cases hk0 : k2 ≤ 0
    ·
     gi_wp2
     have hc9 := World.cell?_setCell_same' w14 ⟨g + 4, 0, none⟩ (.int .i64 k2) (by rw [c4]; rfl)
     exact ⟨HK14.out.trans ((KeepsOthers.setCell _ _ _).from _), rfl, HN14.out.i.be.trans ((Below.refl _ w14).setCell (p := ⟨g + 4, 0, none⟩) (by show w.heap.size ≤ g + 4; have := HGW.out; omega) _), k2, HK2.out.1, HK2.out.2, hc9⟩
    gi_wp2
    exact ⟨HK14.out, k2, by omega, HK2.out.2, by rw [List.length_append, List.length_singleton]; exact HN14.out, HC14.out⟩
   have j0 : w10.cell? ⟨g9, 0, none⟩ = some (.int .i64 xr.1.kind) := HX10.out.cell 0 _ rfl
   have z0 : w10.cell? ⟨gz, 0, none⟩ = some (.int .i64 rz.1.kind) := HZA.out.cell 0 _ rfl
   have j1 : w10.cell? ⟨g9, 1, none⟩ = some (.bool xr.1.b) := HX10.out.cell 1 _ rfl
   have z1 : w10.cell? ⟨gz, 1, none⟩ = some (.bool rz.1.b) := HZA.out.cell 1 _ rfl
   have j2 : w10.cell? ⟨g9, 2, none⟩ = some (.bool xr.1.n.neg) := HX10.out.cell 2 _ rfl
   have z2 : w10.cell? ⟨gz, 2, none⟩ = some (.bool rz.1.n.neg) := HZA.out.cell 2 _ rfl
   have j3 : w10.cell? ⟨g9, 3, none⟩ = some (.string ⟨xr.1.n.digits.toArray⟩) := HX10.out.cell 3 _ rfl
   have z3 : w10.cell? ⟨gz, 3, none⟩ = some (.string ⟨rz.1.n.digits.toArray⟩) := HZA.out.cell 3 _ rfl
   have j4 : w10.cell? ⟨g9, 4, none⟩ = some (.int .i64 xr.1.n.exp) := HX10.out.cell 4 _ rfl
   have z4 : w10.cell? ⟨gz, 4, none⟩ = some (.int .i64 rz.1.n.exp) := HZA.out.cell 4 _ rfl
   have j5 : w10.cell? ⟨g9, 5, none⟩ = some (.string ⟨xr.1.t.toArray⟩) := HX10.out.cell 5 _ rfl
   have z5 : w10.cell? ⟨gz, 5, none⟩ = some (.string ⟨rz.1.t.toArray⟩) := HZA.out.cell 5 _ rfl
   have j6 : w10.cell? ⟨g9, 6, none⟩ = some (xr.2.1) := HX10.out.cell 6 _ rfl
   have z6 : w10.cell? ⟨gz, 6, none⟩ = some (rz.2.1) := HZA.out.cell 6 _ rfl
   have j7 : w10.cell? ⟨g9, 7, none⟩ = some (xr.2.2) := HX10.out.cell 7 _ rfl
   have z7 : w10.cell? ⟨gz, 7, none⟩ = some (rz.2.2) := HZA.out.cell 7 _ rfl
   go_wp2_with fail
   refine (sameL_calls HJX10.out _ rz w10 (Below.refl _ _) HJZ.out).mono ?_
   rintro ez w11 ⟨bb, rfl, hbb, hb11⟩
   obtain rfl : bb = true := hbb.2 (by rw [HRZ.out, HVZ.out.2 (by first | rfl | trivial)])
   clear hbb j0 j1 j2 j3 j4 j5 j6 j7 z0 z1 z2 z3 z4 z5 z6 z7
   have HN11 := hid (HN10.out.below hb11)
   have HX11 := hid (HX10.out.below hb11)
   have HJX11 := hid (HJX10.out.bel hb11)
   have HW11 : Hid (Below W2.heap.size W2 w11) := hid (HW10.out.trans (hb11.mono HW10.out.size))
   clear hb11
   go_wp2_with fail
   refine wpIn_cond_false rfl ?_
   refine wpIn_skip ?_
   refine hK3 _ _ ?_
   clear hK3 K3 k0 e5
   have cn := HN11.out.cn
   have fn := HN11.out.fn
   have hwi : IntKind.i64.wrap ((pre.length : Int) + 1) = ((pre.length + 1 : Nat) : Int) := by have := HLN.out; have := (List.getElem?_eq_some_iff.1 HX.out).1; rw [IntWalk.i64_in _ (by omega)]; omega
   refine wpIn_seq_k (fun K4 hK4 => ?_)
   refine region_in_lit (by kernel_rfl) (by rintro ⟨_, _, h⟩; exact h) ?_
   go_wp2_with fail
   have HN12 := hid HN11.out.count
   have ha12 := Apart.set (S := fun k => k = gn) w11 (a := ⟨gn, 0, none⟩) rfl (.int .i64 ((pre.length + 1 : Nat) : Int))
   have hk12 : KeepsFrom WN.heap.size w11 (w11.setCell ⟨gn, 0, none⟩ (.int .i64 ((pre.length + 1 : Nat) : Int))) := (KeepsOthers.setCell _ _ _).from _
   have hg3 := HNB.out
   have hg4 := HI2.out.2.2.2
   have hg5 := HN0.out.2
   have HX12 := hid (HX11.out.apart ha12 (by show ¬ g9 = gn; omega))
   have HJX12 := hid (HJX11.out.apart ha12 (fun k hk _ e => by omega))
   have HC12 := hid ((HC2.out.below HW11.out).apart ha12 (by have := HGL.out; omega) (fun k hk e => by omega))
   have HK12 : Hid (KeepsFrom WN.heap.size W2 (w11.setCell ⟨gn, 0, none⟩ (.int .i64 ((pre.length + 1 : Nat) : Int)))) := hid (KeepsFrom.trans ⟨HW11.out.size, fun k o _ hk _ => (HW11.out.block k (Array.getElem?_eq_some_iff.1 hk).1).trans hk⟩ hk12)
   obtain ⟨w12, hw12⟩ : ∃ V, w11.setCell ⟨gn, 0, none⟩ (.int .i64 ((pre.length + 1 : Nat) : Int)) = V := ⟨_, rfl⟩
   rw [hw12] at HN12 HX12 HJX12 HC12 HK12
   first | rw [hw12] | (push_cast at hw12; rw [hw12])
   clear hw12 ha12 hk12 cn fn hwi hg3 hg4 hg5 HN11 HX11 HJX11
   skip
   have HM17 : Hid (∀ V, Below w12.heap.size w12 V → (fun wq => RowAt wq g (jcells r0) ∧ RowAt wq g9 (jcells xr) ∧ wq.cell? ⟨g + 2, 0, none⟩ = some (.string ⟨pa.toArray⟩) ∧ wq.cell? ⟨g + 3, 0, none⟩ = some (.int .i64 lc) ∧ wq.frozen? ⟨g + 3, 0, none⟩ = false) V) := hid (fun V hV => ⟨(HN12.out.below hV).i.b0, HX12.out.below hV, (HN12.out.below hV).i.c2, (HN12.out.below hV).i.c3, (HN12.out.below hV).i.f3⟩)
   have HB4 : Hid (Below w12.heap.size w12 w12.drew) := hid (Below.refl _ _).drew
   have hwl : IntKind.i64.wrap (lc - 1) = lc - 1 := IntWalk.i64_in _ (by have := HLC.out; omega)
   have hcat := bytes_app pa pe
   have hsm : ¬ 9223372036854775807 < pa.length + pe.length := by have := HPP.out.1; rw [List.length_append] at this; omega
   refine wpIn_seq_k (fun K5 hK5 => ?_)
   try simp only [Act.put, List.setIfInBounds_toArray, List.set_cons_zero, List.set_cons_succ]
   refine region_in_heldT [9] (S := (fun wq => RowAt wq g (jcells r0) ∧ RowAt wq g9 (jcells xr) ∧ wq.cell? ⟨g + 2, 0, none⟩ = some (.string ⟨pa.toArray⟩) ∧ wq.cell? ⟨g + 3, 0, none⟩ = some (.int .i64 lc) ∧ wq.frozen? ⟨g + 3, 0, none⟩ = false)) (by kernel_rfl) (by rintro ⟨_, _, h⟩; exact h) (by kernel_rfl) (HM17.out _ HB4.out) (fun hHeld0 => ?_)
   generalize w12.drew = wd17 at *
   skip
   have HB1217 : Hid (∀ V, Below w12.heap.size w12 V → Below w.heap.size w V) := hid (fun V hV => (HN12.out.below hV).i.be)
   refine heldT_tv 0 (jval r0) rfl (fun wq hSq => exec_loadJ _ rfl rfl r0 hSq.1) hHeld0 ?_
   refine heldT_tv 1 (jval xr) rfl (fun wq hSq => exec_loadJ _ rfl rfl xr hSq.2.1) hHeld0 ?_
   refine heldT_ta 2 hHeld0 ?_
   refine heldT_ta 3 hHeld0 ?_
   refine heldT_ta 6 hHeld0 ?_
   refine heldT_ta 7 hHeld0 ?_
   refine heldT_step 4 rfl (fun K hK => ?_)
   go_simp
   refine (HPC.out wd17).mono ?_
   rintro ez wq9 ⟨rfl, rfl⟩
   refine hK.out _ _ (HM17.out _ HB4.out) (fun hHeld1 => ?_)
   clear hK K hHeld0
   refine heldT_ta 5 hHeld1 ?_
   refine heldT_step 8 rfl (fun K hK => ?_)
   go_simp
   have hwk := HIH.out wd17 (fun k => WN.heap.size + 2 ≤ k) xr (us ++ [lb]) (lc - 1) (by have := HN.out; have := HSX.out.2.1; omega) (HB.out.trans ((HB1217.out _ HB4.out).mono HB.out.size)) (HJX12.out.bel HB4.out) (check_mem HC1.out HX.out) (by rw [walkR_snoc us _ _ _ HW1.out, ← HLB.out]; exact step_lab HG1.out (Nat.le_trans HLN.out (by decide)) HX.out) (by rw [pth_snoc, HPA.out, HPE.out]; exact HPP.out.2) (by have := HLC.out; omega) (by have := HLC.out; omega)
   rw [pth_snoc, HPA.out, HPE.out] at hwk
   refine hwk.mono ?_
   rintro ez w13 ⟨k2, rfl, hk0, hk2, hb13⟩
   have HK2 : Hid (0 ≤ k2 ∧ k2 ≤ 200) := hid ⟨hk0, hk2⟩
   replace HB4 : Hid (Below w12.heap.size w12 w13) := hid (HB4.out.trans (hb13.mono HB4.out.size))
   have c39 := (HN12.out.below HB4.out).i.c3
   have f39 := (HN12.out.below HB4.out).i.f3
   clear hwk hk0 hk2 hb13
   refine hK.out _ _ (HM17.out _ HB4.out) (fun hHeld2 => ?_)
   clear hK K hHeld1
   refine heldT_late ?_
   clear hHeld2
   have hHeld3 : True := trivial
   refine held_st 9 rfl (fun K hK => ?_)
   go_simp
   skip
   refine hK.out _ _ trivial (fun hHeld4 => ?_)
   clear hK K hHeld3
   refine wpAnyH_done (by kernel_rfl) ?_ _
   clear hHeld4
   refine hK5 _ _ ?_
   clear hK5 K5 hcat hsm hwl c39 f39 HM17 HB1217
   have HN13 := hid (HN12.out.below HB4.out)
   have HC12 : Hid (ClB (fun k => gA < k ∧ k < gn) gA rA w12) := HC12
   have HC13 := hid (HC12.out.below HB4.out)
   have HK13 : Hid (KeepsFrom WN.heap.size W2 w13) := hid (KeepsFrom.trans HK12.out ⟨HB4.out.size, fun k o _ hk _ => (HB4.out.block k (Array.getElem?_eq_some_iff.1 hk).1).trans hk⟩)
   have HN14 := hid (HN13.out.left k2)
   have ha14 := Apart.set (S := fun k => k = g + 3) w13 (a := ⟨g + 3, 0, none⟩) rfl (.int .i64 k2)
   have HC14 := hid (HC13.out.apart ha14 (by have := HGL.out; omega) (fun k hk e => by have := HGL.out; omega))
   have HK14 : Hid (KeepsFrom WN.heap.size W2 (w13.setCell ⟨g + 3, 0, none⟩ (.int .i64 k2))) := hid (KeepsFrom.trans HK13.out ((KeepsOthers.setCell _ _ _).from _))
   obtain ⟨w14, hw14⟩ : ∃ V, w13.setCell ⟨g + 3, 0, none⟩ (.int .i64 k2) = V := ⟨_, rfl⟩
   rw [hw14] at HN14 HC14 HK14 ⊢
   clear hw14 ha14 HN12 HX12 HJX12 HK12 HB4 HN13 HC13 HK13
   have c3 := HN14.out.i.c3
   have f4 := HN14.out.i.f4
   obtain ⟨k4, c4⟩ := HN14.out.i.c4
   by_cases hk0 : k2 ≤ 0
   ·
    gi_wp2
    have hc9 := World.cell?_setCell_same' w14 ⟨g + 4, 0, none⟩ (.int .i64 k2) (by rw [c4]; rfl)
    exact ⟨HK14.out.trans ((KeepsOthers.setCell _ _ _).from _), rfl, HN14.out.i.be.trans ((Below.refl _ w14).setCell (p := ⟨g + 4, 0, none⟩) (by show w.heap.size ≤ g + 4; have := HGW.out; omega) _), k2, HK2.out.1, HK2.out.2, hc9⟩
   gi_wp2
   exact ⟨HK14.out, k2, by omega, HK2.out.2, by rw [List.length_append, List.length_singleton]; exact HN14.out, HC14.out⟩
  case done =>
   rintro D xs W hD hxs ⟨lc, hlc1, hlc2, hi, _⟩ hd
   have HI := hid hi
   have HD := hid hD
   rw [HRA.out] at hxs
   have HLC : Hid (1 ≤ lc ∧ lc ≤ 200) := hid ⟨hlc1, hlc2⟩
   have cn := hi.cn
   have k6 := hi.i.b1.cell 6 _ rfl
   have c3 := hi.i.c3
   have f4 := hi.i.f4
   obtain ⟨k4, c4⟩ := hi.i.c4
   rw [hxs] at cn
   obtain ⟨pq, cq, hlq⟩ : ∃ pq cq, r1.2.1 = .slice pq r1.1.l.length cq := by
    cases HJ1.out with
    | mk _ ys hn hl hs9 => obtain ⟨p9, c9, e9, _⟩ := hl; exact ⟨p9, c9, e9⟩
   rw [hlq] at k6
   have HDW := hid hd
   clear hD hxs hi hlq hd hlc1 hlc2
   skip
   go_wp2_with fail
   have hK := (KeepsOthers.setCell W ⟨g + 4, 0, none⟩ (.int .i64 lc)).same D _ HDW.out rfl
   refine ⟨by simp, .inl ⟨_, _, rfl, run_takeDeferred hK, ?_⟩⟩
   have hc5 := cell_kept (World.cell?_setCell_same' W ⟨g + 4, 0, none⟩ (.int .i64 lc) (by rw [c4]; rfl)) (grownBy_putObj' _ D (.deferred none)) (fun r e => by cases e; exact ⟨_, hK, rfl⟩)
   have hbf : Below w.heap.size w ((W.setCell ⟨g + 4, 0, none⟩ (.int .i64 lc)).putObj D (.deferred none)) := HI.out.i.be.trans (((Below.refl _ W).setCell (p := ⟨g + 4, 0, none⟩) (by show w.heap.size ≤ g + 4; have := HGW.out; omega) _).trans (putObj_below _ (by have := HD.out; have := HN0.out.2; have := HGW.out; omega) (Nat.le_trans HI.out.i.be.size (KeepsOthers.setCell _ _ _).size)))
   refine ⟨.int .i64 lc, ?_, lc, rfl, by have := HLC.out; omega, HLC.out.2, hbf⟩
   simp [results, Tryz.f30, go_sem, hc5]
  rintro D c pre W hD _ ⟨rfl, hbe, kk, hk0, hk2, hc2⟩ hd
  have HD := hid hD
  have HDW := hid hd
  have HBE := hid hbe
  have HKK : Hid (0 ≤ kk ∧ kk ≤ 200) := hid ⟨hk0, hk2⟩
  clear hD hbe hd hk0 hk2
  gi_wp2
  refine ⟨by simp, .inl ⟨_, _, rfl, run_takeDeferred HDW.out, ?_⟩⟩
  have hc5 := cell_kept hc2 (grownBy_putObj' _ D (.deferred none)) (fun r e => by cases e; exact ⟨_, HDW.out, rfl⟩)
  refine ⟨.int .i64 kk, ?_, kk, rfl, HKK.out.1, HKK.out.2, HBE.out.trans (putObj_below _ (by have := HD.out; have := HN0.out.2; have := HGW.out; omega) HBE.out.size)⟩
  simp [results, Tryz.f30, go_sem, hc5]
end Go.Proofs.YtfclfaidmipjpaaGreatDoor
