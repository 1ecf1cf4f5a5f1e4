/- Texts of this claim, joined: Gos, Gep. -/
import Derived.Test.YtfclfaidmipjpaaGreatDoorPa12
namespace Go.Proofs.YtfclfaidmipjpaaGreatDoor
set_option maxRecDepth 100000
set_option maxHeartbeats 20000000
open Go.Lib (hid)
open Go.RowKit
theorem run_fnil (f : Fn) (a b : Array Value) (w : World) : Sem.run Tryz.prog (binOp .eql 47 (Value.func f a b) Value.nilFunc) w = .ok (.bool false) w := by
 kernel_rfl
attribute [local go_sem] run_fnil Oper.semAt_some
theorem new1 {W V : World} {v : Value} {t : TypeId} {g : Nat} (hg : W.heap.size = g) (hb : Below (W.alloc (.cells #[v] t)).heap.size (W.alloc (.cells #[v] t)) V) : V.cell? ⟨g, 0, none⟩ = some v ∧ V.frozen? ⟨g, 0, none⟩ = false := by
 subst hg
 have hh := World.alloc_heap_new W (.cells #[v] t)
 have hl : W.heap.size < (W.alloc (.cells #[v] t)).heap.size := by rw [World.size_alloc]; omega
 have hk := (hb.block _ hl).trans hh
 refine ⟨?_, Joins.unfrozen_of_block hk 0⟩
 unfold World.cell?
 rw [hk]
 rfl
theorem region_in_lit {P : Program} {Q : Exit → Act → World → Prop} {l n id : Nat} {a : Act} {w : World} {r : List Oper} (hd : NoDefer r.toArray = true) (hq : ¬ LetsOut Q) (h : wpList P r.toArray Q r a w) : (Code.region id r.toArray false).wpIn (Fence.wide.inRound l) n P Q a w := region_in hd hq h
def Cel (w : World) (S : Nat → Prop) (k : Nat) : Prop := S k ∧ ∀ o, w.heap[k]? = some o → o.isCells = true
theorem InS.cel {w : World} {S : Nat → Prop} {g off : Nat} {t : TypeId} (h : InS w S g off t) (h0 : ¬ S 0) : InS w (Cel w S) g off t := by
 have h1 := h.2.resolve_left h0
 refine ⟨⟨h.1, fun o ho => ?_⟩, .inr h1⟩
 obtain ⟨_, cur, hc⟩ := h1
 rw [hc] at ho
 injection ho with ho
 subst ho
 rfl
theorem NamS.cel {w : World} {S : Nat → Prop} {v : Value} {ns : List (List UInt8)} (h : NamS w S v ns) (h0 : ¬ S 0) : NamS w (Cel w S) v ns := by
 obtain ⟨p, cap, h1, h2, h3, h4⟩ := h
 refine ⟨p, cap, h1, h2, h3, fun hz => ?_⟩
 obtain ⟨g, off, e, hB, hl, h5⟩ := h4 hz
 exact ⟨g, off, e, hB.cel h0, hl, h5⟩
theorem JV.cel {w : World} {S : Nat → Prop} {r : JR} (h : JV w S r) (h0 : ¬ S 0) : JV w (Cel w S) r := by
 induction h with
 | mk r xs hn hl hs ih =>
  refine .mk r xs (hn.cel h0) ?_ ih
  obtain ⟨p, cap, h1, h2, h3, h4⟩ := hl
  refine ⟨p, cap, h1, h2, h3, fun hz => ?_⟩
  obtain ⟨g, off, e, hB, hg, h5⟩ := h4 hz
  exact ⟨g, off, e, hB.cel h0, hg, h5⟩
structure GoI (w W : World) (g : Nat) (r1 : JR) (lv : Int) (n : Nat) : Prop where
 be : Below w.heap.size w W
 box : RowAt W g (jcells r1)
 c1 : W.cell? ⟨g + 1, 0, none⟩ = some (.int .i64 lv)
 c2 : ∃ b, W.cell? ⟨g + 2, 0, none⟩ = some (.bool b)
 f2 : W.frozen? ⟨g + 2, 0, none⟩ = false
 c3 : W.cell? ⟨g + 3, 0, none⟩ = some (.int .i64 (n : Int))
 f3 : W.frozen? ⟨g + 3, 0, none⟩ = false
 lo : w.heap.size = g
 hi : g + 4 ≤ W.heap.size
theorem GoI.apart {S : Nat → Prop} {w W V : World} {g n : Nat} {r1 : JR} {lv : Int} (h : GoI w W g r1 lv n) (ha : Apart S W V) (hs : ∀ k, k < g + 4 → ¬ S k) : GoI w V g r1 lv n := by
 have hl := h.lo
 have hh := h.hi
 have cc : ∀ k, k < g + 4 → V.cell? ⟨k, 0, none⟩ = W.cell? ⟨k, 0, none⟩ := fun k hk => ha.cell (a := ⟨k, 0, none⟩) (by show k < _; omega) (hs k hk)
 have ff : ∀ k, k < g + 4 → V.frozen? ⟨k, 0, none⟩ = W.frozen? ⟨k, 0, none⟩ := fun k hk => ha.frozen (a := ⟨k, 0, none⟩) (by show k < _; omega) (hs k hk)
 exact ⟨h.be.trans (ha.below h.be.size (fun i hi => hs i (by omega))), h.box.apart ha (hs _ (by omega)), (cc _ (by omega)).trans h.c1, by obtain ⟨b, hb⟩ := h.c2; exact ⟨b, (cc _ (by omega)).trans hb⟩, (ff _ (by omega)).trans h.f2, (cc _ (by omega)).trans h.c3, (ff _ (by omega)).trans h.f3, h.lo, Nat.le_trans hh ha.size⟩
theorem GoI.below {w W V : World} {g n : Nat} {r1 : JR} {lv : Int} (h : GoI w W g r1 lv n) (hb : Below W.heap.size W V) : GoI w V g r1 lv n := h.apart (S := fun _ => False) (Apart.ofBelow hb) (fun _ _ e => e)
theorem GoI.count {w W : World} {g n : Nat} {r1 : JR} {lv : Int} (h : GoI w W g r1 lv n) : GoI w (W.setCell ⟨g + 3, 0, none⟩ (.int .i64 ((n + 1 : Nat) : Int))) g r1 lv (n + 1) := by
 have ha : Apart (fun k => k = g + 3) W (W.setCell ⟨g + 3, 0, none⟩ (.int .i64 ((n + 1 : Nat) : Int))) := Apart.set (S := fun k => k = g + 3) W (a := ⟨g + 3, 0, none⟩) rfl _
 have hl := h.lo
 have hh := h.hi
 have cc : ∀ k, k < g + 3 → (W.setCell ⟨g + 3, 0, none⟩ (.int .i64 ((n + 1 : Nat) : Int))).cell? ⟨k, 0, none⟩ = W.cell? ⟨k, 0, none⟩ := fun k hk => ha.cell (a := ⟨k, 0, none⟩) (by show k < _; omega) (by show ¬ k = _; omega)
 exact ⟨h.be.trans (ha.below h.be.size (fun i hi => by omega)), h.box.apart ha (by omega), (cc _ (by omega)).trans h.c1, by obtain ⟨b, hb⟩ := h.c2; exact ⟨b, (cc _ (by omega)).trans hb⟩, by rw [World.frozen?_setCell]; exact h.f2, World.cell?_setCell_same' _ _ _ (by rw [h.c3]; rfl), by rw [World.frozen?_setCell]; exact h.f3, h.lo, Nat.le_trans hh ha.size⟩
theorem goes_calls {w0 : World} {S1 : Nat → Prop} {r1 : JR} (h1 : JV w0 S1 r1) (hTab : Tab w0) (w : World) (hb : Below w0.heap.size w0 w) (hgood : goodJ r1.1 = true) (hsz : szJ r1.1 ≤ 20000000) {gA : Nat}
  (hH : ∀ (W : World) (n0 m : Nat), Below w.heap.size w W → w.heap.size ≤ n0 → n0 ≤ W.heap.size → Hands Fence.wide m Tryz.prog 60 #[.pointer (some ⟨gA, 0, none⟩)] encA n0 (EA r1.1) (fun xs => xs.length = r1.1.l.length) (fun _ => True) W) (lv : Int) :
  Calls Tryz.prog 24 #[.func (.func 60) #[] #[.pointer (some ⟨gA, 0, none⟩)], jval r1, .int .i64 lv] w (fun e w' => e = .returned (.bool true) ∧ Below w.heap.size w w') := by
 have HB := hid hb
 have HJ := hid h1
 have HT := hid hTab
 have HGD := hid hgood
 have HSZ := hid hsz
 have HH := hid hH
 clear h1 hb hTab hgood hsz hH
 refine callsIn_wide.1 (callsIn_of_wp_marks (F := Fence.wide) (n := 5) Tryz.func24 rfl trivial ?_ rfl)
 simp only [Tryz.ntmps24, List.size_toArray, List.length_cons, List.length_nil, Nat.reduceAdd, Nat.reduceSub, Array.replicate_succ, Array.replicate_zero, List.push_toArray, List.append_toArray, List.nil_append, List.cons_append]
 refine wpIn_seq_k (fun K hK => ?_)
 refine wpIn_wide.2 ?_
 go_wp2_with (refine wpList_boxJ rfl _ rfl r1 rfl ?_; intro w1 hBx)
 gi_wp2
 obtain ⟨g, hg⟩ : ∃ g, w.heap.size = g := ⟨_, rfl⟩
 have hy1 : w1.heap.size = g + 1 := by have := hBx.size; omega
 obtain ⟨WL, hWL⟩ : ∃ W, ((w1.alloc (.cells #[.int .i64 lv] 3)).alloc (.cells #[.bool false] 4)).alloc (.cells #[.int .i64 0] 3) = W := ⟨_, rfl⟩
 have HI0 : Hid (GoI w WL g r1 lv 0 ∧ WL.heap.size = g + 4) := hid (by
  obtain ⟨A, hA⟩ : ∃ A, w1.alloc (.cells #[.int .i64 lv] 3) = A := ⟨_, rfl⟩
  obtain ⟨B, hB⟩ : ∃ B, A.alloc (.cells #[.bool false] 4) = B := ⟨_, rfl⟩
  rw [hA, hB] at hWL
  have sA : A.heap.size = g + 2 := by rw [← hA, World.size_alloc, hy1]
  have sB : B.heap.size = g + 3 := by rw [← hB, World.size_alloc, sA]
  have sL : WL.heap.size = g + 4 := by rw [← hWL, World.size_alloc, sB]
  have bL : Below B.heap.size B WL := by rw [← hWL]; exact (Below.refl _ B).alloc (Nat.le_refl _) _
  have bB : Below A.heap.size A B := by rw [← hB]; exact (Below.refl _ A).alloc (Nat.le_refl _) _
  have bA : Below w1.heap.size w1 A := by rw [← hA]; exact (Below.refl _ w1).alloc (Nat.le_refl _) _
  have bAL := bB.trans (bL.mono bB.size)
  have b1L := bA.trans (bAL.mono bA.size)
  have e1 := new1 (V := WL) (v := .int .i64 lv) (t := 3) hy1 (by rw [hA]; exact bAL)
  have e2 := new1 (V := WL) (v := .bool false) (t := 4) sA (by rw [hB]; exact bL)
  have e3 := new1 (V := WL) (v := .int .i64 0) (t := 3) sB (by rw [hWL]; exact Below.refl _ _)
  have hbx := hBx.row.below b1L
  rw [hg] at hbx
  exact ⟨⟨hBx.be.trans (b1L.mono hBx.be.size), hbx, e1.1, ⟨_, e2.1⟩, e2.2, e3.1, e3.2, hg, by omega⟩, sL⟩)
 rw [hWL]
 simp only [hg, hy1, Nat.add_assoc, Nat.reduceAdd]
 have HG := hid hg
 clear hg hy1 hWL hBx
 refine range_hands (F := Fence.wide) (n := 5) rfl (by decide) (gf := 60) (lb := #[.pointer (some ⟨gA, 0, none⟩)]) rfl trivial (enters_of Tryz.func60 (by kernel_rfl) rfl)
  (HH.out WL g (5 - 1) HI0.out.1.be (Nat.le_of_eq HG.out) (by have := HI0.out.2; omega)) (Below.refl _ _) (by have := HI0.out.2; omega) (fun _ => rfl)
  (fun pre W => GoI w W g r1 lv pre.length)
  (fun c pre W => c = .ret ∧ Below w.heap.size w W ∧ W.cell? ⟨g + 2, 0, none⟩ = some (.bool true))
  (fun s W k o o9 h hk ho hc => h.apart (S := fun i => i = k) (putObj_apart W k o9) (fun i hi e => by have := HI0.out.2; omega))
  (fun s W V h hb => h.below hb)
  (fun c s W k o o9 h hk ho hc => ⟨h.1, h.2.1.trans ((putObj_apart W k o9).below h.2.1.size (fun i hi e => by have := HI0.out.2; have := HG.out; omega)), ((putObj_apart W k o9).cell (a := ⟨g + 2, 0, none⟩) (World.block_lt_of_cell? _ _ h.2.2) (fun e => by have := HI0.out.2; have e2 : g + 2 = k := e; omega)).trans h.2.2⟩)
  (fun c s W V h hb => ⟨h.1, h.2.1.trans (hb.mono h.2.1.size), (hb.cell (p := ⟨g + 2, 0, none⟩) (World.block_lt_of_cell? _ _ h.2.2)).trans h.2.2⟩)
  HI0.out.1 ?round ?done ?stop
 case round =>
  rintro l pre ⟨s, xr⟩ W hl hlt hi ⟨hs, hx, hjx⟩
  dsimp only at hs hx hjx
  subst hs
  dsimp only [encA]
  have HL := hid hl
  have HI := hid hi
  have HX := hid hx
  have HJX := hid hjx
  have HLT := hid hlt
  clear hl hlt hi hx hjx
  refine wpIn_seq_k (fun K hK => ?_)
  refine region_in_lit (by kernel_rfl) (by rintro ⟨_, _, h⟩; exact h) ?_
  go_wp2_with fail
  refine region_in_lit (by kernel_rfl) (by rintro ⟨_, _, h⟩; exact h) ?_
  have SLX := hid HJX.out.slJ
  go_wp2_with (first | (refine wpList_allocJ rfl rfl ?_; intro wa hBy) | (refine wpList_storeJ rfl _ _ rfl rfl hBy.row rfl xr SLX.out rfl rfl ?_; intro wb hSx))
  have HKF : Hid (GoI w wb g r1 lv pre.length ∧ RowAt wb W.heap.size (jcells xr) ∧ Below W.heap.size W wb ∧ JV wb (fun k => WL.heap.size + 2 ≤ k ∧ k < W.heap.size) xr) := hid (by
   have hbb : Below W.heap.size W wb := hSx.below hBy.be (Nat.le_refl _) hBy.be.size
   have hj9 : JV W (fun k => WL.heap.size + 2 ≤ k ∧ k < W.heap.size) xr := HJX.out.mono (fun k hk hs => ⟨hs, hk⟩)
   exact ⟨HI.out.below hbb, hSx.row, hbb, hj9.bel hbb⟩)
  refine ⟨⟨HKF.out.2.2.1.size, fun k o _ hk _ => (HKF.out.2.2.1.block k (Array.getElem?_eq_some_iff.1 hk).1).trans hk⟩, HKF.out.2.2.1.mono (by have := HI.out.hi; omega), fun W2 hap hsz2 => ?_⟩
  have hl2 := HL.out
  have H4 := HI0.out.2
  obtain ⟨g9, hg9⟩ : ∃ q, W.heap.size = q := ⟨_, rfl⟩
  have hg9l : l < g9 ∧ g + 4 ≤ g9 := by have := HLT.out; omega
  have HI2 : Hid (GoI w W2 g r1 lv pre.length ∧ RowAt W2 g9 (jcells xr) ∧ JV W2 (fun k => g + 6 ≤ k ∧ k < g9) xr ∧ g9 < W2.heap.size ∧ g + 4 ≤ g9) := hid (by
   obtain ⟨a1, a2, a3, a4⟩ := HKF.out
   rw [hg9] at a2 a4
   refine ⟨a1.apart hap (fun k hk e => by omega), a2.apart hap (by omega), (a4.apart hap (fun k hk _ e => by omega)).mono (fun k _ hk => ⟨by omega, hk.2⟩), by have := a2.lt; omega, by omega⟩)
  rw [hg9]
  clear HKF hap hBy hSx hl2 hsz2 HI HJX HLT hg9 hg9l
  skip
  refine wpIn_block ?_
  refine wpIn_seq_k (fun K hK => ?_)
  refine wpIn_seq_k (fun K2 hK2 => ?_)
  have hi9 : pre.length < r1.1.l.length := (List.getElem?_eq_some_iff.1 HX.out).1
  have hlti : (pre.length : Int) < (r1.1.l.length : Int) := by omega
  have hge : decide (r1.1.l.length ≤ pre.length) = false := decide_eq_false (by omega)
  have HI9 := hid hi9
  have HLN : Hid (r1.1.l.length ≤ 20000000) := hid (by
   have hsz := HSZ.out
   obtain ⟨⟨k, b, n, t, l, ns⟩, _⟩ := r1
   simp only [szJ] at hsz
   have := szL_len l
   show l.length ≤ _
   omega)
  obtain ⟨gl, fl, ly, c9, hlq, hra, hjm⟩ : ∃ gl fl ly c9, r1.2.1 = .slice (some ⟨gl, fl, none⟩) r1.1.l.length c9 ∧ (∀ V, Below w0.heap.size w0 V → V.rangeAt gl (fl + pre.length * 8) (jcells (xr.1, ly))) ∧ JV w0 S1 (xr.1, ly) := by
   cases HJ.out with
   | mk _ xs hn hl hs9 =>
    obtain ⟨p2, c2, e2, _, _, hL2⟩ := hl
    obtain ⟨g2, f2, e3, _, hg2, hr2⟩ := hL2 (by omega)
    refine ⟨g2, f2, xs pre.length, c2, by rw [e2, e3], fun V hV c v hc => ?_, hs9 _ _ HX.out⟩
    have hc8 : c < 8 := (List.getElem?_eq_some_iff.1 hc).1
    rw [hV.cell (p := ⟨g2, f2 + pre.length * 8 + c, none⟩) hg2, hr2 _ _ HX.out c hc8]; exact hc
  have HMK : Hid (∀ V, Below W2.heap.size W2 V → (fun wq => RowAt wq g (jcells r1) ∧ wq.cell? ⟨g, 6, none⟩ = some (.slice (some ⟨gl, fl, none⟩) r1.1.l.length c9) ∧ wq.cell? ⟨g + 3, 0, none⟩ = some (.int .i64 (pre.length : Int)) ∧ RowAt wq g9 (jcells xr) ∧ wq.rangeAt gl (fl + pre.length * 8) (jcells (xr.1, ly))) V) := hid (fun V hV => by
   have h9 := HI2.out.1.below hV
   exact ⟨h9.box, by rw [← hlq]; exact h9.box.cell 6 _ rfl, h9.c3, HI2.out.2.1.below hV, hra V (HB.out.trans (h9.be.mono HB.out.size))⟩)
  have HJM := hid hjm
  have HBD : Hid (Below W2.heap.size W2 W2.drew) := hid (Below.refl _ _).drew
  have HBW : Hid (∀ V, Below W2.heap.size W2 V → Below w0.heap.size w0 V) := hid (fun V hV => HB.out.trans ((HI2.out.1.below hV).be.mono HB.out.size))
  clear hlq hra hjm hi9
  simp only [Act.put, List.setIfInBounds_toArray, List.set_cons_zero, List.set_cons_succ]
  refine region_in_held (S := (fun wq => RowAt wq g (jcells r1) ∧ wq.cell? ⟨g, 6, none⟩ = some (.slice (some ⟨gl, fl, none⟩) r1.1.l.length c9) ∧ wq.cell? ⟨g + 3, 0, none⟩ = some (.int .i64 (pre.length : Int)) ∧ RowAt wq g9 (jcells xr) ∧ wq.rangeAt gl (fl + pre.length * 8) (jcells (xr.1, ly)))) (by kernel_rfl) (by rintro ⟨_, _, h⟩; exact h) (by kernel_rfl) (HMK.out _ HBD.out) (fun hHeld0 => ?_)
  generalize W2.drew = wd at *
  refine held_ta 0 hHeld0 ?_
  refine held_ta 1 hHeld0 ?_
  refine held_ta 2 hHeld0 ?_
  refine held_ta 3 hHeld0 ?_
  refine held_ta 4 hHeld0 ?_
  refine held_ta 5 hHeld0 ?_
  refine held_ta 6 hHeld0 ?_
  refine held_tv 7 (jval r1) rfl (fun wq hSq => exec_loadJ _ rfl rfl r1 hSq.1) hHeld0 ?_
  refine held_ta 8 hHeld0 ?_
  refine held_st 9 rfl (fun K hK => ?_)
  go_simp
  refine (labR_calls HJ.out HT.out wd (HBW.out _ HBD.out) pre.length HI9.out HLN.out (kind_lens HGD.out)).mono ?_
  rintro ez w3 ⟨rfl, hb3⟩
  have HB3 : Hid (Below W2.heap.size W2 w3) := hid (HBD.out.trans (hb3.mono HBD.out.size))
  clear hb3
  refine hK.out _ _ (HMK.out _ HB3.out) (fun hHeld1 => ?_)
  clear hK K hHeld0
  refine held_ta 10 hHeld1 ?_
  refine held_ta 11 hHeld1 ?_
  refine held_ta 12 hHeld1 ?_
  refine held_tv 13 (jval xr) rfl (fun wq hSq => exec_loadJ _ rfl rfl xr hSq.2.2.2.1) hHeld1 ?_
  refine held_ta 14 hHeld1 ?_
  refine held_ta 15 hHeld1 ?_
  refine held_ta 16 hHeld1 ?_
  refine held_ta 17 hHeld1 ?_
  refine held_tv 18 (jval (xr.1, ly)) rfl (fun wq hSq => exec_load8 _ rfl rfl (xr.1, ly) hSq.2.2.2.2) hHeld1 ?_
  refine held_st 19 rfl (fun K hK => ?_)
  go_simp
  refine (sameR_calls HI2.out.2.2.1 S1 (xr.1, ly) w3 HB3.out (HJM.out.bel (HBW.out _ HB3.out))).mono ?_
  rintro ez w4 ⟨bb, rfl, hbb, hb4⟩
  obtain rfl : bb = true := hbb.2 rfl
  have HB4 : Hid (Below W2.heap.size W2 w4) := hid (HB3.out.trans (hb4.mono HB3.out.size))
  clear hbb hb4
  refine hK.out _ _ (HMK.out _ HB4.out) (fun hHeld2 => ?_)
  clear hK K hHeld1
  refine held_ta 20 hHeld2 ?_
  refine held_ta 21 hHeld2 ?_
  refine wpAnyH_done (by kernel_rfl) ?_ _
  clear hHeld2
  refine hK2 _ _ ?_
  refine wpIn_cond_false rfl ?_
  refine wpIn_skip ?_
  refine hK _ _ ?_
  clear hK hK2 K K2 hlti hge
  refine wpIn_seq_k (fun K3 hK3 => ?_)
  refine region_in_lit (by kernel_rfl) (by rintro ⟨_, _, h⟩; exact h) ?_
  have HX4 := hid (HI2.out.2.1.below HB4.out)
  have HI4 := hid (HI2.out.1.below HB4.out)
  have HJ4 := hid ((HI2.out.2.2.1.bel HB4.out).cel (by omega))
  have HSX : Hid (szJ xr.1 ≤ 20000000) := hid (Nat.le_trans (good_mem HGD.out (List.mem_of_getElem? HX.out)).2 HSZ.out)
  go_wp2_with (first | (refine wpList_loadJ rfl _ rfl xr HX4.out rfl ?_) | (refine (spoil_calls _ xr w4 (Cel w4 (fun k => g + 6 ≤ k ∧ k < g9)) (fun k h => by have := h.1.2; have := HI2.out.2.2.2.1; have := HB4.out.size; omega) (JV.spo HJ4.out (fun h => by have := h.1.1; omega) _ (Nat.le_refl _) HSX.out)).mono ?_; rintro ez w5 ⟨rfl, hz5⟩))
  have HI5 := hid (HI4.out.apart hz5.apart (fun k hk e => by have := e.1.1; omega))
  have HK5 : Hid (KeepsFrom WL.heap.size W2 w5 ∧ Below g W2 w5) := hid ⟨⟨Nat.le_trans HB4.out.size hz5.size, fun k o _ hk ho => by
   have hk4 := (HB4.out.block k (Array.getElem?_eq_some_iff.1 hk).1).trans hk
   exact (hz5.block k (Array.getElem?_eq_some_iff.1 hk4).1 (fun e => by have h9 := e.2 o hk4; rw [ho] at h9; cases h9)).trans hk4⟩, (HB4.out.mono (by have := HI2.out.1.hi; omega)).trans (hz5.apart.below (by have := HI4.out.hi; omega) (fun i hi e => by have := e.1.1; omega))⟩
  have c3 := HI5.out.c3
  have f3 := HI5.out.f3
  have hwi : IntKind.i64.wrap ((pre.length : Int) + 1) = ((pre.length + 1 : Nat) : Int) := by have := HLN.out; have := HI9.out; rw [IntWalk.i64_in _ (by omega)]; omega
  clear hz5
  refine wpIn_seq_k (fun K4 hK4 => ?_)
  refine region_in_lit (by kernel_rfl) (by rintro ⟨_, _, h⟩; exact h) ?_
  go_wp2_with fail
  have HI6 := hid HI5.out.count
  have HK6 : Hid (KeepsFrom WL.heap.size W2 (w5.setCell ⟨g + 3, 0, none⟩ (.int .i64 ((pre.length + 1 : Nat) : Int))) ∧ Below g W2 (w5.setCell ⟨g + 3, 0, none⟩ (.int .i64 ((pre.length + 1 : Nat) : Int)))) := hid ⟨HK5.out.1.trans ((KeepsOthers.setCell _ _ _).from _), HK5.out.2.trans ((Below.refl g w5).setCell (p := ⟨g + 3, 0, none⟩) (by show g ≤ g + 3; omega) _)⟩
  obtain ⟨w6, hw6⟩ : ∃ V, w5.setCell ⟨g + 3, 0, none⟩ (.int .i64 ((pre.length + 1 : Nat) : Int)) = V := ⟨_, rfl⟩
  rw [hw6] at HI6 HK6
  first | rw [hw6] | (push_cast at hw6; rw [hw6])
  clear hw6 c3 f3 hwi
  have c3 := HI6.out.c3
  have c1 := HI6.out.c1
  have f2 := HI6.out.f2
  obtain ⟨rb, c2⟩ := HI6.out.c2
  have HLB := hid (show (pre ++ [(labV r1.1 pre.length, xr)]).length = pre.length + 1 by rw [List.length_append, List.length_singleton])
  by_cases hlv : ((pre.length + 1 : Nat) : Int) = lv
  ·
   subst hlv
   gi_wp2
   refine ⟨HK6.out.1.trans ((KeepsOthers.setCell _ _ _).from _), rfl, HI6.out.be.trans ((Below.refl _ w6).setCell (p := ⟨g + 2, 0, none⟩) (by show w.heap.size ≤ g + 2; have := HG.out; omega) _), World.cell?_setCell_same' _ _ _ (by rw [c2]; rfl)⟩
  have n1 : (((pre.length + 1 : Nat) : Int) == lv) = false := beq_eq_false_iff_ne.2 hlv
  gi_wp2
  exact ⟨HK6.out.1, HK6.out.2, by show GoI w w6 g r1 lv (pre ++ [(labV r1.1 pre.length, xr)]).length; rw [HLB.out]; exact HI6.out⟩
 case done =>
  rintro D xs W hD hxs hi hd
  have HI := hid hi
  have HD := hid hD
  have HXS := hid hxs
  have c3 := hi.c3
  have k6 := hi.box.cell 6 _ rfl
  have f2 := hi.f2
  obtain ⟨rb, c2⟩ := hi.c2
  rw [hxs] at c3
  obtain ⟨pq, cq, hlq⟩ : ∃ pq cq, r1.2.1 = .slice pq r1.1.l.length cq := by
   cases HJ.out with
   | mk _ ys hn hl hs9 => obtain ⟨p9, c9, e9, _⟩ := hl; exact ⟨p9, c9, e9⟩
  rw [hlq] at k6
  have HDW := hid hd
  clear hD hxs hi hlq hd
  gi_wp2
  have hK := (KeepsOthers.setCell W ⟨g + 2, 0, none⟩ (.bool true)).same D _ HDW.out rfl
  refine ⟨by simp, .inl ⟨_, _, rfl, run_takeDeferred hK, ?_⟩⟩
  have hc5 := cell_kept (World.cell?_setCell_same' W ⟨g + 2, 0, none⟩ (.bool true) (by rw [c2]; rfl)) (grownBy_putObj' _ D (.deferred none)) (fun r e => by cases e; exact ⟨_, hK, rfl⟩)
  have hbf : Below w.heap.size w ((W.setCell ⟨g + 2, 0, none⟩ (.bool true)).putObj D (.deferred none)) := HI.out.be.trans (((Below.refl _ W).setCell (p := ⟨g + 2, 0, none⟩) (by show w.heap.size ≤ g + 2; have := HG.out; omega) _).trans (putObj_below _ (by have := HD.out; have := HI0.out.2; have := HG.out; omega) (Nat.le_trans HI.out.be.size (KeepsOthers.setCell _ _ _).size)))
  refine ⟨.bool true, ?_, rfl, hbf⟩
  simp [results, Tryz.f24, go_sem, hc5]
 case stop =>
  rintro D c pre W hD _ ⟨rfl, hbe, hc2⟩ hd
  have HD := hid hD
  have HDW := hid hd
  have HBE := hid hbe
  clear hD hbe hd
  gi_wp2
  refine ⟨by simp, .inl ⟨_, _, rfl, run_takeDeferred HDW.out, ?_⟩⟩
  have hc5 := cell_kept hc2 (grownBy_putObj' _ D (.deferred none)) (fun r e => by cases e; exact ⟨_, HDW.out, rfl⟩)
  refine ⟨.bool true, ?_, rfl, HBE.out.trans (putObj_below _ (by have := HD.out; have := HI0.out.2; have := HG.out; omega) HBE.out.size)⟩
  simp [results, Tryz.f24, go_sem, hc5]
open Go.RowKit
def getV (v : J) (u : List UInt8) : J × Bool := if checkJ v = 0 then (match getJ v u with | some x => (x, true) | none => (J.zero, false)) else (J.zero, false)
def GepTo (w : World) (q : J × Bool) (e : Ending) (w' : World) : Prop := ∃ lv nv, e = .returned (.tuple #[jval (q.1, lv, nv), .bool q.2]) ∧ JV w' (fun k => w.heap.size ≤ k) (q.1, lv, nv) ∧ Below w.heap.size w w'
theorem GepTo.no {w W wS : World} {q : J × Bool} {g : Nat} (hq : q = (J.zero, false)) (hb : Below w.heap.size w W) (h : Sx W wS g jzero) (hg : w.heap.size ≤ g) : GepTo w q (.returned (.tuple #[jval jzero, .bool false])) wS := by
 subst hq
 exact ⟨.slice none 0 0, .slice none 0 0, rfl, JV.zero _ _, h.below hb hg hb.size⟩
theorem getP_calls {w0 : World} {S1 : Nat → Prop} {r1 : JR} (h1 : JV w0 S1 r1) (hTab : Tab w0) (hT : Lib.Utf8Tabs 0 1 w0) (w : World) (hb : Below w0.heap.size w0 w) (hsz : szJ r1.1 ≤ 20000000) (u : List UInt8) :
  Calls Tryz.prog 20 #[jval r1, .string ⟨u.toArray⟩] w (GepTo w (getV r1.1 u)) := by
 have hJ := h1
 cases h1 with
 | mk _ xs hn1 hl1 hs1 =>
  obtain ⟨⟨k, b, n, t, l, ns⟩, lv0, nv0⟩ := r1
  have hn0 := hn1
  have hsz0 := hsz
  obtain ⟨p1, c1, hp1, hc1, hm1, hL1⟩ := hl1
  change lv0 = Value.slice p1 l.length c1 at hp1
  obtain ⟨q1, e1, hq1, hcn1, hkm1, hN1⟩ := hn1
  change nv0 = Value.slice q1 ns.length e1 at hq1
  subst hp1 hq1
  simp only [J.l] at hm1 hL1 hc1
  simp only [szJ] at hsz
  have hln : l.length ≤ 100000000 := by have := szL_len l; omega
  have hnn : ns.length ≤ 100000000 := by have := szN_len ns; omega
  change NamS w0 S1 (Value.slice q1 ns.length e1) ns at hn0
  obtain ⟨R1, hR1⟩ : ∃ R : JR, ((J.mk k b n t l ns, Value.slice p1 l.length c1, Value.slice q1 ns.length e1) : JR) = R := ⟨_, rfl⟩
  have HCC : Hid (∀ (W : World) (g : Nat), RowAt W g (jcells R1) → RowAt W g [.int .i64 k, .bool b, .bool n.neg, .string ⟨n.digits.toArray⟩, .int .i64 n.exp, .string ⟨t.toArray⟩, .slice p1 l.length c1, .slice q1 ns.length e1]) := hid (fun W g h => by subst hR1; exact h)
  have HPIC : Hid (∀ (i : Nat) (hi : i < l.length), ∃ gl fl, p1 = some ⟨gl, fl, none⟩ ∧ ∃ x, l[i]? = some x ∧ JV w0 S1 (x, xs i) ∧ ∀ W, Below w0.heap.size w0 W → W.rangeAt gl (fl + i * 8) (jcells (x, xs i))) := hid (fun i hi => by
   obtain ⟨gl, fl, e, _, hgl, hcs⟩ := hL1 (by omega)
   refine ⟨gl, fl, e, l[i], List.getElem?_eq_getElem hi, hs1 i _ (List.getElem?_eq_getElem hi), fun W hW c v hc => ?_⟩
   have hc8 : c < 8 := (List.getElem?_eq_some_iff.1 hc).1
   rw [hW.cell (p := ⟨gl, fl + i * 8 + c, none⟩) hgl, hcs i _ (List.getElem?_eq_getElem hi) c hc8]; exact hc)
  have HN0 := hid hn0
  have HB := hid hb
  have HV1 : Hid (R1.1 = J.mk k b n t l ns ∧ jval R1 = .agg #[.int .i64 k, .bool b, .bool n.neg, .string ⟨n.digits.toArray⟩, .int .i64 n.exp, .string ⟨t.toArray⟩, .slice p1 l.length c1, .slice q1 ns.length e1]) := hid (by subst hR1; exact ⟨rfl, rfl⟩)
  rw [hR1] at hJ ⊢
  have HJ := hid hJ
  have HSZ : Hid (szJ R1.1 ≤ 20000000) := hid (by rw [HV1.out.1]; exact hsz0)
  have HSL : Hid (szL l ≤ 20000000) := hid (by omega)
  clear hR1 hL1 hs1 hsz hsz0 hcn1 hkm1 hc1 hm1 hn0 hb hJ hN1
  obtain ⟨QA, hQA⟩ : ∃ q, getV R1.1 u = q := ⟨_, rfl⟩
  have HQ := hid hQA
  rw [hQA]
  clear hQA
  go_enter Tryz.func20, Tryz.ntmps20
  go_upto_region 1 with (first | (refine wpList_boxJ rfl _ rfl R1 rfl ?_; intro w1 hBx) | (refine wpList_allocJ rfl rfl ?_; intro w2 hBy))
  have HV := hid (hBx.row.below hBy.be)
  have HR := hid hBy.row
  have HW1 : Hid (Below w.heap.size w w2) := hid (hBy.below hBx.be hBx.be.size)
  have HW : Hid (Below w0.heap.size w0 w2) := hid (HB.out.trans (HW1.out.mono HB.out.size))
  have hz := hBx.size
  obtain ⟨g1, hg1⟩ : ∃ g, w.heap.size = g := ⟨_, rfl⟩
  obtain ⟨g2, hg2⟩ : ∃ g, w1.heap.size = g := ⟨_, rfl⟩
  have HG : Hid (w.heap.size = g1 ∧ g2 = g1 + 1) := hid ⟨hg1, by omega⟩
  rw [hg1] at HV ⊢
  rw [hg2] at HR ⊢
  clear hBx hBy hg1 hg2 hz
  have k7 : _ = some (Value.slice q1 ns.length e1) := (HCC.out _ _ HV.out).cell 7 _ rfl
  go_wp2_with fail
  refine (index_calls (HN0.out.below HW.out) (by omega) u).mono ?_
  rintro e wq ⟨rfl, rfl⟩
  clear k7
  by_cases hm : u ∈ ns
  ·rw [if_pos hm]
   obtain ⟨i, hi⟩ : ∃ i, ns.idxOf u = i := ⟨_, rfl⟩
   have hGI : getJ R1.1 u = l[i]? := by rw [HV1.out.1, getJ]; show (if u ∈ ns then l[ns.idxOf u]? else none) = _; rw [if_pos hm, hi]
   have HGI := hid hGI
   have HIN : Hid (i < ns.length) := hid (by rw [← hi]; exact List.idxOf_lt_length_iff.2 hm)
   rw [hi]
   have hneg : ¬ (i : Int) < 0 := by omega
   clear hi hm hGI
   obtain ⟨c, hc⟩ : ∃ c, checkJ R1.1 = c := ⟨_, rfl⟩
   have HC := hid hc
   clear hc
   have k0 := (HCC.out _ _ HV.out).cell 0 _ rfl
   have k1 := (HCC.out _ _ HV.out).cell 1 _ rfl
   have k2 := (HCC.out _ _ HV.out).cell 2 _ rfl
   have k3 := (HCC.out _ _ HV.out).cell 3 _ rfl
   have k4 := (HCC.out _ _ HV.out).cell 4 _ rfl
   have k5 := (HCC.out _ _ HV.out).cell 5 _ rfl
   have k6 := (HCC.out _ _ HV.out).cell 6 _ rfl
   have k7 := (HCC.out _ _ HV.out).cell 7 _ rfl
   go_wp2_with fail
   rw [← HV1.out.2]
   refine (checkJ_calls HJ.out hTab hT wq HW.out HSZ.out).mono ?_
   rintro e w3 ⟨rfl, hb3⟩
   rw [HC.out]
   have HV3 := hid (HV.out.below hb3)
   have HR3 := hid (HR.out.below hb3)
   have HW3 := hid (HW1.out.trans (hb3.mono HW1.out.size))
   have HWW := hid (HW.out.trans (hb3.mono HW.out.size))
   clear k0 k1 k2 k3 k4 k5 k6 k7 hb3 HV HR HW HW1
   by_cases hc : c = 0
   ·subst hc
    have HGD : Hid (goodJ R1.1 = true) := hid (checkJ_zero.1 HC.out).1
    have hil : i < l.length := by
     have h5 := (cp_len (so := false) (by rw [← HV1.out.1]; exact HGD.out : goodJ (J.mk k b n t l ns) = true)).2
     by_cases hk5 : k = 5
     ·rw [← (h5 hk5).1]; exact HIN.out
     exfalso
     have h6 := (good_head (by rw [← HV1.out.1]; exact HGD.out : goodJ (J.mk k b n t l ns) = true)).2.2.2.2.1.resolve_left hk5
     have := HIN.out
     rw [h6] at this; simp at this
    have hili : (i : Int) < (l.length : Int) := by omega
    obtain ⟨gl, fl, rfl, x, hx, hJx, hra⟩ := HPIC.out i hil
    have HX := hid hx
    have HJX := hid hJx
    have hra0 := hra _ HWW.out
    have HGX : Hid (goodJ x = true) := hid ((goodL_iff l).1 (good_head (by rw [← HV1.out.1]; exact HGD.out : goodJ (J.mk k b n t l ns) = true)).2.2.2.2.2.2.2.1 x (List.mem_of_getElem? hx))
    have HZX : Hid (szJ x ≤ 100000000) := hid (by have := szL_in hx; have := HSL.out; omega)
    have HA : Hid (QA = (x, true)) := hid (by rw [← HQ.out, getV, if_pos HC.out, HGI.out, HX.out])
    have k6 : _ = some (Value.slice (some ⟨gl, fl, none⟩) l.length c1) := (HCC.out _ _ HV3.out).cell 6 _ rfl
    clear hx hJx hra
    go_wp2_with (refine wpList_loadMd rfl _ rfl (x, xs i) hra0 rfl ?_)
    refine (copied_calls HJX.out false w3 HWW.out HGX.out HZX.out).mono ?_
    rintro e w4 ⟨lv, nv, rfl, hJc, hb4⟩
    have HR4 := hid (HR3.out.below hb4)
    have HW4 := hid (HW3.out.trans (hb4.mono HW3.out.size))
    have HJC := hid hJc
    have HS4 := hid hJc.slJ
    have HLO : Hid (g2 < w3.heap.size) := hid HR3.out.lt
    clear k6 hra0 hJc hb4 HV3 HR3
    go_wp2_with (first | with_reducible refine stop_ret ?_ | (refine wpList_storeJ rfl _ _ rfl rfl HR4.out rfl (cpJ false x, lv, nv) HS4.out rfl rfl ?_; intro wS hSx))
    refine hid ?_
    refine bodyPost_retJt (cpJ false x, lv, nv) rfl rfl rfl rfl hSx.row ?_
    rw [HA.out]
    exact ⟨lv, nv, rfl, (HJC.out.apart hSx.apart (fun k hk _ e => by have := HLO.out; omega)).mono (fun k _ hk => Nat.le_trans HW3.out.size hk), hSx.below HW4.out (by have := HG.out; omega) HW4.out.size⟩
   have n0 : ((c : Int) == 0) = false := by rw [beq_eq_false_iff_ne]; exact hc
   have n1 : ((c : Int) != 0) = true := by rw [bne_iff_ne]; exact hc
   have HA : Hid (QA = (J.zero, false)) := hid (by rw [← HQ.out, getV, if_neg (by rw [HC.out]; exact hc)])
   go_wp2_with (first | with_reducible refine stop_ret ?_ | (refine wpList_storeJ rfl _ _ rfl rfl HR3.out rfl jzero slJ_zero rfl rfl ?_; intro wS hSx))
   refine hid ?_
   refine bodyPost_retJt jzero rfl rfl rfl rfl hSx.row ?_
   exact GepTo.no HA.out HW3.out hSx (by have := HG.out; omega)
  rw [if_neg hm]
  have HA : Hid (QA = (J.zero, false)) := hid (by
   rw [← HQ.out, getV]
   split
   ·rw [show getJ R1.1 u = none by rw [HV1.out.1, getJ]; exact if_neg hm]
   rfl)
  go_wp2_with (first | with_reducible refine stop_ret ?_ | (refine wpList_storeJ rfl _ _ rfl rfl HR.out rfl jzero slJ_zero rfl rfl ?_; intro wS hSx))
  refine hid ?_
  refine bodyPost_retJt jzero rfl rfl rfl rfl hSx.row ?_
  exact GepTo.no HA.out HW1.out hSx (by have := HG.out; omega)
end Go.Proofs.YtfclfaidmipjpaaGreatDoor
