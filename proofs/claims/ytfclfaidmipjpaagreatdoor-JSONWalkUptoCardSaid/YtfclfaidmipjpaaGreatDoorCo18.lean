/- Texts of this claim, joined: Tgm, Tlk. -/
import Derived.Test.YtfclfaidmipjpaaGreatDoorCo17
namespace Go.Proofs.YtfclfaidmipjpaaGreatDoor
set_option maxRecDepth 100000
set_option maxHeartbeats 20000000
open Go.Lib (hid)
open Go.RowKit
structure TrieAt (w : World) (lo gr : Nat) (a b : List UInt8) (gt gA gu gB gC : Nat) : Prop where
 g : GRAt w gr gt
 t : RowAt w gt [.pointer none, .pointer none, .pointer (some ⟨gA, 0, none⟩)]
 nA : RowAt w gA (nodeR [] 0 [] none (.slice (some ⟨gu, 0, none⟩) 3 3))
 u : RowAt w gu [.pointer (some ⟨gB, 0, none⟩), .pointer (some ⟨gC, 0, none⟩), .pointer none]
 nB : RowAt w gB (nodeR a 4 [] none (.slice none 0 0))
 nC : RowAt w gC (nodeR b 2 [] none (.slice none 0 0))
 lo : lo ≤ gr ∧ lo ≤ gt ∧ lo ≤ gA ∧ lo ≤ gu ∧ lo ≤ gB ∧ lo ≤ gC
 ne : gr ≠ gA ∧ gr ≠ gB ∧ gr ≠ gC
theorem TrieAt.apart {S : Nat → Prop} {w w' : World} {lo gr : Nat} {a b : List UInt8} {gt gA gu gB gC : Nat} (h : TrieAt w lo gr a b gt gA gu gB gC) (ha : Apart S w w') (hS : ∀ k, lo ≤ k → ¬ S k) : TrieAt w' lo gr a b gt gA gu gB gC :=
 ⟨h.g.apart ha (hS _ h.lo.1), h.t.apart ha (hS _ h.lo.2.1), h.nA.apart ha (hS _ h.lo.2.2.1), h.u.apart ha (hS _ h.lo.2.2.2.1), h.nB.apart ha (hS _ h.lo.2.2.2.2.1), h.nC.apart ha (hS _ h.lo.2.2.2.2.2), h.lo, h.ne⟩
theorem TrieAt.below {w w' : World} {lo gr : Nat} {a b : List UInt8} {gt gA gu gB gC : Nat} (h : TrieAt w lo gr a b gt gA gu gB gC) (hb : Below w.heap.size w w') : TrieAt w' lo gr a b gt gA gu gB gC := h.apart (S := fun _ => False) (.ofBelow hb) (fun _ _ h => h)
def keysL (a b : List UInt8) : List (List UInt8) := [[126, 48], a, [126, 49], b]
theorem mgr_calls (w : World) {S : Nat → Prop} {v : Value} (a b : List UInt8) (hN : NamS w S v (keysL a b)) :
  Calls Tryz.prog 169 #[v] w fun e w' => ∃ gr gt gA gu gB gC, e = .returned (.pointer (some ⟨gr, 0, none⟩)) ∧ TrieAt w' w.heap.size gr a b gt gA gu gB gC ∧ Below w.heap.size w w' := by
 have HN := hid hN
 obtain ⟨p0, cap0, rfl, _, _, hcell⟩ := hN
 obtain ⟨gn, fn, rfl, _, hgn, hcs⟩ := hcell (by simp [keysL])
 have HCS := hid hcs
 have HGN := hid hgn
 clear hcell hcs hgn
 have gx0 : ∀ h, (⟨#[126, 48]⟩ : ByteArray)[0]'h = 126 := fun _ => rfl
 have gx1 : ∀ h, (⟨#[126, 48]⟩ : ByteArray)[1]'h = 48 := fun _ => rfl
 have gy0 : ∀ h, (⟨#[126, 49]⟩ : ByteArray)[0]'h = 126 := fun _ => rfl
 have gy1 : ∀ h, (⟨#[126, 49]⟩ : ByteArray)[1]'h = 49 := fun _ => rfl
 have g126 : (126 : UInt8).toNat = 126 := rfl
 have g48 : (48 : UInt8).toNat = 48 := rfl
 have g49 : (49 : UInt8).toNat = 49 := rfl
 go_enter Tryz.func169, Tryz.ntmps169
 go_upto_region 2 with (refine wpList_allocG rfl rfl ?_; intro w1 hr1 hb1 hz1)
 obtain ⟨gr, hgr⟩ : ∃ g, w.heap.size = g := ⟨_, rfl⟩
 rw [hgr] at hr1 ⊢
 have HR := hid hr1
 have HB := hid hb1
 have HG := hid hgr
 clear hr1 hb1 hz1 hgr
 have HK : Hid (∀ W, Below w.heap.size w W → ∀ i s, (keysL a b)[i]? = some s → W.cell? ⟨gn, fn + i, none⟩ = some (.string ⟨s.toArray⟩)) := hid (fun W hW i s hi => (hW.cell (p := ⟨gn, fn + i, none⟩) HGN.out).trans (HCS.out i s hi))
 have hkl : (keysL a b).length = 4 := rfl
 rw [hkl]
 clear hkl
 go_wp2_with fail
 refine wp_loop_rounds 3 ?_
 rw [rounds_succ]
 have kc : w1.cell? ⟨gn, fn, none⟩ = some (Value.string ⟨#[126, 48]⟩) := HK.out w1 HB.out 0 [126, 48] rfl
 go_wp2_with fail
 refine wp_loop_rounds 3 ?_
 rw [rounds_succ]
 go_wp2_with fail
 have HRD := hid (HR.out.below (Below.refl w1.heap.size w1).drew)
 have HBD := hid (HB.out.trans ((Below.refl w.heap.size w1).drew))
 refine wp_region_held_drew (S := (fun _ : World => True)) (by kernel_rfl) trivial (fun hHeld0 => ?_)
 generalize w1.drew = wd at *
 have k0 : _ = some (Value.int .u8 ((m0).getD 126 0)) := HRD.out.cell 132 _ (by rfl)
 have fz0 := HRD.out.free 132
 refine held_ta 0 hHeld0 ?_
 refine held_ta 1 hHeld0 ?_
 refine held_ta 2 hHeld0 ?_
 refine held_ta 3 hHeld0 ?_
 refine held_ta 4 hHeld0 ?_
 refine held_ta 5 hHeld0 ?_
 refine held_ta 6 hHeld0 ?_
 refine held_st 7 rfl (fun K hK => ?_)
 go_simp
 clear k0 fz0
 refine hK.out _ _ trivial (fun hHeld1 => ?_)
 clear hK K hHeld0
 refine wpAnyH_done (by kernel_rfl) ?_ _
 clear hHeld1
 have hrs := HRD.out.set 132 (.int .u8 1) (by rw [rowG_len]; simp [m0])
 rw [show 132 = 6 + 126 from rfl, rowG_set] at hrs
 have HRn := hid hrs
 have HBn := hid (HBD.out.setCell (p := ⟨gr, 132, none⟩) (by show w.heap.size ≤ gr; have := HG.out; omega) (.int .u8 1))
 clear hrs HR HB HRD HBD kc
 generalize (wd.setCell ⟨gr, 132, none⟩ (.int .u8 1)) = wx0 at *
 have HR := HRn
 have HB := HBn
 clear HRn HBn
 go_wp2_with fail
 rw [rounds_succ]
 go_wp2_with fail
 have HRD := hid (HR.out.below (Below.refl wx0.heap.size wx0).drew)
 have HBD := hid (HB.out.trans ((Below.refl w.heap.size wx0).drew))
 refine wp_region_held_drew (S := (fun _ : World => True)) (by kernel_rfl) trivial (fun hHeld0 => ?_)
 generalize wx0.drew = wd at *
 have k0 : _ = some (Value.int .u8 (((m0).set 126 1).getD 48 0)) := HRD.out.cell 54 _ (by rfl)
 have fz0 := HRD.out.free 54
 refine held_ta 0 hHeld0 ?_
 refine held_ta 1 hHeld0 ?_
 refine held_ta 2 hHeld0 ?_
 refine held_ta 3 hHeld0 ?_
 refine held_ta 4 hHeld0 ?_
 refine held_ta 5 hHeld0 ?_
 refine held_ta 6 hHeld0 ?_
 refine held_st 7 rfl (fun K hK => ?_)
 go_simp
 clear k0 fz0
 refine hK.out _ _ trivial (fun hHeld1 => ?_)
 clear hK K hHeld0
 refine wpAnyH_done (by kernel_rfl) ?_ _
 clear hHeld1
 have hrs := HRD.out.set 54 (.int .u8 1) (by rw [rowG_len]; simp [m0])
 rw [show 54 = 6 + 48 from rfl, rowG_set] at hrs
 have HRn := hid hrs
 have HBn := hid (HBD.out.setCell (p := ⟨gr, 54, none⟩) (by show w.heap.size ≤ gr; have := HG.out; omega) (.int .u8 1))
 clear hrs HR HB HRD HBD
 generalize (wd.setCell ⟨gr, 54, none⟩ (.int .u8 1)) = wx1 at *
 have HR := HRn
 have HB := HBn
 clear HRn HBn
 go_wp2_with fail
 rw [rounds_succ]
 go_wp2_with fail
 rw [rounds_succ]
 have kc : wx1.cell? ⟨gn, fn + 2, none⟩ = some (Value.string ⟨#[126, 49]⟩) := HK.out wx1 HB.out 2 [126, 49] rfl
 go_wp2_with fail
 refine wp_loop_rounds 3 ?_
 rw [rounds_succ]
 go_wp2_with fail
 have HRD := hid (HR.out.below (Below.refl wx1.heap.size wx1).drew)
 have HBD := hid (HB.out.trans ((Below.refl w.heap.size wx1).drew))
 refine wp_region_held_drew (S := (fun _ : World => True)) (by kernel_rfl) trivial (fun hHeld0 => ?_)
 generalize wx1.drew = wd at *
 have k0 : _ = some (Value.int .u8 ((((m0).set 126 1).set 48 1).getD 126 0)) := HRD.out.cell 132 _ (by rfl)
 have fz0 := HRD.out.free 132
 refine held_ta 0 hHeld0 ?_
 refine held_ta 1 hHeld0 ?_
 refine held_ta 2 hHeld0 ?_
 refine held_ta 3 hHeld0 ?_
 refine held_ta 4 hHeld0 ?_
 refine held_ta 5 hHeld0 ?_
 refine held_ta 6 hHeld0 ?_
 refine held_st 7 rfl (fun K hK => ?_)
 go_simp
 clear k0 fz0
 refine hK.out _ _ trivial (fun hHeld1 => ?_)
 clear hK K hHeld0
 refine wpAnyH_done (by kernel_rfl) ?_ _
 clear hHeld1
 have hrs := HRD.out.set 132 (.int .u8 1) (by rw [rowG_len]; simp [m0])
 rw [show 132 = 6 + 126 from rfl, rowG_set] at hrs
 have HRn := hid hrs
 have HBn := hid (HBD.out.setCell (p := ⟨gr, 132, none⟩) (by show w.heap.size ≤ gr; have := HG.out; omega) (.int .u8 1))
 clear hrs HR HB HRD HBD kc
 generalize (wd.setCell ⟨gr, 132, none⟩ (.int .u8 1)) = wx2 at *
 have HR := HRn
 have HB := HBn
 clear HRn HBn
 go_wp2_with fail
 rw [rounds_succ]
 go_wp2_with fail
 have HRD := hid (HR.out.below (Below.refl wx2.heap.size wx2).drew)
 have HBD := hid (HB.out.trans ((Below.refl w.heap.size wx2).drew))
 refine wp_region_held_drew (S := (fun _ : World => True)) (by kernel_rfl) trivial (fun hHeld0 => ?_)
 generalize wx2.drew = wd at *
 have k0 : _ = some (Value.int .u8 (((((m0).set 126 1).set 48 1).set 126 1).getD 49 0)) := HRD.out.cell 55 _ (by rfl)
 have fz0 := HRD.out.free 55
 refine held_ta 0 hHeld0 ?_
 refine held_ta 1 hHeld0 ?_
 refine held_ta 2 hHeld0 ?_
 refine held_ta 3 hHeld0 ?_
 refine held_ta 4 hHeld0 ?_
 refine held_ta 5 hHeld0 ?_
 refine held_ta 6 hHeld0 ?_
 refine held_st 7 rfl (fun K hK => ?_)
 go_simp
 clear k0 fz0
 refine hK.out _ _ trivial (fun hHeld1 => ?_)
 clear hK K hHeld0
 refine wpAnyH_done (by kernel_rfl) ?_ _
 clear hHeld1
 have hrs := HRD.out.set 55 (.int .u8 1) (by rw [rowG_len]; simp [m0])
 rw [show 55 = 6 + 49 from rfl, rowG_set] at hrs
 have HRn := hid hrs
 have HBn := hid (HBD.out.setCell (p := ⟨gr, 55, none⟩) (by show w.heap.size ≤ gr; have := HG.out; omega) (.int .u8 1))
 clear hrs HR HB HRD HBD
 generalize (wd.setCell ⟨gr, 55, none⟩ (.int .u8 1)) = wx3 at *
 have HR := HRn
 have HB := HBn
 clear HRn HBn
 go_wp2_with fail
 rw [rounds_succ]
 go_wp2_with fail
 have HR4 : Hid (RowAt wx3 gr (rowG (.slice none 0 0) 0 m4)) := hid (by have h9 := HR.out; rw [m4_eq] at h9; exact h9)
 clear HR
 rw [rounds_succ]
 go_wp2_with (refine wpList_load256 rfl _ rfl HR4.out m4_len rfl ?_)
 go_loopg [41] 256 (fun kk s41 wr => ∃ i : Nat, kk = 256 - i ∧ i ≤ 256 ∧ s41 = .int .i64 (i : Int) ∧ RowAt wr gr (rowG (.slice none 0 0) (cntM i) m4) ∧ Below w.heap.size w wr)
 case atStart => exact ⟨0, rfl, by omega, rfl, HR4.out, HB.out⟩
 case round =>
  obtain ⟨i, hki, hi, rfl, hr, hb⟩ := hrel
  have Hki := hid hki
  have HR := hid hr
  have HBr := hid hb
  clear hki hr hb HR4 HB
  by_cases hlt : i < 256
  ·
   have hlti : (i : Int) < 256 := by omega
   have hidx := idx256 m4 m4_len i hlt
   have h4 := m4_at i hlt
   obtain ⟨x, hx⟩ : ∃ x, m4.getD i 0 = x := ⟨_, rfl⟩
   obtain ⟨c, hc⟩ : ∃ c, cntM i = c := ⟨_, rfl⟩
   obtain ⟨f, hf⟩ : ∃ f, mF.getD i 0 = f := ⟨_, rfl⟩
   rw [hx, hc, hf] at h4
   rw [hx] at hidx
   rw [hc] at HR
   have H4 := hid h4
   have hxb : 0 ≤ x ∧ x ≤ 1 := by omega
   have hcb : 0 ≤ c ∧ c ≤ 3 := by omega
   have hw1 : IntKind.i64.wrap x = x := by rw [IntKind.wrap_i64]; omega
   have hw2 : IntKind.i64.wrap (c + x) = c + x := by rw [IntKind.wrap_i64]; omega
   clear h4 hx hc hf hxb hcb
   have k5 : _ = some (Value.int .i64 c) := HR.out.cell 5 _ rfl
   have f5 := HR.out.free 5
   go_wp2_with fail
   go_roundg (256 - (i + 1))
   case measure => have := Hki.out; omega
   exact ⟨i + 1, rfl, by omega, by go_num, by rw [H4.out.2.2.2]; exact HR.out.set 5 (.int .i64 (c + x)) (by simp [rowG]), HBr.out.setCell (p := ⟨gr, 5, none⟩) (by show w.heap.size ≤ gr; have := HG.out; omega) _⟩
  have hlti : ¬ (i : Int) < 256 := by omega
  obtain rfl : i = 256 := by omega
  have hc3 : cntM 256 = 3 := by unfold cntM; rw [List.take_of_length_le (by rw [m4_len]; omega)]; exact m4_sum
  rw [hc3] at HR
  clear hc3
  go_wp2_with (refine wpList_load256 rfl _ rfl HR.out m4_len rfl ?_)
  go_loopg [9, 58] 256 (fun kk s9 s58 wr => ∃ i : Nat, kk = 256 - i ∧ i ≤ 256 ∧ s9 = .int .u8 (cntM i) ∧ s58 = .int .i64 (i : Int) ∧ RowAt wr gr (rowG (.slice none 0 0) 3 (mixM i)) ∧ Below w.heap.size w wr)
  case atStart => exact ⟨0, rfl, by omega, rfl, rfl, by rw [mix_zero]; exact HR.out, HBr.out⟩
  obtain ⟨i, hki, hi, rfl, rfl, hr, hb⟩ := hrel
  have Hki := hid hki
  have HRr := hid hr
  have HBs := hid hb
  clear hki hr hb HR HBr hlti
  by_cases hlt : i < 256
  ·
   have hlti : (i : Int) < 256 := by omega
   have hidx := idx256 m4 m4_len i hlt
   have h4 := m4_at i hlt
   have HMS := hid (mix_set i hlt)
   obtain ⟨x, hx⟩ : ∃ x, m4.getD i 0 = x := ⟨_, rfl⟩
   obtain ⟨c, hc⟩ : ∃ c, cntM i = c := ⟨_, rfl⟩
   obtain ⟨f, hf⟩ : ∃ f, mF.getD i 0 = f := ⟨_, rfl⟩
   rw [hx, hc, hf] at h4
   rw [hx] at hidx
   rw [hc]
   rw [hf] at HMS
   have H4 := hid h4
   have hcb : 0 ≤ c ∧ c ≤ 3 := by omega
   have hw3 : IntKind.u8.wrap (c + 1) = c + 1 := by rw [IntKind.wrap_u8]; omega
   have HXC := hid h4.1
   clear h4 hx hc hf
   obtain ⟨y, hy⟩ : ∃ y, (mixM i)[i]? = some y := ⟨_, List.getElem?_eq_getElem (by rw [mix_len]; exact hlt)⟩
   have HY := hid (rowG_at (.slice none 0 0) 3 (mixM i) i y hy)
   clear hy
   rcases HXC.out with ⟨rfl, rfl⟩ | ⟨rfl, rfl⟩
   ·
    go_upto_region 20 with fail
    have HRD := hid (HRr.out.below (Below.refl wr.heap.size wr).drew)
    have HBD := hid (HBs.out.trans ((Below.refl w.heap.size wr).drew))
    have hS0 : (fun wq => wq.cell? ⟨gr, 5, none⟩ = some (Value.int .i64 3)) wr.drew := HRD.out.cell 5 _ rfl
    have hw8 : IntKind.u8.wrap 3 = 3 := rfl
    refine wp_region_held_drew (S := (fun wq => wq.cell? ⟨gr, 5, none⟩ = some (Value.int .i64 3))) (by kernel_rfl) hS0 (fun hHeld0 => ?_)
    generalize wr.drew = wd at *
    have k0 : _ = some (Value.int .u8 y) := HRD.out.cell (6 + i) _ HY.out
    have fz0 := HRD.out.free (6 + i)
    refine held_ta 0 hHeld0 ?_
    refine held_ta 1 hHeld0 ?_
    refine held_ta 2 hHeld0 ?_
    refine held_ta 3 hHeld0 ?_
    refine held_ta 4 hHeld0 ?_
    refine held_ta 5 hHeld0 ?_
    refine held_ta 6 hHeld0 ?_
    refine held_ta 7 hHeld0 ?_
    refine held_ta 8 hHeld0 ?_
    refine held_ta 9 hHeld0 ?_
    refine held_st 10 rfl (fun K hK => ?_)
    go_simp
    clear k0 fz0
    refine hK.out _ _ ((World.cell?_setCell_other _ _ _ _ (fun e => by injection e with _ e2; omega)).trans (HRD.out.cell 5 _ rfl)) (fun hHeld1 => ?_)
    clear hK K hHeld0
    refine wpAnyH_done (by kernel_rfl) ?_ _
    clear hHeld1
    go_wp2_with fail
    go_roundg (256 - (i + 1))
    case measure => have := Hki.out; omega
    exact ⟨i + 1, rfl, by omega, by rw [H4.out.2.2.2, Int.add_zero], by go_num, by have h9 := HRD.out.set (6 + i) (.int .u8 3) (by rw [rowG_len, mix_len]; omega); rw [rowG_set, HMS.out] at h9; exact h9, HBD.out.setCell (p := ⟨gr, 6 + i, none⟩) (by show w.heap.size ≤ gr; have := HG.out; omega) _⟩
   have k0 : _ = some (Value.int .u8 y) := HRr.out.cell (6 + i) _ HY.out
   have fz0 := HRr.out.free (6 + i)
   go_wp2_with fail
   go_roundg (256 - (i + 1))
   case measure => have := Hki.out; omega
   exact ⟨i + 1, rfl, by omega, by rw [H4.out.2.2.2], by go_num, by have h9 := HRr.out.set (6 + i) (.int .u8 f) (by rw [rowG_len, mix_len]; omega); rw [rowG_set, HMS.out] at h9; exact h9, HBs.out.setCell (p := ⟨gr, 6 + i, none⟩) (by show w.heap.size ≤ gr; have := HG.out; omega) _⟩
  have hlti : ¬ (i : Int) < 256 := by omega
  obtain rfl : i = 256 := by omega
  rw [mix_end] at HRr
  have k5 : _ = some (Value.int .i64 3) := HRr.out.cell 5 _ rfl
  have k4 : _ = some (Value.slice none 0 0) := HRr.out.cell 4 _ rfl
  have f4 := HRr.out.free 4
  have hmk := mk3
  have hlg := HRr.out.lt
  go_wp2_with fail
  obtain ⟨gt, hgt⟩ : ∃ x, wr.heap.size = x := ⟨_, rfl⟩
  have hz : (wr.setCell ⟨gr, 4, none⟩ (.slice (some ⟨gt, 0, none⟩) 3 3)).heap.size = gt := by simp [hgt]
  have hr := (HRr.out.set 4 (.slice (some ⟨gt, 0, none⟩) 3 3) (by simp [rowG])).alloc (.cells #[.pointer none, .pointer none, .pointer none] 245)
  have hn := RowAt.new (wr.setCell ⟨gr, 4, none⟩ (.slice (some ⟨gt, 0, none⟩) 3 3)) #[.pointer none, .pointer none, .pointer none] 245
  have hb2 : Below w.heap.size w ((wr.setCell ⟨gr, 4, none⟩ (.slice (some ⟨gt, 0, none⟩) 3 3)).alloc (.cells #[.pointer none, .pointer none, .pointer none] 245)) := ((HBs.out.setCell (p := ⟨gr, 4, none⟩) (by show w.heap.size ≤ gr; have := HG.out; omega) _).alloc (by rw [hz, ← hgt]; exact HBs.out.size) _)
  rw [hz] at hn
  rw [hgt] at hlg ⊢
  have hr2 : RowAt ((wr.setCell ⟨gr, 4, none⟩ (.slice (some ⟨gt, 0, none⟩) 3 3)).alloc (.cells #[.pointer none, .pointer none, .pointer none] 245)) gr (rowG (.slice (some ⟨gt, 0, none⟩) 3 3) 3 mF) := hr
  have HG0 : Hid (GRAt ((wr.setCell ⟨gr, 4, none⟩ (.slice (some ⟨gt, 0, none⟩) 3 3)).alloc (.cells #[.pointer none, .pointer none, .pointer none] 245)) gr gt) := hid ⟨hr2.cell 1 _ rfl, hr2.cell 2 _ rfl, hr2.cell 4 _ rfl, hr2.cell 5 _ rfl, fun c => hr2.cell (6 + c.toNat) _ (rowG_at _ _ _ _ _ (by
   unfold mF
   rw [List.getElem?_map, List.getElem?_range c.toNat_lt, Option.map_some, UInt8.ofNat_toNat])), hr2.lt⟩
  have HT0 := hid hn
  have HB0 := hid hb2
  have HNE : Hid (gr < gt ∧ w.heap.size ≤ gr ∧ gt < ((wr.setCell ⟨gr, 4, none⟩ (.slice (some ⟨gt, 0, none⟩) 3 3)).alloc (.cells #[.pointer none, .pointer none, .pointer none] 245)).heap.size) := hid ⟨hlg, by have := HG.out; omega, hn.lt⟩
  clear hr hr2 hn hb2 hz hgt hlg k5 k4 f4 hmk HRr HBs
  generalize ((wr.setCell ⟨gr, 4, none⟩ (.slice (some ⟨gt, 0, none⟩) 3 3)).alloc (.cells #[.pointer none, .pointer none, .pointer none] 245)) = v0 at *
  have hw1 : IntKind.i64.wrap 1 = 1 := rfl
  have hw2 : IntKind.i64.wrap 2 = 2 := rfl
  have hw3 : IntKind.i64.wrap 3 = 3 := rfl
  have hw4 : IntKind.i64.wrap 4 = 4 := rfl
  refine wp_loop_rounds 3 ?_
  rw [rounds_succ]
  go_wp2_with fail
  have mkS : ∀ wq, Below w.heap.size w wq → (fun wq => wq.cell? ⟨gn, fn, none⟩ = some (Value.string ⟨#[126, 48]⟩) ∧ wq.cell? ⟨gn, fn + 1, none⟩ = some (Value.string ⟨a.toArray⟩)) wq := fun wq hw => ⟨HK.out wq hw 0 [126, 48] rfl, HK.out wq hw 1 a rfl⟩
  have HMK := hid mkS
  have HQ : Hid (Below v0.heap.size v0 v0.drew) := hid (Below.refl _ _).drew
  have HBD := hid (HB0.out.trans (HQ.out.mono HB0.out.size))
  have HGD := hid (HG0.out.below HQ.out)
  have HTD := hid (HT0.out.below HQ.out)
  have HZD : Hid (v0.drew.heap.size = v0.heap.size) := hid rfl
  have hS0 := mkS v0.drew HBD.out
  clear mkS
  refine wp_region_held_drew (S := (fun wq => wq.cell? ⟨gn, fn, none⟩ = some (Value.string ⟨#[126, 48]⟩) ∧ wq.cell? ⟨gn, fn + 1, none⟩ = some (Value.string ⟨a.toArray⟩))) (by kernel_rfl) hS0 (fun hHeld0 => ?_)
  generalize v0.drew = wd at *
  refine held_ta 0 hHeld0 ?_
  refine held_ta 1 hHeld0 ?_
  refine held_ta 2 hHeld0 ?_
  refine held_ta 3 hHeld0 ?_
  refine held_ta 4 hHeld0 ?_
  refine held_ta 5 hHeld0 ?_
  refine held_ta 6 hHeld0 ?_
  refine held_ta 7 hHeld0 ?_
  refine held_ta 8 hHeld0 ?_
  refine held_ta 9 hHeld0 ?_
  refine held_ta 10 hHeld0 ?_
  refine held_ta 11 hHeld0 ?_
  refine held_ta 12 hHeld0 ?_
  refine held_ta 13 hHeld0 ?_
  refine held_ta 14 hHeld0 ?_
  refine held_ta 15 hHeld0 ?_
  refine held_ta 16 hHeld0 ?_
  refine held_st 17 rfl (fun K hK => ?_)
  go_simp
  refine (trie_root1 gr gt a wd HGD.out HTD.out (by have := HNE.out; omega)).mono ?_
  rintro ez v1 ⟨rfl, gA, gB, ht1, hx1, hy1, ha1, hga, hgb⟩
  have HT1 := hid ht1
  have HX1 := hid hx1
  have HY1 := hid hy1
  have HG1 := hid (HGD.out.apart ha1 (by have := HNE.out; omega))
  have HB1 := hid (HBD.out.trans (ha1.below HBD.out.size (fun k hk e => by have := HNE.out; omega)))
  have HL1 : Hid (gt < gA ∧ gt < gB) := hid (by have := HNE.out; have := HZD.out; omega)
  clear ht1 hx1 hy1 ha1 hga hgb
  refine hK.out _ _ (HMK.out _ HB1.out) (fun hHeld1 => ?_)
  clear hK K hHeld0
  refine wpAnyH_done (by kernel_rfl) ?_ _
  clear hHeld1
  clear hS0 HMK HQ HBD HGD HTD HZD
  have HAB : Hid (gA ≠ gB) := hid (fun e => by have h1 := HX1.out.cell 1 _ rfl; have h2 := HY1.out.cell 1 _ rfl; rw [e, h2] at h1; simp at h1)
  go_wp2_with fail
  rw [rounds_succ]
  go_wp2_with fail
  have mkS : ∀ wq, Below w.heap.size w wq → (fun wq => wq.cell? ⟨gn, fn + 2, none⟩ = some (Value.string ⟨#[126, 49]⟩) ∧ wq.cell? ⟨gn, fn + 3, none⟩ = some (Value.string ⟨b.toArray⟩)) wq := fun wq hw => ⟨HK.out wq hw 2 [126, 49] rfl, HK.out wq hw 3 b rfl⟩
  have HMK := hid mkS
  have HQ : Hid (Below v1.heap.size v1 v1.drew) := hid (Below.refl _ _).drew
  have HBD := hid (HB1.out.trans (HQ.out.mono HB1.out.size))
  have HGD := hid (HG1.out.below HQ.out)
  have HTD := hid (HT1.out.below HQ.out)
  have HXD := hid (HX1.out.below HQ.out)
  have HYD := hid (HY1.out.below HQ.out)
  have HZD : Hid (v1.drew.heap.size = v1.heap.size) := hid rfl
  have hS0 := mkS v1.drew HBD.out
  clear mkS
  refine wp_region_held_drew (S := (fun wq => wq.cell? ⟨gn, fn + 2, none⟩ = some (Value.string ⟨#[126, 49]⟩) ∧ wq.cell? ⟨gn, fn + 3, none⟩ = some (Value.string ⟨b.toArray⟩))) (by kernel_rfl) hS0 (fun hHeld0 => ?_)
  generalize v1.drew = wd at *
  refine held_ta 0 hHeld0 ?_
  refine held_ta 1 hHeld0 ?_
  refine held_ta 2 hHeld0 ?_
  refine held_ta 3 hHeld0 ?_
  refine held_ta 4 hHeld0 ?_
  refine held_ta 5 hHeld0 ?_
  refine held_ta 6 hHeld0 ?_
  refine held_ta 7 hHeld0 ?_
  refine held_ta 8 hHeld0 ?_
  refine held_ta 9 hHeld0 ?_
  refine held_ta 10 hHeld0 ?_
  refine held_ta 11 hHeld0 ?_
  refine held_ta 12 hHeld0 ?_
  refine held_ta 13 hHeld0 ?_
  refine held_ta 14 hHeld0 ?_
  refine held_ta 15 hHeld0 ?_
  refine held_ta 16 hHeld0 ?_
  refine held_st 17 rfl (fun K hK => ?_)
  go_simp
  have hnl := HNE.out
  have hnl1 := HL1.out
  refine (trie_root2 gr gt b wd HGD.out gA gB HTD.out HXD.out (by omega) (by omega)).mono ?_
  rintro ez v2 ⟨rfl, gu, gC, hx2, hu2, hc2, ha2, hgu, hgc⟩
  have HT2 := hid (HTD.out.apart ha2 (by omega))
  have HX2 := hid hx2
  have HU2 := hid hu2
  have HC2 := hid hc2
  have HG2 := hid (HGD.out.apart ha2 (by omega))
  have HYA : Hid (gA ≠ gB) := HAB
  have HY2 := hid (HYD.out.apart ha2 (fun e => HYA.out e.symm))
  have HB2 := hid (HBD.out.trans (ha2.below HBD.out.size (fun k hk e => by omega)))
  have HL2 : Hid (gt < gu ∧ gt < gC) := hid (by have := HZD.out; have h9 := HTD.out.lt; omega)
  clear hx2 hu2 hc2 ha2 hgu hgc hnl hnl1
  refine hK.out _ _ (HMK.out _ HB2.out) (fun hHeld1 => ?_)
  clear hK K hHeld0
  refine wpAnyH_done (by kernel_rfl) ?_ _
  clear hHeld1
  clear hS0 HMK HQ HBD HGD HTD HZD HXD HYD
  go_wp2_with fail
  rw [rounds_succ]
  go_wp2_with fail
  go_ret
  have h1 := HNE.out
  have h2 := HL1.out
  have h3 := HL2.out
  exact ⟨gr, gt, gA, gu, gB, gC, rfl, ⟨HG2.out, HT2.out, HX2.out, HU2.out, HY2.out, HC2.out, by omega, by omega⟩, HB2.out⟩
open Go.RowKit
def lookS (a b s : List UInt8) : List UInt8 × Int × Bool := match s with
 | 126 :: 48 :: _ => (a, 2, true)
 | 126 :: 49 :: _ => (b, 2, true)
 | _ => ([], 0, false)
theorem lookS_one (a b : List UInt8) (c : UInt8) (t : List UInt8) (h : c ≠ 126) : lookS a b (c :: t) = ([], 0, false) := by
 unfold lookS
 split
 ·rename_i h1; injection h1 with h2; exact absurd h2 h
 ·rename_i h1; injection h1 with h2; exact absurd h2 h
 rfl
theorem lookS_two (a b : List UInt8) (c : UInt8) (t : List UInt8) (h : c ≠ 48) (h9 : c ≠ 49) : lookS a b (126 :: c :: t) = ([], 0, false) := by
 unfold lookS
 split
 ·rename_i h1; injection h1 with _ h2; injection h2 with h3; exact absurd h3 h
 ·rename_i h1; injection h1 with _ h2; injection h2 with h3; exact absurd h3 h9
 rfl
theorem mapV_cases (c : UInt8) : (c = 48 ∧ mapV c = 0) ∨ (c = 49 ∧ mapV c = 1) ∨ (c = 126 ∧ mapV c = 2) ∨ (c ≠ 48 ∧ c ≠ 49 ∧ c ≠ 126 ∧ mapV c = 3) := by
 unfold mapV
 by_cases h0 : c = 48
 ·exact .inl ⟨h0, by rw [if_pos h0]⟩
 by_cases h1 : c = 49
 ·exact .inr (.inl ⟨h1, by rw [if_neg h0, if_pos h1]⟩)
 by_cases h2 : c = 126
 ·exact .inr (.inr (.inl ⟨h2, by rw [if_neg h0, if_neg h1, if_pos h2]⟩))
 exact .inr (.inr (.inr ⟨h0, h1, h2, by rw [if_neg h0, if_neg h1, if_neg h2]⟩))
def LookTo (w : World) (q : List UInt8 × Int × Bool) (e : Ending) (w' : World) : Prop := e = .returned (.tuple #[.string ⟨q.1.toArray⟩, .int .i64 q.2.1, .bool q.2.2]) ∧ Below w.heap.size w w'
theorem look_calls (w : World) {lo gr : Nat} {a b : List UInt8} {gt gA gu gB gC : Nat} (h : TrieAt w lo gr a b gt gA gu gB gC) (s : List UInt8) (hsl : s.length ≤ 1000000000) :
  Calls Tryz.prog 273 #[.pointer (some ⟨gr, 0, none⟩), .string ⟨s.toArray⟩, .bool false] w (LookTo w (lookS a b s)) := by
 have HT := hid h
 have HB : Hid (Below w.heap.size w w) := hid (Below.refl _ _)
 have HNE := hid h.ne
 clear h
 have hw0 : IntKind.i64.wrap 0 = 0 := rfl
 have hw1 : IntKind.i64.wrap 1 = 1 := rfl
 have hw2 : IntKind.i64.wrap 2 = 2 := rfl
 have hw3 : IntKind.i64.wrap 3 = 3 := rfl
 obtain ⟨ANS, hA⟩ : ∃ q, lookS a b s = q := ⟨_, rfl⟩
 have HA := hid hA
 rw [hA]
 clear hA
 go_enter Tryz.func273, Tryz.ntmps273
 have k1 := HT.out.g.pri
 have k4 := HT.out.g.tab
 have k5 := HT.out.g.size
 go_wp2_with fail
 refine wp_loop_rounds 4 ?_
 rw [rounds_succ]
 cases hs : s with
 | nil =>
  have HA0 : Hid (lookS a b s = ([], 0, false)) := hid (by rw [hs]; rfl)
  clear hs
  go_wp2_with fail
  first | go_ret | (refine bodyPost_ret (results_tmp3 rfl _ _ _) rfl ?_) | skip
  exact ⟨by rw [← HA.out, HA0.out]; try rfl, HB.out⟩
 | cons c sT =>
  rw [← hs]
  have sX := hid hs
  clear hs
  have hlts : 0 < s.length := by rw [sX.out]; simp
  have h9s : (0 : Int) < (s.length : Int) := by omega
  have h1s : (1 : Int) ≤ (s.length : Int) := by omega
  have hijs := byte_at s 0 hlts
  have hcs : s.getD 0 0 = c := by rw [sX.out]; rfl
  rw [hcs] at hijs
  have hues : s.isEmpty = false := by rw [sX.out]; rfl
  have hexts : (⟨s.toArray⟩ : ByteArray).extract 1 s.length = ⟨sT.toArray⟩ := by rw [Lib.extract_eq, List.take_of_length_le (by simp), List.drop_one, sX.out]; rfl
  clear hcs
  have hcl : c.toNat < 256 := c.toNat_lt
  have hcli : (c.toNat : Int) < 256 := by omega
  have km := HT.out.g.map c
  have HM := hid (mapV_cases c)
  obtain ⟨m, hm⟩ : ∃ m, mapV c = m := ⟨_, rfl⟩
  rw [hm] at km HM
  clear hm
  go_wp2_with fail
  go_quiet (fail)
  have HT := hid (HT.out.below (below_drewN (Below.refl _ _) nq))
  have HB := hid (HB.out.trans (below_drewN (Below.refl _ _) nq))
  generalize w.drewN nq = wq0 at *
  clear k1 k4 k5 km
  have k1 := HT.out.g.pri
  have k4 := HT.out.g.tab
  have k5 := HT.out.g.size
  rcases HM.out with ⟨hc, rfl⟩ | ⟨hc, rfl⟩ | ⟨hc, rfl⟩ | ⟨hc1, hc2, hc, rfl⟩
  ·
   have HA0 : Hid (lookS a b s = ([], 0, false)) := hid (by rw [sX.out]; exact lookS_one a b c sT (by rw [hc]; decide))
   clear hc
   have t0 : _ = some (Value.pointer none) := HT.out.t.cell 0 _ rfl
   go_wp2_with fail
   rw [rounds_succ]
   go_wp2_with fail
   first | go_ret | (refine bodyPost_ret (results_tmp3 rfl _ _ _) rfl ?_) | skip
   exact ⟨by rw [← HA.out, HA0.out]; try rfl, HB.out⟩
  ·
   have HA0 : Hid (lookS a b s = ([], 0, false)) := hid (by rw [sX.out]; exact lookS_one a b c sT (by rw [hc]; decide))
   clear hc
   have t0 : _ = some (Value.pointer none) := HT.out.t.cell 1 _ rfl
   go_wp2_with fail
   rw [rounds_succ]
   go_wp2_with fail
   first | go_ret | (refine bodyPost_ret (results_tmp3 rfl _ _ _) rfl ?_) | skip
   exact ⟨by rw [← HA.out, HA0.out]; try rfl, HB.out⟩
  ·
   subst hc
   have t0 : _ = some (Value.pointer (some ⟨gA, 0, none⟩)) := HT.out.t.cell 2 _ rfl
   have HLT : Hid (sT.length ≤ 1000000000) := hid (by have h9 := congrArg List.length sX.out; rw [List.length_cons] at h9; omega)
   go_wp2_with fail
   clear t0 k1 k4 k5 hijs hues hexts h9s h1s hlts
   have a1 : _ = some (Value.int .i64 0) := HT.out.nA.cell 1 _ rfl
   have a4 : _ = some (Value.slice (some ⟨gu, 0, none⟩) 3 3) := HT.out.nA.cell 4 _ rfl
   have k5 := HT.out.g.size
   have hne1 := HNE.out.1
   rw [rounds_succ]
   cases ht : sT with
   | nil =>
    have HA0 : Hid (lookS a b s = ([], 0, false)) := hid (by rw [sX.out, ht]; rfl)
    clear ht
    go_wp2_with fail
    first | go_ret | (refine bodyPost_ret (results_tmp3 rfl _ _ _) rfl ?_) | skip
    exact ⟨by rw [← HA.out, HA0.out]; try rfl, HB.out⟩
   | cons d dT =>
    rw [ht] at sX
    obtain ⟨u, hu⟩ : ∃ u, sT = u := ⟨_, rfl⟩
    rw [← ht, hu]
    have uX : Hid (u = d :: dT) := hid (by rw [← hu, ht])
    clear ht hu
    obtain ⟨uT, huT⟩ : ∃ x, dT = x := ⟨_, rfl⟩
    rw [huT] at uX sX
    clear huT
    have hltu : 0 < u.length := by rw [uX.out]; simp
    have h9u : (0 : Int) < (u.length : Int) := by omega
    have h1u : (1 : Int) ≤ (u.length : Int) := by omega
    have hiju := byte_at u 0 hltu
    have hcu : u.getD 0 0 = d := by rw [uX.out]; rfl
    rw [hcu] at hiju
    have hueu : u.isEmpty = false := by rw [uX.out]; rfl
    have hextu : (⟨u.toArray⟩ : ByteArray).extract 1 u.length = ⟨uT.toArray⟩ := by rw [Lib.extract_eq, List.take_of_length_le (by simp), List.drop_one, uX.out]; rfl
    clear hcu
    have hdl : d.toNat < 256 := d.toNat_lt
    have hdli : (d.toNat : Int) < 256 := by omega
    have km := HT.out.g.map d
    have HM := hid (mapV_cases d)
    obtain ⟨m, hm⟩ : ∃ m, mapV d = m := ⟨_, rfl⟩
    rw [hm] at km HM
    clear hm
    go_wp2_with fail
    go_quiet (fail)
    have HT := hid (HT.out.below (below_drewN (Below.refl _ _) nq))
    have HB := hid (HB.out.trans (below_drewN (Below.refl _ _) nq))
    generalize wq0.drewN nq = wq1 at *
    clear a1 a4 k5 km
    have a4 : _ = some (Value.slice (some ⟨gu, 0, none⟩) 3 3) := HT.out.nA.cell 4 _ rfl
    have k5 := HT.out.g.size
    rcases HM.out with ⟨hc, rfl⟩ | ⟨hc, rfl⟩ | ⟨hc, rfl⟩ | ⟨hc1, hc2, hc, rfl⟩
    ·
     subst hc
     have HA0 : Hid (lookS a b s = (a, 2, true)) := hid (by rw [sX.out]; rfl)
     have t0 : _ = some (Value.pointer (some ⟨gB, 0, none⟩)) := HT.out.u.cell 0 _ rfl
     go_wp2_with fail
     clear t0 a4 k5 hiju hueu hextu h9u h1u hltu hne1
     have b0 : _ = some (Value.string ⟨a.toArray⟩) := HT.out.nB.cell 0 _ rfl
     have b1 : _ = some (Value.int .i64 4) := HT.out.nB.cell 1 _ rfl
     have b2 : _ = some (Value.string ⟨#[]⟩) := HT.out.nB.cell 2 _ rfl
     have b4 : _ = some (Value.slice none 0 0) := HT.out.nB.cell 4 _ rfl
     have hne2 := HNE.out.2.1
     rw [rounds_succ]
     cases uT with
     | nil =>
      go_wp2_with fail
      first | go_ret | (refine bodyPost_ret (results_tmp3 rfl _ _ _) rfl ?_) | skip
      exact ⟨by rw [← HA.out, HA0.out]; try rfl, HB.out⟩
     | cons y z =>
      obtain ⟨x, hx⟩ : ∃ x, y :: z = x := ⟨_, rfl⟩
      have hxe : x.isEmpty = false := by rw [← hx]; rfl
      rw [hx]
      clear hx
      go_wp2_with fail
      first | go_ret | (refine bodyPost_ret (results_tmp3 rfl _ _ _) rfl ?_) | skip
      exact ⟨by rw [← HA.out, HA0.out]; try rfl, HB.out⟩
    ·
     subst hc
     have HA0 : Hid (lookS a b s = (b, 2, true)) := hid (by rw [sX.out]; rfl)
     have t0 : _ = some (Value.pointer (some ⟨gC, 0, none⟩)) := HT.out.u.cell 1 _ rfl
     go_wp2_with fail
     clear t0 a4 k5 hiju hueu hextu h9u h1u hltu hne1
     have b0 : _ = some (Value.string ⟨b.toArray⟩) := HT.out.nC.cell 0 _ rfl
     have b1 : _ = some (Value.int .i64 2) := HT.out.nC.cell 1 _ rfl
     have b2 : _ = some (Value.string ⟨#[]⟩) := HT.out.nC.cell 2 _ rfl
     have b4 : _ = some (Value.slice none 0 0) := HT.out.nC.cell 4 _ rfl
     have hne2 := HNE.out.2.2
     rw [rounds_succ]
     cases uT with
     | nil =>
      go_wp2_with fail
      first | go_ret | (refine bodyPost_ret (results_tmp3 rfl _ _ _) rfl ?_) | skip
      exact ⟨by rw [← HA.out, HA0.out]; try rfl, HB.out⟩
     | cons y z =>
      obtain ⟨x, hx⟩ : ∃ x, y :: z = x := ⟨_, rfl⟩
      have hxe : x.isEmpty = false := by rw [← hx]; rfl
      rw [hx]
      clear hx
      go_wp2_with fail
      first | go_ret | (refine bodyPost_ret (results_tmp3 rfl _ _ _) rfl ?_) | skip
      exact ⟨by rw [← HA.out, HA0.out]; try rfl, HB.out⟩
    ·
     have HA0 : Hid (lookS a b s = ([], 0, false)) := hid (by rw [sX.out]; exact lookS_two a b d uT (by rw [hc]; decide) (by rw [hc]; decide))
     clear hc
     have t0 : _ = some (Value.pointer none) := HT.out.u.cell 2 _ rfl
     go_wp2_with fail
     rw [rounds_succ]
     go_wp2_with fail
     first | go_ret | (refine bodyPost_ret (results_tmp3 rfl _ _ _) rfl ?_) | skip
     exact ⟨by rw [← HA.out, HA0.out]; try rfl, HB.out⟩
    have HA0 : Hid (lookS a b s = ([], 0, false)) := hid (by rw [sX.out]; exact lookS_two a b d uT hc1 hc2)
    clear hc1 hc2 hc
    go_wp2_with fail
    first | go_ret | (refine bodyPost_ret (results_tmp3 rfl _ _ _) rfl ?_) | skip
    exact ⟨by rw [← HA.out, HA0.out]; try rfl, HB.out⟩
  have HA0 : Hid (lookS a b s = ([], 0, false)) := hid (by rw [sX.out]; exact lookS_one a b c sT hc)
  clear hc1 hc2 hc
  go_wp2_with fail
  first | go_ret | (refine bodyPost_ret (results_tmp3 rfl _ _ _) rfl ?_) | skip
  exact ⟨by rw [← HA.out, HA0.out]; try rfl, HB.out⟩
end Go.Proofs.YtfclfaidmipjpaaGreatDoor
