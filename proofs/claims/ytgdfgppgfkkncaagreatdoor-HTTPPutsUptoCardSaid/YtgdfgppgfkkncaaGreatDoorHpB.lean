/- A request's bytes, or none, by the reference: Bytes. Printed by gen_hpb.py. -/
import Derived.Test.YtgdfgppgfkkncaaGreatDoorHpT
import Derived.Test.YtgdfgppgfkkncaaGreatDoorHpS
import Derived.Test.YtgdfgppgfkkncaaGreatDoorHr9
namespace Go.Proofs.YtgdfgppgfkkncaaGreatDoor
open Go.RowKit

set_option maxHeartbeats 4000000 in
set_option maxRecDepth 100000 in
theorem bytesR_calls (w : World) (x : Value) (r : Req) (hx : ReqS w x r) (hn : reqN r ≤ 90000000) : Calls Tryz.prog 32 #[x] w fun e w' => BytesOut r e w' ∧ Below w.heap.size w w' := by
  obtain ⟨hv, bv, rfl, hh, hb⟩ := hx
  obtain ⟨m, u, qy, hs, bd, cl⟩ := r
  simp only at hh hb ⊢
  obtain ⟨p1, c1, rfl, _⟩ := hh.form
  obtain ⟨b1, e1, rfl, _⟩ := hb.open
  have ha1 : Below w.heap.size w (w.alloc (Obj.cells #[Value.string { data := m.toArray }, Value.string { data := u.toArray }, Value.string { data := qy.toArray }, Value.slice p1 hs.length c1, Value.slice b1 bd.length e1, Value.bool cl] 40)) := (Below.refl _ _).alloc (Nat.le_refl _) _
  have HS : Hid (TolG (w.alloc (Obj.cells #[Value.string { data := m.toArray }, Value.string { data := u.toArray }, Value.string { data := qy.toArray }, Value.slice p1 hs.length c1, Value.slice b1 bd.length e1, Value.bool cl] 40)) w.heap.size m u qy cl _ _ hs bd) := ⟨RowAt.new w #[Value.string { data := m.toArray }, Value.string { data := u.toArray }, Value.string { data := qy.toArray }, Value.slice p1 hs.length c1, Value.slice b1 bd.length e1, Value.bool cl] 40, hh.below ha1, hb.below ha1⟩
  have HB := Lib.hid ha1
  have HLT : Hid (w.heap.size < (w.alloc (Obj.cells #[Value.string { data := m.toArray }, Value.string { data := u.toArray }, Value.string { data := qy.toArray }, Value.slice p1 hs.length c1, Value.slice b1 bd.length e1, Value.bool cl] 40)).heap.size) := Lib.hid (by simp)
  have hTl := toldS_len (⟨m, u, qy, hs, bd, cl⟩ : Req)
  obtain ⟨T, hT⟩ : ∃ T, toldS (⟨m, u, qy, hs, bd, cl⟩ : Req) = T := ⟨_, rfl⟩
  have HTL : Hid (T.length ≤ 90000015) := Lib.hid (by rw [← hT]; exact Nat.le_trans hTl (Nat.add_le_add_right hn 15))
  have HT := Lib.hid hT
  have HN := Lib.hid hn
  clear hh hb ha1 hTl hT hn
  go_enter Tryz.func32, Tryz.ntmps32
  go_upto_region 1 with fail
  generalize w.alloc (Obj.cells #[Value.string { data := m.toArray }, Value.string { data := u.toArray }, Value.string { data := qy.toArray }, Value.slice p1 hs.length c1, Value.slice b1 bd.length e1, Value.bool cl] 40) = w1 at *
  have a0 := HS.out.row.cell 0 _ rfl
  have a1 := HS.out.row.cell 1 _ rfl
  have a2 := HS.out.row.cell 2 _ rfl
  have a3 := HS.out.row.cell 3 _ rfl
  have a4 := HS.out.row.cell 4 _ rfl
  have a5 := HS.out.row.cell 5 _ rfl
  have HX : Hid (ReqS w1 (.agg #[.string ⟨m.toArray⟩, .string ⟨u.toArray⟩, .string ⟨qy.toArray⟩, .slice p1 hs.length c1, .slice b1 bd.length e1, .bool cl]) (⟨m, u, qy, hs, bd, cl⟩ : Req)) := ⟨_, _, rfl, HS.out.h, HS.out.s⟩
  go_wp2_with fail
  refine (told_calls w1 _ _ HX.out HN.out).mono ?_
  rintro e w2 ⟨rfl, hb2⟩
  rw [HT.out]
  have HS2 := Lib.hid (HS.out.below hb2)
  have HB2 := Lib.hid (HB.out.trans (hb2.mono HB.out.size))
  have HLT2 : Hid (w.heap.size < w2.heap.size) := Lib.hid (Nat.lt_of_lt_of_le HLT.out hb2.size)
  clear hb2 a0 a1 a2 a3 a4 a5 HS HB HX HLT HN
  obtain ⟨ct, hct, hbt, hbb⟩ := bodV_string w2 T (by have := HTL.out; omega)
  have HBT := Lib.hid hbt.byts
  have HS3 := Lib.hid (HS2.out.below hbb)
  have HB3 := Lib.hid (HB2.out.trans (hbb.mono HB2.out.size))
  have HLT3 := Lib.hid (Nat.lt_of_lt_of_le HLT2.out hbb.size)
  clear hbt hbb HS2 HB2 HLT2
  go_wp2_with fail
  generalize Lib.bytesWorld w2 5 ⟨T.toArray⟩ = w3 at *
  clear hct
  refine (takeR_calls w3 [] T false _ HBT.out (by have := HTL.out; simp; omega)).mono ?_
  rintro e w4 ⟨v, rs, rfl, hrs, hm, hb4⟩
  simp only [takeS_live, List.nil_append] at hm ⊢
  obtain ⟨⟨R1, E, R3, R4⟩, hR⟩ : ∃ R, runA T = R := ⟨_, rfl⟩
  rw [hR] at hm ⊢
  dsimp only at hm ⊢
  have HR := Lib.hid hR
  have HM := Lib.hid hm
  have HS4 := Lib.hid (HS3.out.below hb4)
  have HB4 := Lib.hid (HB3.out.trans (hb4.mono HB3.out.size))
  have HLT4 := Lib.hid (Nat.lt_of_lt_of_le HLT3.out hb4.size)
  have HRS := Lib.hid hrs
  obtain ⟨px, cx, rfl⟩ := hrs.forms
  clear hb4 hR hm hrs HS3 HB3 HLT3 HBT
  go_upto_region 3 with fail
  have ha5 : Below w4.heap.size w4 (w4.alloc (Obj.cells #[Value.string { data := R3.toArray }, Value.bool R4] 28)) := (Below.refl _ _).alloc (Nat.le_refl _) _
  have RC := Lib.hid (RowAt.new w4 #[Value.string { data := R3.toArray }, Value.bool R4] 28)
  have HS5 := Lib.hid (HS4.out.below ha5)
  have HB5 := Lib.hid (HB4.out.trans (ha5.mono HB4.out.size))
  have HRS5 := Lib.hid (HRS.out.below ha5)
  clear ha5 HS4 HB4 HRS HLT4
  obtain ⟨gc, hgc⟩ : ∃ x, w4.heap.size = x := ⟨_, rfl⟩
  rw [hgc] at RC ⊢
  generalize w4.alloc (Obj.cells #[Value.string { data := R3.toArray }, Value.bool R4] 28) = w5 at *
  clear hgc
  have HSd := Lib.hid (HS5.out.below (Below.refl _ _).drew)
  have HBd := Lib.hid HB5.out.drew
  by_cases hE : E = 0
  rotate_left
  ·
    have gE : (E != 0) = true := by rw [bne_iff_ne]; exact hE
    have HE := Lib.hid hE
    have hS0 : (fun _ : World => True) w5.drew := trivial
    clear hE
    refine wp_region_held_drew (S := (fun _ : World => True)) (by kernel_rfl) hS0 (fun hHeld0 => ?_)
    generalize w5.drew = wd at *
    refine held_take (i := 0) (v := ?_) rfl (by kernel_rfl) (by kernel_rfl) (by kernel_rfl) (fun _ _ _ h => h) (by rfl) (fun wq hSq => ?_) hHeld0 ?_
    rotate_left
    · (try dsimp only at hSq); go_simp; try with_reducible rfl
    simp only [Act.put, List.setIfInBounds_toArray, List.set_cons_zero, List.set_cons_succ]
    refine held_take (i := 1) (v := ?_) rfl (by kernel_rfl) (by kernel_rfl) (by kernel_rfl) (fun _ _ _ h => h) (by rfl) (fun wq hSq => ?_) hHeld0 ?_
    rotate_left
    · (try dsimp only at hSq); go_simp; try with_reducible rfl
    simp only [Act.put, List.setIfInBounds_toArray, List.set_cons_zero, List.set_cons_succ]
    refine held_take (i := 2) (v := ?_) rfl (by kernel_rfl) (by kernel_rfl) (by kernel_rfl) (fun _ _ _ h => h) (by rfl) (fun wq hSq => ?_) hHeld0 ?_
    rotate_left
    · (try dsimp only at hSq); go_simp; try with_reducible rfl
    simp only [Act.put, List.setIfInBounds_toArray, List.set_cons_zero, List.set_cons_succ]
    refine held_skip (i := 3) rfl (by kernel_rfl) (by kernel_rfl) (by kernel_rfl) (fun _ _ _ h => h) (by rfl) hHeld0 ?_
    simp only [Act.put, List.setIfInBounds_toArray, List.set_cons_zero, List.set_cons_succ]
    refine held_skip (i := 4) rfl (by kernel_rfl) (by kernel_rfl) (by kernel_rfl) (fun _ _ _ h => h) (by rfl) hHeld0 ?_
    simp only [Act.put, List.setIfInBounds_toArray, List.set_cons_zero, List.set_cons_succ]
    refine held_skip (i := 5) rfl (by kernel_rfl) (by kernel_rfl) (by kernel_rfl) (fun _ _ _ h => h) (by rfl) hHeld0 ?_
    simp only [Act.put, List.setIfInBounds_toArray, List.set_cons_zero, List.set_cons_succ]
    refine held_take (i := 6) (v := ?_) rfl (by kernel_rfl) (by kernel_rfl) (by kernel_rfl) (fun _ _ _ h => h) (by rfl) (fun wq hSq => ?_) hHeld0 ?_
    rotate_left
    · (try dsimp only at hSq); go_simp; try with_reducible rfl
    simp only [Act.put, List.setIfInBounds_toArray, List.set_cons_zero, List.set_cons_succ]
    refine held_take (i := 7) (v := ?_) rfl (by kernel_rfl) (by kernel_rfl) (by kernel_rfl) (fun _ _ _ h => h) (by rfl) (fun wq hSq => ?_) hHeld0 ?_
    rotate_left
    · (try dsimp only at hSq); go_simp; try with_reducible rfl
    simp only [Act.put, List.setIfInBounds_toArray, List.set_cons_zero, List.set_cons_succ]
    refine held_skip (i := 8) rfl (by kernel_rfl) (by kernel_rfl) (by kernel_rfl) (fun _ _ _ h => h) (by rfl) hHeld0 ?_
    simp only [Act.put, List.setIfInBounds_toArray, List.set_cons_zero, List.set_cons_succ]
    refine held_skip (i := 9) rfl (by kernel_rfl) (by kernel_rfl) (by kernel_rfl) (fun _ _ _ h => h) (by rfl) hHeld0 ?_
    simp only [Act.put, List.setIfInBounds_toArray, List.set_cons_zero, List.set_cons_succ]
    refine held_skip (i := 10) rfl (by kernel_rfl) (by kernel_rfl) (by kernel_rfl) (fun _ _ _ h => h) (by rfl) hHeld0 ?_
    simp only [Act.put, List.setIfInBounds_toArray, List.set_cons_zero, List.set_cons_succ]
    refine held_skip (i := 11) rfl (by kernel_rfl) (by kernel_rfl) (by kernel_rfl) (fun _ _ _ h => h) (by rfl) hHeld0 ?_
    simp only [Act.put, List.setIfInBounds_toArray, List.set_cons_zero, List.set_cons_succ]
    refine held_skip (i := 12) rfl (by kernel_rfl) (by kernel_rfl) (by kernel_rfl) (fun _ _ _ h => h) (by rfl) hHeld0 ?_
    simp only [Act.put, List.setIfInBounds_toArray, List.set_cons_zero, List.set_cons_succ]
    refine held_skip (i := 13) rfl (by kernel_rfl) (by kernel_rfl) (by kernel_rfl) (fun _ _ _ h => h) (by rfl) hHeld0 ?_
    simp only [Act.put, List.setIfInBounds_toArray, List.set_cons_zero, List.set_cons_succ]
    refine held_take (i := 14) (v := ?_) rfl (by kernel_rfl) (by kernel_rfl) (by kernel_rfl) (fun _ _ _ h => h) (by rfl) (fun wq hSq => ?_) hHeld0 ?_
    rotate_left
    · (try dsimp only at hSq); go_simp; try with_reducible rfl
    simp only [Act.put, List.setIfInBounds_toArray, List.set_cons_zero, List.set_cons_succ]
    refine held_take (i := 15) (v := ?_) rfl (by kernel_rfl) (by kernel_rfl) (by kernel_rfl) (fun _ _ _ h => h) (by rfl) (fun wq hSq => ?_) hHeld0 ?_
    rotate_left
    · (try dsimp only at hSq); go_simp; try with_reducible rfl
    simp only [Act.put, List.setIfInBounds_toArray, List.set_cons_zero, List.set_cons_succ]
    refine held_skip (i := 16) rfl (by kernel_rfl) (by kernel_rfl) (by kernel_rfl) (fun _ _ _ h => h) (by rfl) hHeld0 ?_
    simp only [Act.put, List.setIfInBounds_toArray, List.set_cons_zero, List.set_cons_succ]
    refine held_skip (i := 17) rfl (by kernel_rfl) (by kernel_rfl) (by kernel_rfl) (fun _ _ _ h => h) (by rfl) hHeld0 ?_
    simp only [Act.put, List.setIfInBounds_toArray, List.set_cons_zero, List.set_cons_succ]
    refine held_skip (i := 18) rfl (by kernel_rfl) (by kernel_rfl) (by kernel_rfl) (fun _ _ _ h => h) (by rfl) hHeld0 ?_
    simp only [Act.put, List.setIfInBounds_toArray, List.set_cons_zero, List.set_cons_succ]
    refine held_take (i := 19) (v := ?_) rfl (by kernel_rfl) (by kernel_rfl) (by kernel_rfl) (fun _ _ _ h => h) (by rfl) (fun wq hSq => ?_) hHeld0 ?_
    rotate_left
    · (try dsimp only at hSq); go_simp; try with_reducible rfl
    simp only [Act.put, List.setIfInBounds_toArray, List.set_cons_zero, List.set_cons_succ]
    refine wpAnyH_done (by kernel_rfl) ?_ _
    clear hHeld0
    go_wp2_with fail
    go_ret2
    exact ⟨.inr ⟨(fun hbk => by unfold BackB at hbk; rw [HT.out, HR.out] at hbk; exact HE.out hbk.1), rfl⟩, HBd.out⟩
  subst hE
  by_cases hL : rs.length = 1
  rotate_left
  ·
    have gL : ((rs.length : Int) != 1) = true := by rw [bne_iff_ne]; omega
    have HL := Lib.hid hL
    have hS0 : (fun _ : World => True) w5.drew := trivial
    clear hL
    refine wp_region_held_drew (S := (fun _ : World => True)) (by kernel_rfl) hS0 (fun hHeld0 => ?_)
    generalize w5.drew = wd at *
    refine held_take (i := 0) (v := ?_) rfl (by kernel_rfl) (by kernel_rfl) (by kernel_rfl) (fun _ _ _ h => h) (by rfl) (fun wq hSq => ?_) hHeld0 ?_
    rotate_left
    · (try dsimp only at hSq); go_simp; try with_reducible rfl
    simp only [Act.put, List.setIfInBounds_toArray, List.set_cons_zero, List.set_cons_succ]
    refine held_take (i := 1) (v := ?_) rfl (by kernel_rfl) (by kernel_rfl) (by kernel_rfl) (fun _ _ _ h => h) (by rfl) (fun wq hSq => ?_) hHeld0 ?_
    rotate_left
    · (try dsimp only at hSq); go_simp; try with_reducible rfl
    simp only [Act.put, List.setIfInBounds_toArray, List.set_cons_zero, List.set_cons_succ]
    refine held_take (i := 2) (v := ?_) rfl (by kernel_rfl) (by kernel_rfl) (by kernel_rfl) (fun _ _ _ h => h) (by rfl) (fun wq hSq => ?_) hHeld0 ?_
    rotate_left
    · (try dsimp only at hSq); go_simp; try with_reducible rfl
    simp only [Act.put, List.setIfInBounds_toArray, List.set_cons_zero, List.set_cons_succ]
    refine held_take (i := 3) (v := ?_) rfl (by kernel_rfl) (by kernel_rfl) (by kernel_rfl) (fun _ _ _ h => h) (by rfl) (fun wq hSq => ?_) hHeld0 ?_
    rotate_left
    · (try dsimp only at hSq); go_simp; try with_reducible rfl
    simp only [Act.put, List.setIfInBounds_toArray, List.set_cons_zero, List.set_cons_succ]
    refine held_take (i := 4) (v := ?_) rfl (by kernel_rfl) (by kernel_rfl) (by kernel_rfl) (fun _ _ _ h => h) (by rfl) (fun wq hSq => ?_) hHeld0 ?_
    rotate_left
    · (try dsimp only at hSq); go_simp; try with_reducible rfl
    simp only [Act.put, List.setIfInBounds_toArray, List.set_cons_zero, List.set_cons_succ]
    refine held_take (i := 5) (v := ?_) rfl (by kernel_rfl) (by kernel_rfl) (by kernel_rfl) (fun _ _ _ h => h) (by rfl) (fun wq hSq => ?_) hHeld0 ?_
    rotate_left
    · (try dsimp only at hSq); go_simp; try with_reducible rfl
    simp only [Act.put, List.setIfInBounds_toArray, List.set_cons_zero, List.set_cons_succ]
    refine held_take (i := 6) (v := ?_) rfl (by kernel_rfl) (by kernel_rfl) (by kernel_rfl) (fun _ _ _ h => h) (by rfl) (fun wq hSq => ?_) hHeld0 ?_
    rotate_left
    · (try dsimp only at hSq); go_simp; try with_reducible rfl
    simp only [Act.put, List.setIfInBounds_toArray, List.set_cons_zero, List.set_cons_succ]
    refine held_take (i := 7) (v := ?_) rfl (by kernel_rfl) (by kernel_rfl) (by kernel_rfl) (fun _ _ _ h => h) (by rfl) (fun wq hSq => ?_) hHeld0 ?_
    rotate_left
    · (try dsimp only at hSq); go_simp; try with_reducible rfl
    simp only [Act.put, List.setIfInBounds_toArray, List.set_cons_zero, List.set_cons_succ]
    refine held_skip (i := 8) rfl (by kernel_rfl) (by kernel_rfl) (by kernel_rfl) (fun _ _ _ h => h) (by rfl) hHeld0 ?_
    simp only [Act.put, List.setIfInBounds_toArray, List.set_cons_zero, List.set_cons_succ]
    refine held_skip (i := 9) rfl (by kernel_rfl) (by kernel_rfl) (by kernel_rfl) (fun _ _ _ h => h) (by rfl) hHeld0 ?_
    simp only [Act.put, List.setIfInBounds_toArray, List.set_cons_zero, List.set_cons_succ]
    refine held_skip (i := 10) rfl (by kernel_rfl) (by kernel_rfl) (by kernel_rfl) (fun _ _ _ h => h) (by rfl) hHeld0 ?_
    simp only [Act.put, List.setIfInBounds_toArray, List.set_cons_zero, List.set_cons_succ]
    refine held_skip (i := 11) rfl (by kernel_rfl) (by kernel_rfl) (by kernel_rfl) (fun _ _ _ h => h) (by rfl) hHeld0 ?_
    simp only [Act.put, List.setIfInBounds_toArray, List.set_cons_zero, List.set_cons_succ]
    refine held_skip (i := 12) rfl (by kernel_rfl) (by kernel_rfl) (by kernel_rfl) (fun _ _ _ h => h) (by rfl) hHeld0 ?_
    simp only [Act.put, List.setIfInBounds_toArray, List.set_cons_zero, List.set_cons_succ]
    refine held_skip (i := 13) rfl (by kernel_rfl) (by kernel_rfl) (by kernel_rfl) (fun _ _ _ h => h) (by rfl) hHeld0 ?_
    simp only [Act.put, List.setIfInBounds_toArray, List.set_cons_zero, List.set_cons_succ]
    refine held_take (i := 14) (v := ?_) rfl (by kernel_rfl) (by kernel_rfl) (by kernel_rfl) (fun _ _ _ h => h) (by rfl) (fun wq hSq => ?_) hHeld0 ?_
    rotate_left
    · (try dsimp only at hSq); go_simp; try with_reducible rfl
    simp only [Act.put, List.setIfInBounds_toArray, List.set_cons_zero, List.set_cons_succ]
    refine held_take (i := 15) (v := ?_) rfl (by kernel_rfl) (by kernel_rfl) (by kernel_rfl) (fun _ _ _ h => h) (by rfl) (fun wq hSq => ?_) hHeld0 ?_
    rotate_left
    · (try dsimp only at hSq); go_simp; try with_reducible rfl
    simp only [Act.put, List.setIfInBounds_toArray, List.set_cons_zero, List.set_cons_succ]
    refine held_skip (i := 16) rfl (by kernel_rfl) (by kernel_rfl) (by kernel_rfl) (fun _ _ _ h => h) (by rfl) hHeld0 ?_
    simp only [Act.put, List.setIfInBounds_toArray, List.set_cons_zero, List.set_cons_succ]
    refine held_skip (i := 17) rfl (by kernel_rfl) (by kernel_rfl) (by kernel_rfl) (fun _ _ _ h => h) (by rfl) hHeld0 ?_
    simp only [Act.put, List.setIfInBounds_toArray, List.set_cons_zero, List.set_cons_succ]
    refine held_skip (i := 18) rfl (by kernel_rfl) (by kernel_rfl) (by kernel_rfl) (fun _ _ _ h => h) (by rfl) hHeld0 ?_
    simp only [Act.put, List.setIfInBounds_toArray, List.set_cons_zero, List.set_cons_succ]
    refine held_take (i := 19) (v := ?_) rfl (by kernel_rfl) (by kernel_rfl) (by kernel_rfl) (fun _ _ _ h => h) (by rfl) (fun wq hSq => ?_) hHeld0 ?_
    rotate_left
    · (try dsimp only at hSq); go_simp; try with_reducible rfl
    simp only [Act.put, List.setIfInBounds_toArray, List.set_cons_zero, List.set_cons_succ]
    refine wpAnyH_done (by kernel_rfl) ?_ _
    clear hHeld0
    go_wp2_with fail
    go_ret2
    exact ⟨.inr ⟨(fun hbk => by unfold BackB at hbk; rw [HT.out, HR.out] at hbk; exact HL.out (by have h9 := congrArg List.length (HM.out.trans hbk.2.1); simpa using h9)), rfl⟩, HBd.out⟩
  obtain ⟨r1, hr1⟩ := List.length_eq_one_iff.1 hL
  have HR1 := Lib.hid hr1
  obtain ⟨gt, ot, hpx⟩ : ∃ gt, ∃ ot : Unit, px = some ⟨gt, 0, none⟩ := by
    rcases HRS5.out.row.2 with ⟨h9, h8⟩ | ⟨g, c, cur, h9, _⟩
    · omega
    · simp only [Value.slice.injEq] at h9; exact ⟨g, (), h9.1⟩
  subst hpx
  have HQ := Lib.hid (HRS5.out.req (r := r1) (by rw [hr1]; exact List.mem_singleton.2 rfl))
  have y0 := HRS5.out.at rfl (j := 0) (r := r1) (by rw [hr1]; rfl) 0 (by decide)
  have y1 := HRS5.out.at rfl (j := 0) (r := r1) (by rw [hr1]; rfl) 1 (by decide)
  have y2 := HRS5.out.at rfl (j := 0) (r := r1) (by rw [hr1]; rfl) 2 (by decide)
  have y3 := HRS5.out.at rfl (j := 0) (r := r1) (by rw [hr1]; rfl) 3 (by decide)
  have y4 := HRS5.out.at rfl (j := 0) (r := r1) (by rw [hr1]; rfl) 4 (by decide)
  have y5 := HRS5.out.at rfl (j := 0) (r := r1) (by rw [hr1]; rfl) 5 (by decide)
  rw [hL] at HRS5 ⊢
  clear hr1 hL
  obtain ⟨⟨m2, u2, q2, hs2, bd2, cl2⟩, hv2, bv2⟩ := r1
  simp only [reqCells, reqVal, List.getElem?_cons_zero, List.getElem?_cons_succ, Nat.zero_mul, Nat.zero_add] at HQ y0 y1 y2 y3 y4 y5
  have a0 := HS5.out.row.cell 0 _ rfl
  have a1 := HS5.out.row.cell 1 _ rfl
  have a2 := HS5.out.row.cell 2 _ rfl
  have a3 := HS5.out.row.cell 3 _ rfl
  have a4 := HS5.out.row.cell 4 _ rfl
  have a5 := HS5.out.row.cell 5 _ rfl
  have c0 := RC.out.cell 0 _ rfl
  have HQd := Lib.hid (HQ.out.below (Below.refl _ _).drew)
  have HRd := Lib.hid (HRS5.out.below (Below.refl _ _).drew)
  have RCd := Lib.hid (RC.out.below (Below.refl _ _).drew)
  have HXd : Hid (ReqS w5.drew (.agg #[.string ⟨m.toArray⟩, .string ⟨u.toArray⟩, .string ⟨qy.toArray⟩, .slice p1 hs.length c1, .slice b1 bd.length e1, .bool cl]) (⟨m, u, qy, hs, bd, cl⟩ : Req)) := ⟨_, _, rfl, HSd.out.h, HSd.out.s⟩
  have hS0 : (fun W => W.cell? ⟨gt, 0, none⟩ = some (.string ⟨m2.toArray⟩) ∧ W.cell? ⟨gt, 1, none⟩ = some (.string ⟨u2.toArray⟩) ∧ W.cell? ⟨gt, 2, none⟩ = some (.string ⟨q2.toArray⟩) ∧ W.cell? ⟨gt, 3, none⟩ = some (hv2) ∧ W.cell? ⟨gt, 4, none⟩ = some (bv2) ∧ W.cell? ⟨gt, 5, none⟩ = some (.bool cl2) ∧ W.cell? ⟨w.heap.size, 0, none⟩ = some (.string ⟨m.toArray⟩) ∧ W.cell? ⟨w.heap.size, 1, none⟩ = some (.string ⟨u.toArray⟩) ∧ W.cell? ⟨w.heap.size, 2, none⟩ = some (.string ⟨qy.toArray⟩) ∧ W.cell? ⟨w.heap.size, 3, none⟩ = some (.slice p1 hs.length c1) ∧ W.cell? ⟨w.heap.size, 4, none⟩ = some (.slice b1 bd.length e1) ∧ W.cell? ⟨w.heap.size, 5, none⟩ = some (.bool cl) ∧ W.cell? ⟨gc, 0, none⟩ = some (.string ⟨(R3).toArray⟩)) w5.drew := ⟨y0, y1, y2, y3, y4, y5, a0, a1, a2, a3, a4, a5, c0⟩
  obtain ⟨sm, hsm⟩ : ∃ b, eqB (⟨m2, u2, q2, hs2, bd2, cl2⟩ : Req) (⟨m, u, qy, hs, bd, cl⟩ : Req) = b := ⟨_, rfl⟩
  have HSM := Lib.hid hsm
  clear hsm HS5 HB5 HRS5 HQ RC
  have Y0 := Lib.hid (show w5.drew.cell? ⟨gt, 0, none⟩ = _ from y0)
  have Y1 := Lib.hid (show w5.drew.cell? ⟨gt, 1, none⟩ = _ from y1)
  have Y2 := Lib.hid (show w5.drew.cell? ⟨gt, 2, none⟩ = _ from y2)
  have Y3 := Lib.hid (show w5.drew.cell? ⟨gt, 3, none⟩ = _ from y3)
  have Y4 := Lib.hid (show w5.drew.cell? ⟨gt, 4, none⟩ = _ from y4)
  have Y5 := Lib.hid (show w5.drew.cell? ⟨gt, 5, none⟩ = _ from y5)
  have HGT : Hid (gt < w5.drew.heap.size) := Lib.hid (by have h9 := (World.ownsRow.lt HRd.out.row gt rfl).2; exact h9)
  clear HRd y0 a0 y1 a1 y2 a2 y3 a3 y4 a4 y5 a5 c0
  cases sm with
  | false =>
    refine wp_region_held_drew (S := (fun W => W.cell? ⟨gt, 0, none⟩ = some (.string ⟨m2.toArray⟩) ∧ W.cell? ⟨gt, 1, none⟩ = some (.string ⟨u2.toArray⟩) ∧ W.cell? ⟨gt, 2, none⟩ = some (.string ⟨q2.toArray⟩) ∧ W.cell? ⟨gt, 3, none⟩ = some (hv2) ∧ W.cell? ⟨gt, 4, none⟩ = some (bv2) ∧ W.cell? ⟨gt, 5, none⟩ = some (.bool cl2) ∧ W.cell? ⟨w.heap.size, 0, none⟩ = some (.string ⟨m.toArray⟩) ∧ W.cell? ⟨w.heap.size, 1, none⟩ = some (.string ⟨u.toArray⟩) ∧ W.cell? ⟨w.heap.size, 2, none⟩ = some (.string ⟨qy.toArray⟩) ∧ W.cell? ⟨w.heap.size, 3, none⟩ = some (.slice p1 hs.length c1) ∧ W.cell? ⟨w.heap.size, 4, none⟩ = some (.slice b1 bd.length e1) ∧ W.cell? ⟨w.heap.size, 5, none⟩ = some (.bool cl) ∧ W.cell? ⟨gc, 0, none⟩ = some (.string ⟨(R3).toArray⟩))) (by kernel_rfl) hS0 (fun hHeld0 => ?_)
    generalize w5.drew = wd at *
    refine held_take (i := 0) (v := ?_) rfl (by kernel_rfl) (by kernel_rfl) (by kernel_rfl) (fun _ _ _ h => h) (by rfl) (fun wq hSq => ?_) hHeld0 ?_
    rotate_left
    · (try dsimp only at hSq); go_simp; try with_reducible rfl
    simp only [Act.put, List.setIfInBounds_toArray, List.set_cons_zero, List.set_cons_succ]
    refine held_take (i := 1) (v := ?_) rfl (by kernel_rfl) (by kernel_rfl) (by kernel_rfl) (fun _ _ _ h => h) (by rfl) (fun wq hSq => ?_) hHeld0 ?_
    rotate_left
    · (try dsimp only at hSq); go_simp; try with_reducible rfl
    simp only [Act.put, List.setIfInBounds_toArray, List.set_cons_zero, List.set_cons_succ]
    refine held_take (i := 2) (v := ?_) rfl (by kernel_rfl) (by kernel_rfl) (by kernel_rfl) (fun _ _ _ h => h) (by rfl) (fun wq hSq => ?_) hHeld0 ?_
    rotate_left
    · (try dsimp only at hSq); go_simp; try with_reducible rfl
    simp only [Act.put, List.setIfInBounds_toArray, List.set_cons_zero, List.set_cons_succ]
    refine held_take (i := 3) (v := ?_) rfl (by kernel_rfl) (by kernel_rfl) (by kernel_rfl) (fun _ _ _ h => h) (by rfl) (fun wq hSq => ?_) hHeld0 ?_
    rotate_left
    · (try dsimp only at hSq); go_simp; try with_reducible rfl
    simp only [Act.put, List.setIfInBounds_toArray, List.set_cons_zero, List.set_cons_succ]
    refine held_take (i := 4) (v := ?_) rfl (by kernel_rfl) (by kernel_rfl) (by kernel_rfl) (fun _ _ _ h => h) (by rfl) (fun wq hSq => ?_) hHeld0 ?_
    rotate_left
    · (try dsimp only at hSq); go_simp; try with_reducible rfl
    simp only [Act.put, List.setIfInBounds_toArray, List.set_cons_zero, List.set_cons_succ]
    refine held_take (i := 5) (v := ?_) rfl (by kernel_rfl) (by kernel_rfl) (by kernel_rfl) (fun _ _ _ h => h) (by rfl) (fun wq hSq => ?_) hHeld0 ?_
    rotate_left
    · (try dsimp only at hSq); go_simp; try with_reducible rfl
    simp only [Act.put, List.setIfInBounds_toArray, List.set_cons_zero, List.set_cons_succ]
    refine held_take (i := 6) (v := ?_) rfl (by kernel_rfl) (by kernel_rfl) (by kernel_rfl) (fun _ _ _ h => h) (by rfl) (fun wq hSq => ?_) hHeld0 ?_
    rotate_left
    · (try dsimp only at hSq); go_simp; try with_reducible rfl
    simp only [Act.put, List.setIfInBounds_toArray, List.set_cons_zero, List.set_cons_succ]
    refine held_take (i := 7) (v := ?_) rfl (by kernel_rfl) (by kernel_rfl) (by kernel_rfl) (fun _ _ _ h => h) (by rfl) (fun wq hSq => ?_) hHeld0 ?_
    rotate_left
    · (try dsimp only at hSq); go_simp; try with_reducible rfl
    simp only [Act.put, List.setIfInBounds_toArray, List.set_cons_zero, List.set_cons_succ]
    refine held_take (i := 8) (v := ?_) rfl (by kernel_rfl) (by kernel_rfl) (by kernel_rfl) (fun _ _ _ h => h) (by rfl) (fun wq hSq => ?_) hHeld0 ?_
    rotate_left
    · (try dsimp only at hSq); go_simp; try with_reducible rfl
    simp only [Act.put, List.setIfInBounds_toArray, List.set_cons_zero, List.set_cons_succ]
    refine held_take (i := 9) (v := ?_) rfl (by kernel_rfl) (by kernel_rfl) (by kernel_rfl) (fun _ _ _ h => h) (by rfl) (fun wq hSq => ?_) hHeld0 ?_
    rotate_left
    · (try dsimp only at hSq); go_simp; try with_reducible rfl
    simp only [Act.put, List.setIfInBounds_toArray, List.set_cons_zero, List.set_cons_succ]
    refine held_take (i := 10) (v := ?_) rfl (by kernel_rfl) (by kernel_rfl) (by kernel_rfl) (fun _ _ _ h => h) (by rfl) (fun wq hSq => ?_) hHeld0 ?_
    rotate_left
    · (try dsimp only at hSq); go_simp; try with_reducible rfl
    simp only [Act.put, List.setIfInBounds_toArray, List.set_cons_zero, List.set_cons_succ]
    refine held_take (i := 11) (v := ?_) rfl (by kernel_rfl) (by kernel_rfl) (by kernel_rfl) (fun _ _ _ h => h) (by rfl) (fun wq hSq => ?_) hHeld0 ?_
    rotate_left
    · (try dsimp only at hSq); go_simp; try with_reducible rfl
    simp only [Act.put, List.setIfInBounds_toArray, List.set_cons_zero, List.set_cons_succ]
    refine held_step (i := 12) (by kernel_rfl) rfl (by rfl) (fun K hK => ?_)
    go_simp
    refine (sameR_calls wd _ _ _ _ HQd.out HXd.out).mono ?_
    rintro e9 w9 ⟨rfl, hb9⟩
    rw [HSM.out]
    dsimp only
    have HS9 := Lib.hid (HSd.out.below hb9)
    have HB9 := Lib.hid (HBd.out.trans (hb9.mono HBd.out.size))
    have RC9 := Lib.hid (RCd.out.below hb9)
    have hlt9 : ∀ i, w9.cell? ⟨gt, i, none⟩ = wd.cell? ⟨gt, i, none⟩ := fun i => hb9.cell (p := ⟨gt, i, none⟩) HGT.out
    clear hb9
    have x0 := (hlt9 0).trans Y0.out
    have b0 := HS9.out.row.cell 0 _ rfl
    have x1 := (hlt9 1).trans Y1.out
    have b1 := HS9.out.row.cell 1 _ rfl
    have x2 := (hlt9 2).trans Y2.out
    have b2 := HS9.out.row.cell 2 _ rfl
    have x3 := (hlt9 3).trans Y3.out
    have b3 := HS9.out.row.cell 3 _ rfl
    have x4 := (hlt9 4).trans Y4.out
    have b4 := HS9.out.row.cell 4 _ rfl
    have x5 := (hlt9 5).trans Y5.out
    have b5 := HS9.out.row.cell 5 _ rfl
    have d0 := RC9.out.cell 0 _ rfl
    refine hK.out _ _ ⟨x0, x1, x2, x3, x4, x5, b0, b1, b2, b3, b4, b5, d0⟩ (fun hHeld1 => ?_)
    clear hK K hHeld0
    refine held_take (i := 13) (v := ?_) rfl (by kernel_rfl) (by kernel_rfl) (by kernel_rfl) (fun _ _ _ h => h) (by rfl) (fun wq hSq => ?_) hHeld1 ?_
    rotate_left
    · (try dsimp only at hSq); go_simp; try with_reducible rfl
    simp only [Act.put, List.setIfInBounds_toArray, List.set_cons_zero, List.set_cons_succ]
    refine held_take (i := 14) (v := ?_) rfl (by kernel_rfl) (by kernel_rfl) (by kernel_rfl) (fun _ _ _ h => h) (by rfl) (fun wq hSq => ?_) hHeld1 ?_
    rotate_left
    · (try dsimp only at hSq); go_simp; try with_reducible rfl
    simp only [Act.put, List.setIfInBounds_toArray, List.set_cons_zero, List.set_cons_succ]
    refine held_take (i := 15) (v := ?_) rfl (by kernel_rfl) (by kernel_rfl) (by kernel_rfl) (fun _ _ _ h => h) (by rfl) (fun wq hSq => ?_) hHeld1 ?_
    rotate_left
    · (try dsimp only at hSq); go_simp; try with_reducible rfl
    simp only [Act.put, List.setIfInBounds_toArray, List.set_cons_zero, List.set_cons_succ]
    refine held_skip (i := 16) rfl (by kernel_rfl) (by kernel_rfl) (by kernel_rfl) (fun _ _ _ h => h) (by rfl) hHeld1 ?_
    simp only [Act.put, List.setIfInBounds_toArray, List.set_cons_zero, List.set_cons_succ]
    refine held_skip (i := 17) rfl (by kernel_rfl) (by kernel_rfl) (by kernel_rfl) (fun _ _ _ h => h) (by rfl) hHeld1 ?_
    simp only [Act.put, List.setIfInBounds_toArray, List.set_cons_zero, List.set_cons_succ]
    refine held_skip (i := 18) rfl (by kernel_rfl) (by kernel_rfl) (by kernel_rfl) (fun _ _ _ h => h) (by rfl) hHeld1 ?_
    simp only [Act.put, List.setIfInBounds_toArray, List.set_cons_zero, List.set_cons_succ]
    refine held_take (i := 19) (v := ?_) rfl (by kernel_rfl) (by kernel_rfl) (by kernel_rfl) (fun _ _ _ h => h) (by rfl) (fun wq hSq => ?_) hHeld1 ?_
    rotate_left
    · (try dsimp only at hSq); go_simp; try with_reducible rfl
    simp only [Act.put, List.setIfInBounds_toArray, List.set_cons_zero, List.set_cons_succ]
    refine wpAnyH_done (by kernel_rfl) ?_ _
    clear hHeld1
    go_wp2_with fail
    go_ret2
    exact ⟨.inr ⟨(fun hbk => by unfold BackB at hbk; rw [HT.out, HR.out] at hbk; have h9 := HM.out.trans hbk.2.1; rw [HR1.out] at h9; have h8 : (⟨m2, u2, q2, hs2, bd2, cl2⟩ : Req) = (⟨m, u, qy, hs, bd, cl⟩ : Req) := (by simpa using h9); have h7 := HSM.out; rw [eqB_true h8] at h7; cases h7), rfl⟩, HB9.out⟩
  | true =>
    rcases R3 with _ | ⟨rc, rt⟩
    ·
      refine wp_region_held_drew (S := (fun W => W.cell? ⟨gt, 0, none⟩ = some (.string ⟨m2.toArray⟩) ∧ W.cell? ⟨gt, 1, none⟩ = some (.string ⟨u2.toArray⟩) ∧ W.cell? ⟨gt, 2, none⟩ = some (.string ⟨q2.toArray⟩) ∧ W.cell? ⟨gt, 3, none⟩ = some (hv2) ∧ W.cell? ⟨gt, 4, none⟩ = some (bv2) ∧ W.cell? ⟨gt, 5, none⟩ = some (.bool cl2) ∧ W.cell? ⟨w.heap.size, 0, none⟩ = some (.string ⟨m.toArray⟩) ∧ W.cell? ⟨w.heap.size, 1, none⟩ = some (.string ⟨u.toArray⟩) ∧ W.cell? ⟨w.heap.size, 2, none⟩ = some (.string ⟨qy.toArray⟩) ∧ W.cell? ⟨w.heap.size, 3, none⟩ = some (.slice p1 hs.length c1) ∧ W.cell? ⟨w.heap.size, 4, none⟩ = some (.slice b1 bd.length e1) ∧ W.cell? ⟨w.heap.size, 5, none⟩ = some (.bool cl) ∧ W.cell? ⟨gc, 0, none⟩ = some (.string ⟨(([] : List UInt8)).toArray⟩))) (by kernel_rfl) hS0 (fun hHeld0 => ?_)
      generalize w5.drew = wd at *
      refine held_take (i := 0) (v := ?_) rfl (by kernel_rfl) (by kernel_rfl) (by kernel_rfl) (fun _ _ _ h => h) (by rfl) (fun wq hSq => ?_) hHeld0 ?_
      rotate_left
      · (try dsimp only at hSq); go_simp; try with_reducible rfl
      simp only [Act.put, List.setIfInBounds_toArray, List.set_cons_zero, List.set_cons_succ]
      refine held_take (i := 1) (v := ?_) rfl (by kernel_rfl) (by kernel_rfl) (by kernel_rfl) (fun _ _ _ h => h) (by rfl) (fun wq hSq => ?_) hHeld0 ?_
      rotate_left
      · (try dsimp only at hSq); go_simp; try with_reducible rfl
      simp only [Act.put, List.setIfInBounds_toArray, List.set_cons_zero, List.set_cons_succ]
      refine held_take (i := 2) (v := ?_) rfl (by kernel_rfl) (by kernel_rfl) (by kernel_rfl) (fun _ _ _ h => h) (by rfl) (fun wq hSq => ?_) hHeld0 ?_
      rotate_left
      · (try dsimp only at hSq); go_simp; try with_reducible rfl
      simp only [Act.put, List.setIfInBounds_toArray, List.set_cons_zero, List.set_cons_succ]
      refine held_take (i := 3) (v := ?_) rfl (by kernel_rfl) (by kernel_rfl) (by kernel_rfl) (fun _ _ _ h => h) (by rfl) (fun wq hSq => ?_) hHeld0 ?_
      rotate_left
      · (try dsimp only at hSq); go_simp; try with_reducible rfl
      simp only [Act.put, List.setIfInBounds_toArray, List.set_cons_zero, List.set_cons_succ]
      refine held_take (i := 4) (v := ?_) rfl (by kernel_rfl) (by kernel_rfl) (by kernel_rfl) (fun _ _ _ h => h) (by rfl) (fun wq hSq => ?_) hHeld0 ?_
      rotate_left
      · (try dsimp only at hSq); go_simp; try with_reducible rfl
      simp only [Act.put, List.setIfInBounds_toArray, List.set_cons_zero, List.set_cons_succ]
      refine held_take (i := 5) (v := ?_) rfl (by kernel_rfl) (by kernel_rfl) (by kernel_rfl) (fun _ _ _ h => h) (by rfl) (fun wq hSq => ?_) hHeld0 ?_
      rotate_left
      · (try dsimp only at hSq); go_simp; try with_reducible rfl
      simp only [Act.put, List.setIfInBounds_toArray, List.set_cons_zero, List.set_cons_succ]
      refine held_take (i := 6) (v := ?_) rfl (by kernel_rfl) (by kernel_rfl) (by kernel_rfl) (fun _ _ _ h => h) (by rfl) (fun wq hSq => ?_) hHeld0 ?_
      rotate_left
      · (try dsimp only at hSq); go_simp; try with_reducible rfl
      simp only [Act.put, List.setIfInBounds_toArray, List.set_cons_zero, List.set_cons_succ]
      refine held_take (i := 7) (v := ?_) rfl (by kernel_rfl) (by kernel_rfl) (by kernel_rfl) (fun _ _ _ h => h) (by rfl) (fun wq hSq => ?_) hHeld0 ?_
      rotate_left
      · (try dsimp only at hSq); go_simp; try with_reducible rfl
      simp only [Act.put, List.setIfInBounds_toArray, List.set_cons_zero, List.set_cons_succ]
      refine held_take (i := 8) (v := ?_) rfl (by kernel_rfl) (by kernel_rfl) (by kernel_rfl) (fun _ _ _ h => h) (by rfl) (fun wq hSq => ?_) hHeld0 ?_
      rotate_left
      · (try dsimp only at hSq); go_simp; try with_reducible rfl
      simp only [Act.put, List.setIfInBounds_toArray, List.set_cons_zero, List.set_cons_succ]
      refine held_take (i := 9) (v := ?_) rfl (by kernel_rfl) (by kernel_rfl) (by kernel_rfl) (fun _ _ _ h => h) (by rfl) (fun wq hSq => ?_) hHeld0 ?_
      rotate_left
      · (try dsimp only at hSq); go_simp; try with_reducible rfl
      simp only [Act.put, List.setIfInBounds_toArray, List.set_cons_zero, List.set_cons_succ]
      refine held_take (i := 10) (v := ?_) rfl (by kernel_rfl) (by kernel_rfl) (by kernel_rfl) (fun _ _ _ h => h) (by rfl) (fun wq hSq => ?_) hHeld0 ?_
      rotate_left
      · (try dsimp only at hSq); go_simp; try with_reducible rfl
      simp only [Act.put, List.setIfInBounds_toArray, List.set_cons_zero, List.set_cons_succ]
      refine held_take (i := 11) (v := ?_) rfl (by kernel_rfl) (by kernel_rfl) (by kernel_rfl) (fun _ _ _ h => h) (by rfl) (fun wq hSq => ?_) hHeld0 ?_
      rotate_left
      · (try dsimp only at hSq); go_simp; try with_reducible rfl
      simp only [Act.put, List.setIfInBounds_toArray, List.set_cons_zero, List.set_cons_succ]
      refine held_step (i := 12) (by kernel_rfl) rfl (by rfl) (fun K hK => ?_)
      go_simp
      refine (sameR_calls wd _ _ _ _ HQd.out HXd.out).mono ?_
      rintro e9 w9 ⟨rfl, hb9⟩
      rw [HSM.out]
      dsimp only
      have HS9 := Lib.hid (HSd.out.below hb9)
      have HB9 := Lib.hid (HBd.out.trans (hb9.mono HBd.out.size))
      have RC9 := Lib.hid (RCd.out.below hb9)
      have hlt9 : ∀ i, w9.cell? ⟨gt, i, none⟩ = wd.cell? ⟨gt, i, none⟩ := fun i => hb9.cell (p := ⟨gt, i, none⟩) HGT.out
      clear hb9
      have x0 := (hlt9 0).trans Y0.out
      have b0 := HS9.out.row.cell 0 _ rfl
      have x1 := (hlt9 1).trans Y1.out
      have b1 := HS9.out.row.cell 1 _ rfl
      have x2 := (hlt9 2).trans Y2.out
      have b2 := HS9.out.row.cell 2 _ rfl
      have x3 := (hlt9 3).trans Y3.out
      have b3 := HS9.out.row.cell 3 _ rfl
      have x4 := (hlt9 4).trans Y4.out
      have b4 := HS9.out.row.cell 4 _ rfl
      have x5 := (hlt9 5).trans Y5.out
      have b5 := HS9.out.row.cell 5 _ rfl
      have d0 := RC9.out.cell 0 _ rfl
      refine hK.out _ _ ⟨x0, x1, x2, x3, x4, x5, b0, b1, b2, b3, b4, b5, d0⟩ (fun hHeld1 => ?_)
      clear hK K hHeld0
      refine held_take (i := 13) (v := ?_) rfl (by kernel_rfl) (by kernel_rfl) (by kernel_rfl) (fun _ _ _ h => h) (by rfl) (fun wq hSq => ?_) hHeld1 ?_
      rotate_left
      · (try dsimp only at hSq); go_simp; try with_reducible rfl
      simp only [Act.put, List.setIfInBounds_toArray, List.set_cons_zero, List.set_cons_succ]
      refine held_take (i := 14) (v := ?_) rfl (by kernel_rfl) (by kernel_rfl) (by kernel_rfl) (fun _ _ _ h => h) (by rfl) (fun wq hSq => ?_) hHeld1 ?_
      rotate_left
      · (try dsimp only at hSq); go_simp; try with_reducible rfl
      simp only [Act.put, List.setIfInBounds_toArray, List.set_cons_zero, List.set_cons_succ]
      refine held_take (i := 15) (v := ?_) rfl (by kernel_rfl) (by kernel_rfl) (by kernel_rfl) (fun _ _ _ h => h) (by rfl) (fun wq hSq => ?_) hHeld1 ?_
      rotate_left
      · (try dsimp only at hSq); go_simp; try with_reducible rfl
      simp only [Act.put, List.setIfInBounds_toArray, List.set_cons_zero, List.set_cons_succ]
      refine held_take (i := 16) (v := ?_) rfl (by kernel_rfl) (by kernel_rfl) (by kernel_rfl) (fun _ _ _ h => h) (by rfl) (fun wq hSq => ?_) hHeld1 ?_
      rotate_left
      · (try dsimp only at hSq); go_simp; try with_reducible rfl
      simp only [Act.put, List.setIfInBounds_toArray, List.set_cons_zero, List.set_cons_succ]
      refine held_take (i := 17) (v := ?_) rfl (by kernel_rfl) (by kernel_rfl) (by kernel_rfl) (fun _ _ _ h => h) (by rfl) (fun wq hSq => ?_) hHeld1 ?_
      rotate_left
      · (try dsimp only at hSq); go_simp; try with_reducible rfl
      simp only [Act.put, List.setIfInBounds_toArray, List.set_cons_zero, List.set_cons_succ]
      refine held_take (i := 18) (v := ?_) rfl (by kernel_rfl) (by kernel_rfl) (by kernel_rfl) (fun _ _ _ h => h) (by rfl) (fun wq hSq => ?_) hHeld1 ?_
      rotate_left
      · (try dsimp only at hSq); go_simp; try with_reducible rfl
      simp only [Act.put, List.setIfInBounds_toArray, List.set_cons_zero, List.set_cons_succ]
      refine held_take (i := 19) (v := ?_) rfl (by kernel_rfl) (by kernel_rfl) (by kernel_rfl) (fun _ _ _ h => h) (by rfl) (fun wq hSq => ?_) hHeld1 ?_
      rotate_left
      · (try dsimp only at hSq); go_simp; try with_reducible rfl
      simp only [Act.put, List.setIfInBounds_toArray, List.set_cons_zero, List.set_cons_succ]
      refine wpAnyH_done (by kernel_rfl) ?_ _
      clear hHeld1
      obtain ⟨cu, hcu, hbu, hbb⟩ := bodV_string w9 T (by have := HTL.out; omega)
      have HBU := Lib.hid hbu.byts
      have HBB := Lib.hid (HB9.out.trans (hbb.mono HB9.out.size))
      clear hbu hbb
      go_wp2_with fail
      go_ret2
      refine ⟨.inl ⟨?_, _, rfl, by rw [HT.out]; exact HBU.out⟩, HBB.out⟩
      unfold BackB
      rw [HT.out, HR.out]
      refine ⟨rfl, ?_, rfl⟩
      have h9 := HM.out
      rw [HR1.out] at h9
      rw [← h9, List.map_cons, List.map_nil, eqB_iff.1 HSM.out]
    ·
      refine wp_region_held_drew (S := (fun W => W.cell? ⟨gt, 0, none⟩ = some (.string ⟨m2.toArray⟩) ∧ W.cell? ⟨gt, 1, none⟩ = some (.string ⟨u2.toArray⟩) ∧ W.cell? ⟨gt, 2, none⟩ = some (.string ⟨q2.toArray⟩) ∧ W.cell? ⟨gt, 3, none⟩ = some (hv2) ∧ W.cell? ⟨gt, 4, none⟩ = some (bv2) ∧ W.cell? ⟨gt, 5, none⟩ = some (.bool cl2) ∧ W.cell? ⟨w.heap.size, 0, none⟩ = some (.string ⟨m.toArray⟩) ∧ W.cell? ⟨w.heap.size, 1, none⟩ = some (.string ⟨u.toArray⟩) ∧ W.cell? ⟨w.heap.size, 2, none⟩ = some (.string ⟨qy.toArray⟩) ∧ W.cell? ⟨w.heap.size, 3, none⟩ = some (.slice p1 hs.length c1) ∧ W.cell? ⟨w.heap.size, 4, none⟩ = some (.slice b1 bd.length e1) ∧ W.cell? ⟨w.heap.size, 5, none⟩ = some (.bool cl) ∧ W.cell? ⟨gc, 0, none⟩ = some (.string ⟨(rc :: rt).toArray⟩))) (by kernel_rfl) hS0 (fun hHeld0 => ?_)
      generalize w5.drew = wd at *
      refine held_take (i := 0) (v := ?_) rfl (by kernel_rfl) (by kernel_rfl) (by kernel_rfl) (fun _ _ _ h => h) (by rfl) (fun wq hSq => ?_) hHeld0 ?_
      rotate_left
      · (try dsimp only at hSq); go_simp; try with_reducible rfl
      simp only [Act.put, List.setIfInBounds_toArray, List.set_cons_zero, List.set_cons_succ]
      refine held_take (i := 1) (v := ?_) rfl (by kernel_rfl) (by kernel_rfl) (by kernel_rfl) (fun _ _ _ h => h) (by rfl) (fun wq hSq => ?_) hHeld0 ?_
      rotate_left
      · (try dsimp only at hSq); go_simp; try with_reducible rfl
      simp only [Act.put, List.setIfInBounds_toArray, List.set_cons_zero, List.set_cons_succ]
      refine held_take (i := 2) (v := ?_) rfl (by kernel_rfl) (by kernel_rfl) (by kernel_rfl) (fun _ _ _ h => h) (by rfl) (fun wq hSq => ?_) hHeld0 ?_
      rotate_left
      · (try dsimp only at hSq); go_simp; try with_reducible rfl
      simp only [Act.put, List.setIfInBounds_toArray, List.set_cons_zero, List.set_cons_succ]
      refine held_take (i := 3) (v := ?_) rfl (by kernel_rfl) (by kernel_rfl) (by kernel_rfl) (fun _ _ _ h => h) (by rfl) (fun wq hSq => ?_) hHeld0 ?_
      rotate_left
      · (try dsimp only at hSq); go_simp; try with_reducible rfl
      simp only [Act.put, List.setIfInBounds_toArray, List.set_cons_zero, List.set_cons_succ]
      refine held_take (i := 4) (v := ?_) rfl (by kernel_rfl) (by kernel_rfl) (by kernel_rfl) (fun _ _ _ h => h) (by rfl) (fun wq hSq => ?_) hHeld0 ?_
      rotate_left
      · (try dsimp only at hSq); go_simp; try with_reducible rfl
      simp only [Act.put, List.setIfInBounds_toArray, List.set_cons_zero, List.set_cons_succ]
      refine held_take (i := 5) (v := ?_) rfl (by kernel_rfl) (by kernel_rfl) (by kernel_rfl) (fun _ _ _ h => h) (by rfl) (fun wq hSq => ?_) hHeld0 ?_
      rotate_left
      · (try dsimp only at hSq); go_simp; try with_reducible rfl
      simp only [Act.put, List.setIfInBounds_toArray, List.set_cons_zero, List.set_cons_succ]
      refine held_take (i := 6) (v := ?_) rfl (by kernel_rfl) (by kernel_rfl) (by kernel_rfl) (fun _ _ _ h => h) (by rfl) (fun wq hSq => ?_) hHeld0 ?_
      rotate_left
      · (try dsimp only at hSq); go_simp; try with_reducible rfl
      simp only [Act.put, List.setIfInBounds_toArray, List.set_cons_zero, List.set_cons_succ]
      refine held_take (i := 7) (v := ?_) rfl (by kernel_rfl) (by kernel_rfl) (by kernel_rfl) (fun _ _ _ h => h) (by rfl) (fun wq hSq => ?_) hHeld0 ?_
      rotate_left
      · (try dsimp only at hSq); go_simp; try with_reducible rfl
      simp only [Act.put, List.setIfInBounds_toArray, List.set_cons_zero, List.set_cons_succ]
      refine held_take (i := 8) (v := ?_) rfl (by kernel_rfl) (by kernel_rfl) (by kernel_rfl) (fun _ _ _ h => h) (by rfl) (fun wq hSq => ?_) hHeld0 ?_
      rotate_left
      · (try dsimp only at hSq); go_simp; try with_reducible rfl
      simp only [Act.put, List.setIfInBounds_toArray, List.set_cons_zero, List.set_cons_succ]
      refine held_take (i := 9) (v := ?_) rfl (by kernel_rfl) (by kernel_rfl) (by kernel_rfl) (fun _ _ _ h => h) (by rfl) (fun wq hSq => ?_) hHeld0 ?_
      rotate_left
      · (try dsimp only at hSq); go_simp; try with_reducible rfl
      simp only [Act.put, List.setIfInBounds_toArray, List.set_cons_zero, List.set_cons_succ]
      refine held_take (i := 10) (v := ?_) rfl (by kernel_rfl) (by kernel_rfl) (by kernel_rfl) (fun _ _ _ h => h) (by rfl) (fun wq hSq => ?_) hHeld0 ?_
      rotate_left
      · (try dsimp only at hSq); go_simp; try with_reducible rfl
      simp only [Act.put, List.setIfInBounds_toArray, List.set_cons_zero, List.set_cons_succ]
      refine held_take (i := 11) (v := ?_) rfl (by kernel_rfl) (by kernel_rfl) (by kernel_rfl) (fun _ _ _ h => h) (by rfl) (fun wq hSq => ?_) hHeld0 ?_
      rotate_left
      · (try dsimp only at hSq); go_simp; try with_reducible rfl
      simp only [Act.put, List.setIfInBounds_toArray, List.set_cons_zero, List.set_cons_succ]
      refine held_step (i := 12) (by kernel_rfl) rfl (by rfl) (fun K hK => ?_)
      go_simp
      refine (sameR_calls wd _ _ _ _ HQd.out HXd.out).mono ?_
      rintro e9 w9 ⟨rfl, hb9⟩
      rw [HSM.out]
      dsimp only
      have HS9 := Lib.hid (HSd.out.below hb9)
      have HB9 := Lib.hid (HBd.out.trans (hb9.mono HBd.out.size))
      have RC9 := Lib.hid (RCd.out.below hb9)
      have hlt9 : ∀ i, w9.cell? ⟨gt, i, none⟩ = wd.cell? ⟨gt, i, none⟩ := fun i => hb9.cell (p := ⟨gt, i, none⟩) HGT.out
      clear hb9
      have x0 := (hlt9 0).trans Y0.out
      have b0 := HS9.out.row.cell 0 _ rfl
      have x1 := (hlt9 1).trans Y1.out
      have b1 := HS9.out.row.cell 1 _ rfl
      have x2 := (hlt9 2).trans Y2.out
      have b2 := HS9.out.row.cell 2 _ rfl
      have x3 := (hlt9 3).trans Y3.out
      have b3 := HS9.out.row.cell 3 _ rfl
      have x4 := (hlt9 4).trans Y4.out
      have b4 := HS9.out.row.cell 4 _ rfl
      have x5 := (hlt9 5).trans Y5.out
      have b5 := HS9.out.row.cell 5 _ rfl
      have d0 := RC9.out.cell 0 _ rfl
      refine hK.out _ _ ⟨x0, x1, x2, x3, x4, x5, b0, b1, b2, b3, b4, b5, d0⟩ (fun hHeld1 => ?_)
      clear hK K hHeld0
      refine held_take (i := 13) (v := ?_) rfl (by kernel_rfl) (by kernel_rfl) (by kernel_rfl) (fun _ _ _ h => h) (by rfl) (fun wq hSq => ?_) hHeld1 ?_
      rotate_left
      · (try dsimp only at hSq); go_simp; try with_reducible rfl
      simp only [Act.put, List.setIfInBounds_toArray, List.set_cons_zero, List.set_cons_succ]
      refine held_take (i := 14) (v := ?_) rfl (by kernel_rfl) (by kernel_rfl) (by kernel_rfl) (fun _ _ _ h => h) (by rfl) (fun wq hSq => ?_) hHeld1 ?_
      rotate_left
      · (try dsimp only at hSq); go_simp; try with_reducible rfl
      simp only [Act.put, List.setIfInBounds_toArray, List.set_cons_zero, List.set_cons_succ]
      refine held_take (i := 15) (v := ?_) rfl (by kernel_rfl) (by kernel_rfl) (by kernel_rfl) (fun _ _ _ h => h) (by rfl) (fun wq hSq => ?_) hHeld1 ?_
      rotate_left
      · (try dsimp only at hSq); go_simp; try with_reducible rfl
      simp only [Act.put, List.setIfInBounds_toArray, List.set_cons_zero, List.set_cons_succ]
      refine held_take (i := 16) (v := ?_) rfl (by kernel_rfl) (by kernel_rfl) (by kernel_rfl) (fun _ _ _ h => h) (by rfl) (fun wq hSq => ?_) hHeld1 ?_
      rotate_left
      · (try dsimp only at hSq); go_simp; try with_reducible rfl
      simp only [Act.put, List.setIfInBounds_toArray, List.set_cons_zero, List.set_cons_succ]
      refine held_take (i := 17) (v := ?_) rfl (by kernel_rfl) (by kernel_rfl) (by kernel_rfl) (fun _ _ _ h => h) (by rfl) (fun wq hSq => ?_) hHeld1 ?_
      rotate_left
      · (try dsimp only at hSq); go_simp; try with_reducible rfl
      simp only [Act.put, List.setIfInBounds_toArray, List.set_cons_zero, List.set_cons_succ]
      refine held_take (i := 18) (v := ?_) rfl (by kernel_rfl) (by kernel_rfl) (by kernel_rfl) (fun _ _ _ h => h) (by rfl) (fun wq hSq => ?_) hHeld1 ?_
      rotate_left
      · (try dsimp only at hSq); go_simp; try with_reducible rfl
      simp only [Act.put, List.setIfInBounds_toArray, List.set_cons_zero, List.set_cons_succ]
      refine held_take (i := 19) (v := ?_) rfl (by kernel_rfl) (by kernel_rfl) (by kernel_rfl) (fun _ _ _ h => h) (by rfl) (fun wq hSq => ?_) hHeld1 ?_
      rotate_left
      · (try dsimp only at hSq); go_simp; try with_reducible rfl
      simp only [Act.put, List.setIfInBounds_toArray, List.set_cons_zero, List.set_cons_succ]
      refine wpAnyH_done (by kernel_rfl) ?_ _
      clear hHeld1
      go_wp2_with fail
      go_ret2
      exact ⟨.inr ⟨(fun hbk => by unfold BackB at hbk; rw [HT.out, HR.out] at hbk; have h8 := hbk.2.2; cases h8), rfl⟩, HB9.out⟩
end Go.Proofs.YtgdfgppgfkkncaaGreatDoor
