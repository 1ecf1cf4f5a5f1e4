/- The walk of DecimalInts: it returns true, at any whole number of 64 bits and any decimal, over any world with the library's table of powers of ten and its error ErrRange. Printed by gen_intsl.py. -/
import Derived.Test.YtkakmjdfecbhaaaGreatDoorInt2
namespace Go.Proofs.YtkakmjdfecbhaaaGreatDoor
open Go.RowKit

theorem AllAt.drew {w : World} {l : List (Nat × Dec)} (h : AllAt w l) : AllAt w.drew l := fun p hp => (h p hp).drew
set_option maxHeartbeats 4000000 in
set_option maxRecDepth 100000 in
theorem ints_calls (w : World) (n : Int) (d : Dec) (h0 : -9223372036854775808 ≤ n) (h1 : n ≤ 9223372036854775807) (hld : d.digits.length ≤ maxLen) (ht : Tab w) (hv : RangeV w) :
    Calls Tryz.prog 5 #[.int .i64 n, .agg #[.bool d.neg, .string ⟨d.digits.toArray⟩, .int .i64 d.exp]] w fun e w' => e = .returned (.bool true) ∧ Below w.heap.size w w' := by
  have hr := DecsRaw.one (w.alloc (Obj.cells #[Value.bool d.neg, Value.string { data := d.digits.toArray }, Value.int IntKind.i64 d.exp] 24)) d hld
  have hbel0 : Below w.heap.size w (w.alloc (Obj.cells #[Value.bool d.neg, Value.string { data := d.digits.toArray }, Value.int IntKind.i64 d.exp] 24)) := (Below.refl _ _).alloc (Nat.le_refl _) _
  have hsz : (w.alloc (Obj.cells #[Value.bool d.neg, Value.string { data := d.digits.toArray }, Value.int IntKind.i64 d.exp] 24)).heap.size = w.heap.size + 1 := by simp
  rw [hsz] at hr
  have h2 : AllAt (w.alloc (Obj.cells #[Value.bool d.neg, Value.string { data := d.digits.toArray }, Value.int IntKind.i64 d.exp] 24)) [(w.heap.size, d)] := fun p hp => by simp only [List.mem_cons, List.not_mem_nil, or_false] at hp; subst hp; exact DecAt.at w d _ rfl
  have H0 := Lib.hid h2
  have Ht0 := Lib.hid (ht.below hbel0)
  have HL0 := Lib.hid (hv.below hbel0)
  have Hr := Lib.hid hr
  clear h2 hr hsz ht hv
  go_enter Tryz.func5, Tryz.ntmps5
  go_wp2_with fail
  have hr := Hr.out
  clear Hr
  generalize (w.alloc (Obj.cells #[Value.bool d.neg, Value.string { data := d.digits.toArray }, Value.int IntKind.i64 d.exp] 24)) = w1 at *
  refine (long_calls _ _ [d] hr).mono ?_
  rintro e w2 ⟨rfl, rfl⟩
  have hc1 : Below w1.heap.size w1 (w1.alloc (Obj.cells #[Value.bool d.neg, Value.string { data := d.digits.toArray }, Value.int IntKind.i64 d.exp] 24)) := (Below.refl _ _).alloc (Nat.le_refl _) _
  have H1 := Lib.hid (H0.out.under hc1)
  have Ht1 := Lib.hid (Ht0.out.below hc1)
  have HL1 := Lib.hid (HL0.out.below hc1)
  have hbel1 := hbel0.trans (hc1.mono hbel0.size)
  clear hc1 H0 Ht0 HL0 hbel0 hr
  generalize (w1.alloc (Obj.cells #[Value.bool d.neg, Value.string { data := d.digits.toArray }, Value.int IntKind.i64 d.exp] 24)) = w1 at *
  cases hL : longB [d] with
  | true =>
    clear hL
    clear HL1
    go_wp2_with fail
    refine (works_calls _ Ht1.out).mono ?_
    rintro e wz ⟨rfl, hbz⟩
    have hbf := hbel1.trans (hbz.mono hbel1.size)
    clear hbz H1 Ht1 hbel1 
    go_wp2_with fail
    go_ret
    exact ⟨rfl, hbf⟩
  | false =>
    have ld : d.digits.length ≤ 1000 := by simp [longB] at hL; omega
    clear hL hld
    go_wp2_with fail
    refine (fromInt_calls _ n h0 h1 Ht1.out).mono ?_
    rintro e w2 ⟨rfl, hb2⟩
    have hc2 := hb2
    have HL2 := Lib.hid (HL1.out.below hc2)
    have H2 := Lib.hid (H1.out.under hc2)
    have Ht2 := Lib.hid (Ht1.out.below hc2)
    have hbel2 := hbel1.trans (hc2.mono hbel1.size)
    clear hb2 hc2 H1 Ht1 hbel1 
    clear HL1
    obtain ⟨hb1, hb2, hb3, hb4⟩ := int_back h0 h1
    have hxi : intS n = (madeZ n 0).1 := congrArg Prod.fst hb1
    have Hfr : Hid (∀ W : World, Tab W → Calls Tryz.prog 24 #[.int .i64 n] W fun e w' => e = .returned (DecV (intS n)) ∧ Below W.heap.size W w') := fun W ht => fromIntR_calls W n h0 h1 ht
    rw [← hxi] at hb2 hb3 hb4
    have lx : (intS n).digits.length ≤ 100 := (may_bounds hb2).2.1
    have HB2 := Lib.hid hb2
    have HB3 := Lib.hid hb3
    have HB4 := Lib.hid hb4
    clear hb1 hb2 hb3 hb4 hxi
    generalize intS n = x at *
    simp only [DecV] at Hfr ⊢
    have HL3 := Lib.hid (HL2.out.below ((Below.refl _ _).alloc (Nat.le_refl _) (Obj.cells #[Value.bool x.neg, Value.string { data := x.digits.toArray }, Value.int IntKind.i64 x.exp] 24)))
    clear HL2
    have H3 := Lib.hid ((H2.out.alloc (Obj.cells #[Value.bool x.neg, Value.string { data := x.digits.toArray }, Value.int IntKind.i64 x.exp] 24)).push (DecAt.at w2 x _ rfl))
    have Ht3 := Lib.hid (Ht2.out.alloc (Obj.cells #[Value.bool x.neg, Value.string { data := x.digits.toArray }, Value.int IntKind.i64 x.exp] 24))
    have hbel3 := hbel2.alloc hbel2.size (Obj.cells #[Value.bool x.neg, Value.string { data := x.digits.toArray }, Value.int IntKind.i64 x.exp] 24)
    clear H2 Ht2 hbel2
    have kx0 : (w2.alloc (Obj.cells #[Value.bool x.neg, Value.string { data := x.digits.toArray }, Value.int IntKind.i64 x.exp] 24)).cell? ⟨w2.heap.size, 0, none⟩ = some (.bool x.neg) := (H3.out (w2.heap.size, x) (by simp)).c0
    have kx1 : (w2.alloc (Obj.cells #[Value.bool x.neg, Value.string { data := x.digits.toArray }, Value.int IntKind.i64 x.exp] 24)).cell? ⟨w2.heap.size, 1, none⟩ = some (.string ⟨x.digits.toArray⟩) := (H3.out (w2.heap.size, x) (by simp)).c1
    have kx2 : (w2.alloc (Obj.cells #[Value.bool x.neg, Value.string { data := x.digits.toArray }, Value.int IntKind.i64 x.exp] 24)).cell? ⟨w2.heap.size, 2, none⟩ = some (.int .i64 x.exp) := (H3.out (w2.heap.size, x) (by simp)).c2
    go_wp2_with fail
    refine (int_calls _ x (by omega) HL3.out).mono ?_
    rintro e w4 ⟨rfl, hb4⟩
    have hc4 := hb4
    have HL4 := Lib.hid (HL3.out.below hc4)
    have H4 := Lib.hid (H3.out.under hc4)
    have Ht4 := Lib.hid (Ht3.out.below hc4)
    have hbel4 := hbel3.trans (hc4.mono hbel3.size)
    clear hb4 hc4 H3 Ht3 hbel3 kx0 kx1 kx2
    clear HL3
    rw [HB4.out]
    dsimp only
    clear HB4
    have kd0 : w4.cell? ⟨w.heap.size, 0, none⟩ = some (.bool d.neg) := (H4.out (w.heap.size, d) (by simp)).c0
    have kd1 : w4.cell? ⟨w.heap.size, 1, none⟩ = some (.string ⟨d.digits.toArray⟩) := (H4.out (w.heap.size, d) (by simp)).c1
    have kd2 : w4.cell? ⟨w.heap.size, 2, none⟩ = some (.int .i64 d.exp) := (H4.out (w.heap.size, d) (by simp)).c2
    go_wp2_with fail
    refine (int_calls _ d (by omega) HL4.out).mono ?_
    rintro e w5 ⟨rfl, hb5⟩
    have hc5 := hb5
    have HL5 := Lib.hid (HL4.out.below hc5)
    have H5 := Lib.hid (H4.out.under hc5)
    have Ht5 := Lib.hid (Ht4.out.below hc5)
    have hbel5 := hbel4.trans (hc5.mono hbel4.size)
    clear hb5 hc5 H4 Ht4 hbel4 kd0 kd1 kd2
    clear HL4
    generalize hrd : intR d = rd at *
    have Hrd := Lib.hid hrd
    clear hrd
    obtain ⟨k, ok⟩ := rd
    dsimp only
    have kd0 : w5.cell? ⟨w.heap.size, 0, none⟩ = some (.bool d.neg) := (H5.out (w.heap.size, d) (by simp)).c0
    have kd1 : w5.cell? ⟨w.heap.size, 1, none⟩ = some (.string ⟨d.digits.toArray⟩) := (H5.out (w.heap.size, d) (by simp)).c1
    have kd2 : w5.cell? ⟨w.heap.size, 2, none⟩ = some (.int .i64 d.exp) := (H5.out (w.heap.size, d) (by simp)).c2
    go_wp2_with fail
    refine (intR_calls _ d (by omega)).mono ?_
    rintro e w6 ⟨rfl, hb6⟩
    have hc6 := hb6
    have HL6 := Lib.hid (HL5.out.below hc6)
    have H6 := Lib.hid (H5.out.under hc6)
    have Ht6 := Lib.hid (Ht5.out.below hc6)
    have hbel6 := hbel5.trans (hc6.mono hbel5.size)
    clear hb6 hc6 H5 Ht5 hbel5 kd0 kd1 kd2
    clear HL5
    rw [Hrd.out]
    dsimp only
    clear Hrd
    clear HL6
    go_upto_region 7 with fail
    have hS0 : (fun w' => w'.cell? ⟨w.heap.size, 0, none⟩ = some (.bool d.neg) ∧ w'.cell? ⟨w.heap.size, 1, none⟩ = some (.string ⟨d.digits.toArray⟩) ∧ w'.cell? ⟨w.heap.size, 2, none⟩ = some (.int .i64 d.exp) ∧ w'.cell? ⟨w2.heap.size, 0, none⟩ = some (.bool x.neg) ∧ w'.cell? ⟨w2.heap.size, 1, none⟩ = some (.string ⟨x.digits.toArray⟩) ∧ w'.cell? ⟨w2.heap.size, 2, none⟩ = some (.int .i64 x.exp)) w6.drew := ⟨(H6.out (w.heap.size, d) (by simp)).c0, (H6.out (w.heap.size, d) (by simp)).c1, (H6.out (w.heap.size, d) (by simp)).c2, (H6.out (w2.heap.size, x) (by simp)).c0, (H6.out (w2.heap.size, x) (by simp)).c1, (H6.out (w2.heap.size, x) (by simp)).c2⟩
    have heq := run_eql_dec x x
    rw [show sameB x x = true from (sameB_iff x x).2 rfl] at heq
    refine wp_region_held_drew (S := (fun w' => w'.cell? ⟨w.heap.size, 0, none⟩ = some (.bool d.neg) ∧ w'.cell? ⟨w.heap.size, 1, none⟩ = some (.string ⟨d.digits.toArray⟩) ∧ w'.cell? ⟨w.heap.size, 2, none⟩ = some (.int .i64 d.exp) ∧ w'.cell? ⟨w2.heap.size, 0, none⟩ = some (.bool x.neg) ∧ w'.cell? ⟨w2.heap.size, 1, none⟩ = some (.string ⟨x.digits.toArray⟩) ∧ w'.cell? ⟨w2.heap.size, 2, none⟩ = some (.int .i64 x.exp))) (by kernel_rfl) hS0 (fun hHeld0 => ?_)
    refine held_take (i := 0) (v := ?_) rfl (by kernel_rfl) (by kernel_rfl) (by kernel_rfl) (fun _ _ _ h => h) (by rfl) (fun wq hSq => ?_) hHeld0 ?_
    rotate_left
    · (try dsimp only at hSq); go_simp; try with_reducible rfl
    simp only [Act.put, List.setIfInBounds_toArray, List.set_cons_zero, List.set_cons_succ]
    refine held_take (i := 1) (v := ?_) rfl (by kernel_rfl) (by kernel_rfl) (by kernel_rfl) (fun _ _ _ h => h) (by rfl) (fun wq hSq => ?_) hHeld0 ?_
    rotate_left
    · (try dsimp only at hSq); go_simp; try with_reducible rfl
    simp only [Act.put, List.setIfInBounds_toArray, List.set_cons_zero, List.set_cons_succ]
    refine held_step (i := 2) (by kernel_rfl) rfl (by rfl) (fun K hK => ?_)
    go_simp
    refine (Hfr.out _ (Ht6.out.below (Below.refl _ _).drew)).mono ?_
    rintro e w7 ⟨rfl, hb7⟩
    dsimp only
    have H7 := Lib.hid (AllAt.under H6.out.drew hb7)
    have Ht7 := Lib.hid (Tab.below (Ht6.out.below (Below.refl _ _).drew) hb7)
    have hbel7 := hbel6.drew.trans (hb7.mono hbel6.size)
    clear hb7
    refine hK.out _ _ ⟨(H7.out (w.heap.size, d) (by simp)).c0, (H7.out (w.heap.size, d) (by simp)).c1, (H7.out (w.heap.size, d) (by simp)).c2, (H7.out (w2.heap.size, x) (by simp)).c0, (H7.out (w2.heap.size, x) (by simp)).c1, (H7.out (w2.heap.size, x) (by simp)).c2⟩ (fun hHeld1 => ?_)
    clear hK K hHeld0
    refine held_take (i := 3) (v := ?_) rfl (by kernel_rfl) (by kernel_rfl) (by kernel_rfl) (fun _ _ _ h => h) (by rfl) (fun wq hSq => ?_) hHeld1 ?_
    rotate_left
    · (try dsimp only at hSq); go_simp; try with_reducible rfl
    simp only [Act.put, List.setIfInBounds_toArray, List.set_cons_zero, List.set_cons_succ]
    refine held_take (i := 4) (v := ?_) rfl (by kernel_rfl) (by kernel_rfl) (by kernel_rfl) (fun _ _ _ h => h) (by rfl) (fun wq hSq => ?_) hHeld1 ?_
    rotate_left
    · (try dsimp only at hSq); go_simp; try with_reducible rfl
    simp only [Act.put, List.setIfInBounds_toArray, List.set_cons_zero, List.set_cons_succ]
    refine held_take (i := 5) (v := ?_) rfl (by kernel_rfl) (by kernel_rfl) (by kernel_rfl) (fun _ _ _ h => h) (by rfl) (fun wq hSq => ?_) hHeld1 ?_
    rotate_left
    · (try dsimp only at hSq); go_simp; try with_reducible rfl
    simp only [Act.put, List.setIfInBounds_toArray, List.set_cons_zero, List.set_cons_succ]
    refine held_take (i := 6) (v := ?_) rfl (by kernel_rfl) (by kernel_rfl) (by kernel_rfl) (fun _ _ _ h => h) (by rfl) (fun wq hSq => ?_) hHeld1 ?_
    rotate_left
    · (try dsimp only at hSq); go_simp; try with_reducible rfl
    simp only [Act.put, List.setIfInBounds_toArray, List.set_cons_zero, List.set_cons_succ]
    refine held_take (i := 7) (v := ?_) rfl (by kernel_rfl) (by kernel_rfl) (by kernel_rfl) (fun _ _ _ h => h) (by rfl) (fun wq hSq => ?_) hHeld1 ?_
    rotate_left
    · (try dsimp only at hSq); go_simp; try with_reducible rfl
    simp only [Act.put, List.setIfInBounds_toArray, List.set_cons_zero, List.set_cons_succ]
    refine held_take (i := 8) (v := ?_) rfl (by kernel_rfl) (by kernel_rfl) (by kernel_rfl) (fun _ _ _ h => h) (by rfl) (fun wq hSq => ?_) hHeld1 ?_
    rotate_left
    · (try dsimp only at hSq); go_simp; try with_reducible rfl
    simp only [Act.put, List.setIfInBounds_toArray, List.set_cons_zero, List.set_cons_succ]
    refine held_take (i := 9) (v := ?_) rfl (by kernel_rfl) (by kernel_rfl) (by kernel_rfl) (fun _ _ _ h => h) (by rfl) (fun wq hSq => ?_) hHeld1 ?_
    rotate_left
    · (try dsimp only at hSq); go_simp; try with_reducible rfl
    simp only [Act.put, List.setIfInBounds_toArray, List.set_cons_zero, List.set_cons_succ]
    refine held_take (i := 10) (v := ?_) rfl (by kernel_rfl) (by kernel_rfl) (by kernel_rfl) (fun _ _ _ h => h) (by rfl) (fun wq hSq => ?_) hHeld1 ?_
    rotate_left
    · (try dsimp only at hSq); go_simp; try with_reducible rfl
    simp only [Act.put, List.setIfInBounds_toArray, List.set_cons_zero, List.set_cons_succ]
    refine held_take (i := 11) (v := ?_) rfl (by kernel_rfl) (by kernel_rfl) (by kernel_rfl) (fun _ _ _ h => h) (by rfl) (fun wq hSq => ?_) hHeld1 ?_
    rotate_left
    · (try dsimp only at hSq); go_simp; try with_reducible rfl
    simp only [Act.put, List.setIfInBounds_toArray, List.set_cons_zero, List.set_cons_succ]
    refine held_take (i := 12) (v := ?_) rfl (by kernel_rfl) (by kernel_rfl) (by kernel_rfl) (fun _ _ _ h => h) (by rfl) (fun wq hSq => ?_) hHeld1 ?_
    rotate_left
    · (try dsimp only at hSq); go_simp; try with_reducible rfl
    simp only [Act.put, List.setIfInBounds_toArray, List.set_cons_zero, List.set_cons_succ]
    refine held_take (i := 13) (v := ?_) rfl (by kernel_rfl) (by kernel_rfl) (by kernel_rfl) (fun _ _ _ h => h) (by rfl) (fun wq hSq => ?_) hHeld1 ?_
    rotate_left
    · (try dsimp only at hSq); go_simp; try with_reducible rfl
    simp only [Act.put, List.setIfInBounds_toArray, List.set_cons_zero, List.set_cons_succ]
    refine held_take (i := 14) (v := ?_) rfl (by kernel_rfl) (by kernel_rfl) (by kernel_rfl) (fun _ _ _ h => h) (by rfl) (fun wq hSq => ?_) hHeld1 ?_
    rotate_left
    · (try dsimp only at hSq); go_simp; try with_reducible rfl
    simp only [Act.put, List.setIfInBounds_toArray, List.set_cons_zero, List.set_cons_succ]
    refine held_take (i := 15) (v := ?_) rfl (by kernel_rfl) (by kernel_rfl) (by kernel_rfl) (fun _ _ _ h => h) (by rfl) (fun wq hSq => ?_) hHeld1 ?_
    rotate_left
    · (try dsimp only at hSq); go_simp; try with_reducible rfl
    simp only [Act.put, List.setIfInBounds_toArray, List.set_cons_zero, List.set_cons_succ]
    refine held_take (i := 16) (v := ?_) rfl (by kernel_rfl) (by kernel_rfl) (by kernel_rfl) (fun _ _ _ h => h) (by rfl) (fun wq hSq => ?_) hHeld1 ?_
    rotate_left
    · (try dsimp only at hSq); go_simp; try with_reducible rfl
    simp only [Act.put, List.setIfInBounds_toArray, List.set_cons_zero, List.set_cons_succ]
    refine held_take (i := 17) (v := ?_) rfl (by kernel_rfl) (by kernel_rfl) (by kernel_rfl) (fun _ _ _ h => h) (by rfl) (fun wq hSq => ?_) hHeld1 ?_
    rotate_left
    · (try dsimp only at hSq); go_simp; try with_reducible rfl
    simp only [Act.put, List.setIfInBounds_toArray, List.set_cons_zero, List.set_cons_succ]
    refine held_take (i := 18) (v := ?_) rfl (by kernel_rfl) (by kernel_rfl) (by kernel_rfl) (fun _ _ _ h => h) (by rfl) (fun wq hSq => ?_) hHeld1 ?_
    rotate_left
    · (try dsimp only at hSq); go_simp; try with_reducible rfl
    simp only [Act.put, List.setIfInBounds_toArray, List.set_cons_zero, List.set_cons_succ]
    refine held_take (i := 19) (v := ?_) rfl (by kernel_rfl) (by kernel_rfl) (by kernel_rfl) (fun _ _ _ h => h) (by rfl) (fun wq hSq => ?_) hHeld1 ?_
    rotate_left
    · (try dsimp only at hSq); go_simp; try with_reducible rfl
    simp only [Act.put, List.setIfInBounds_toArray, List.set_cons_zero, List.set_cons_succ]
    refine held_take (i := 20) (v := ?_) rfl (by kernel_rfl) (by kernel_rfl) (by kernel_rfl) (fun _ _ _ h => h) (by rfl) (fun wq hSq => ?_) hHeld1 ?_
    rotate_left
    · (try dsimp only at hSq); go_simp; try with_reducible rfl
    simp only [Act.put, List.setIfInBounds_toArray, List.set_cons_zero, List.set_cons_succ]
    refine held_take (i := 21) (v := ?_) rfl (by kernel_rfl) (by kernel_rfl) (by kernel_rfl) (fun _ _ _ h => h) (by rfl) (fun wq hSq => ?_) hHeld1 ?_
    rotate_left
    · (try dsimp only at hSq); go_simp; try with_reducible rfl
    simp only [Act.put, List.setIfInBounds_toArray, List.set_cons_zero, List.set_cons_succ]
    refine held_take (i := 22) (v := ?_) rfl (by kernel_rfl) (by kernel_rfl) (by kernel_rfl) (fun _ _ _ h => h) (by rfl) (fun wq hSq => ?_) hHeld1 ?_
    rotate_left
    · (try dsimp only at hSq); go_simp; try with_reducible rfl
    simp only [Act.put, List.setIfInBounds_toArray, List.set_cons_zero, List.set_cons_succ]
    clear heq Hfr
    cases hm : mayB d with
    | false =>
      have Hw : Hid ((mayB d && decide (0 ≤ d.exp)) = false) := by show (mayB d && decide (0 ≤ d.exp)) = false; rw [hm]; rfl
      have Hm := Lib.hid hm
      clear hm
      have Hwx : Hid ((mayB x && decide (0 ≤ x.exp)) = true) := by show (mayB x && decide (0 ≤ x.exp)) = true; rw [HB2.out, decide_eq_true HB3.out]; rfl
      refine held_take (i := 23) (v := ?_) rfl (by kernel_rfl) (by kernel_rfl) (by kernel_rfl) (fun _ _ _ h => h) (by rfl) (fun wq hSq => ?_) hHeld1 ?_
      rotate_left
      · (try dsimp only at hSq); go_simp; try with_reducible rfl
      simp only [Act.put, List.setIfInBounds_toArray, List.set_cons_zero, List.set_cons_succ]
      refine held_take (i := 25) (v := ?_) rfl (by kernel_rfl) (by kernel_rfl) (by kernel_rfl) (fun _ _ _ h => h) (by rfl) (fun wq hSq => ?_) hHeld1 ?_
      rotate_left
      · (try dsimp only at hSq); go_simp; try with_reducible rfl
      simp only [Act.put, List.setIfInBounds_toArray, List.set_cons_zero, List.set_cons_succ]
      refine held_step (i := 24) (by kernel_rfl) rfl (by rfl) (fun K hK => ?_)
      go_simp
      refine (whole_calls _ d (by omega)).mono ?_
      rintro e w8 ⟨rfl, hb8⟩
      dsimp only
      rw [Hw.out]
      have H8 := Lib.hid (AllAt.under H7.out hb8)
      have Ht8 := Lib.hid (Tab.below Ht7.out hb8)
      have hbel8 := hbel7.trans (hb8.mono hbel7.size)
      clear hb8
      refine hK.out _ _ ⟨(H8.out (w.heap.size, d) (by simp)).c0, (H8.out (w.heap.size, d) (by simp)).c1, (H8.out (w.heap.size, d) (by simp)).c2, (H8.out (w2.heap.size, x) (by simp)).c0, (H8.out (w2.heap.size, x) (by simp)).c1, (H8.out (w2.heap.size, x) (by simp)).c2⟩ (fun hHeld2 => ?_)
      clear hK K hHeld1
      refine held_step (i := 26) (by kernel_rfl) rfl (by rfl) (fun K hK => ?_)
      go_simp
      refine (mayR_calls _ d (by omega)).mono ?_
      rintro e w9 ⟨rfl, hb9⟩
      dsimp only
      rw [Hm.out]
      have H9 := Lib.hid (AllAt.under H8.out hb9)
      have Ht9 := Lib.hid (Tab.below Ht8.out hb9)
      have hbel9 := hbel8.trans (hb9.mono hbel8.size)
      clear hb9
      refine hK.out _ _ ⟨(H9.out (w.heap.size, d) (by simp)).c0, (H9.out (w.heap.size, d) (by simp)).c1, (H9.out (w.heap.size, d) (by simp)).c2, (H9.out (w2.heap.size, x) (by simp)).c0, (H9.out (w2.heap.size, x) (by simp)).c1, (H9.out (w2.heap.size, x) (by simp)).c2⟩ (fun hHeld3 => ?_)
      clear hK K hHeld2
      refine held_take (i := 27) (v := ?_) rfl (by kernel_rfl) (by kernel_rfl) (by kernel_rfl) (fun _ _ _ h => h) (by rfl) (fun wq hSq => ?_) hHeld3 ?_
      rotate_left
      · (try dsimp only at hSq); go_simp; try with_reducible rfl
      simp only [Act.put, List.setIfInBounds_toArray, List.set_cons_zero, List.set_cons_succ]
      refine held_skip (i := 28) rfl (by kernel_rfl) (by kernel_rfl) (by kernel_rfl) (fun _ _ _ h => h) (by rfl) hHeld3 ?_
      simp only [Act.put, List.setIfInBounds_toArray, List.set_cons_zero, List.set_cons_succ]
      refine held_skip (i := 29) rfl (by kernel_rfl) (by kernel_rfl) (by kernel_rfl) (fun _ _ _ h => h) (by rfl) hHeld3 ?_
      simp only [Act.put, List.setIfInBounds_toArray, List.set_cons_zero, List.set_cons_succ]
      refine held_skip (i := 30) rfl (by kernel_rfl) (by kernel_rfl) (by kernel_rfl) (fun _ _ _ h => h) (by rfl) hHeld3 ?_
      simp only [Act.put, List.setIfInBounds_toArray, List.set_cons_zero, List.set_cons_succ]
      refine held_take (i := 31) (v := ?_) rfl (by kernel_rfl) (by kernel_rfl) (by kernel_rfl) (fun _ _ _ h => h) (by rfl) (fun wq hSq => ?_) hHeld3 ?_
      rotate_left
      · (try dsimp only at hSq); go_simp; try with_reducible rfl
      simp only [Act.put, List.setIfInBounds_toArray, List.set_cons_zero, List.set_cons_succ]
      refine held_take (i := 32) (v := ?_) rfl (by kernel_rfl) (by kernel_rfl) (by kernel_rfl) (fun _ _ _ h => h) (by rfl) (fun wq hSq => ?_) hHeld3 ?_
      rotate_left
      · (try dsimp only at hSq); go_simp; try with_reducible rfl
      simp only [Act.put, List.setIfInBounds_toArray, List.set_cons_zero, List.set_cons_succ]
      refine held_take (i := 33) (v := ?_) rfl (by kernel_rfl) (by kernel_rfl) (by kernel_rfl) (fun _ _ _ h => h) (by rfl) (fun wq hSq => ?_) hHeld3 ?_
      rotate_left
      · (try dsimp only at hSq); go_simp; try with_reducible rfl
      simp only [Act.put, List.setIfInBounds_toArray, List.set_cons_zero, List.set_cons_succ]
      refine held_take (i := 34) (v := ?_) rfl (by kernel_rfl) (by kernel_rfl) (by kernel_rfl) (fun _ _ _ h => h) (by rfl) (fun wq hSq => ?_) hHeld3 ?_
      rotate_left
      · (try dsimp only at hSq); go_simp; try with_reducible rfl
      simp only [Act.put, List.setIfInBounds_toArray, List.set_cons_zero, List.set_cons_succ]
      refine held_take (i := 35) (v := ?_) rfl (by kernel_rfl) (by kernel_rfl) (by kernel_rfl) (fun _ _ _ h => h) (by rfl) (fun wq hSq => ?_) hHeld3 ?_
      rotate_left
      · (try dsimp only at hSq); go_simp; try with_reducible rfl
      simp only [Act.put, List.setIfInBounds_toArray, List.set_cons_zero, List.set_cons_succ]
      refine held_step (i := 36) (by kernel_rfl) rfl (by rfl) (fun K hK => ?_)
      go_simp
      refine (whole_calls _ x (by omega)).mono ?_
      rintro e w10 ⟨rfl, hb10⟩
      dsimp only
      rw [Hwx.out]
      have H10 := Lib.hid (AllAt.under H9.out hb10)
      have Ht10 := Lib.hid (Tab.below Ht9.out hb10)
      have hbel10 := hbel9.trans (hb10.mono hbel9.size)
      clear hb10
      refine hK.out _ _ ⟨(H10.out (w.heap.size, d) (by simp)).c0, (H10.out (w.heap.size, d) (by simp)).c1, (H10.out (w.heap.size, d) (by simp)).c2, (H10.out (w2.heap.size, x) (by simp)).c0, (H10.out (w2.heap.size, x) (by simp)).c1, (H10.out (w2.heap.size, x) (by simp)).c2⟩ (fun hHeld4 => ?_)
      clear hK K hHeld3
      refine held_take (i := 37) (v := ?_) rfl (by kernel_rfl) (by kernel_rfl) (by kernel_rfl) (fun _ _ _ h => h) (by rfl) (fun wq hSq => ?_) hHeld4 ?_
      rotate_left
      · (try dsimp only at hSq); go_simp; try with_reducible rfl
      simp only [Act.put, List.setIfInBounds_toArray, List.set_cons_zero, List.set_cons_succ]
      refine held_take (i := 38) (v := ?_) rfl (by kernel_rfl) (by kernel_rfl) (by kernel_rfl) (fun _ _ _ h => h) (by rfl) (fun wq hSq => ?_) hHeld4 ?_
      rotate_left
      · (try dsimp only at hSq); go_simp; try with_reducible rfl
      simp only [Act.put, List.setIfInBounds_toArray, List.set_cons_zero, List.set_cons_succ]
      refine held_step (i := 39) (by kernel_rfl) rfl (by rfl) (fun K hK => ?_)
      go_simp
      refine (works_calls _ Ht10.out).mono ?_
      rintro e w11 ⟨rfl, hb11⟩
      dsimp only
      have H11 := Lib.hid (AllAt.under H10.out hb11)
      have Ht11 := Lib.hid (Tab.below Ht10.out hb11)
      have hbel11 := hbel10.trans (hb11.mono hbel10.size)
      clear hb11
      refine hK.out _ _ ⟨(H11.out (w.heap.size, d) (by simp)).c0, (H11.out (w.heap.size, d) (by simp)).c1, (H11.out (w.heap.size, d) (by simp)).c2, (H11.out (w2.heap.size, x) (by simp)).c0, (H11.out (w2.heap.size, x) (by simp)).c1, (H11.out (w2.heap.size, x) (by simp)).c2⟩ (fun hHeld5 => ?_)
      clear hK K hHeld4
      refine held_take (i := 40) (v := ?_) rfl (by kernel_rfl) (by kernel_rfl) (by kernel_rfl) (fun _ _ _ h => h) (by rfl) (fun wq hSq => ?_) hHeld5 ?_
      rotate_left
      · (try dsimp only at hSq); go_simp; try with_reducible rfl
      simp only [Act.put, List.setIfInBounds_toArray, List.set_cons_zero, List.set_cons_succ]
      refine held_take (i := 41) (v := ?_) rfl (by kernel_rfl) (by kernel_rfl) (by kernel_rfl) (fun _ _ _ h => h) (by rfl) (fun wq hSq => ?_) hHeld5 ?_
      rotate_left
      · (try dsimp only at hSq); go_simp; try with_reducible rfl
      simp only [Act.put, List.setIfInBounds_toArray, List.set_cons_zero, List.set_cons_succ]
      refine wpAnyH_done (by kernel_rfl) ?_ _
      clear hHeld5
      go_wp2_with fail
      go_ret
      exact ⟨rfl, hbel11⟩
    | true =>
      by_cases hge : 0 ≤ d.exp
      ·
        have Hw : Hid ((mayB d && decide (0 ≤ d.exp)) = true) := by show (mayB d && decide (0 ≤ d.exp)) = true; rw [hm, decide_eq_true hge]; rfl
        have Hm := Lib.hid hm
        clear hm
        have Hwx : Hid ((mayB x && decide (0 ≤ x.exp)) = true) := by show (mayB x && decide (0 ≤ x.exp)) = true; rw [HB2.out, decide_eq_true HB3.out]; rfl
        refine held_take (i := 23) (v := ?_) rfl (by kernel_rfl) (by kernel_rfl) (by kernel_rfl) (fun _ _ _ h => h) (by rfl) (fun wq hSq => ?_) hHeld1 ?_
        rotate_left
        · (try dsimp only at hSq); go_simp; try with_reducible rfl
        simp only [Act.put, List.setIfInBounds_toArray, List.set_cons_zero, List.set_cons_succ]
        refine held_take (i := 25) (v := ?_) rfl (by kernel_rfl) (by kernel_rfl) (by kernel_rfl) (fun _ _ _ h => h) (by rfl) (fun wq hSq => ?_) hHeld1 ?_
        rotate_left
        · (try dsimp only at hSq); go_simp; try with_reducible rfl
        simp only [Act.put, List.setIfInBounds_toArray, List.set_cons_zero, List.set_cons_succ]
        refine held_step (i := 24) (by kernel_rfl) rfl (by rfl) (fun K hK => ?_)
        go_simp
        refine (whole_calls _ d (by omega)).mono ?_
        rintro e w8 ⟨rfl, hb8⟩
        dsimp only
        rw [Hw.out]
        have H8 := Lib.hid (AllAt.under H7.out hb8)
        have Ht8 := Lib.hid (Tab.below Ht7.out hb8)
        have hbel8 := hbel7.trans (hb8.mono hbel7.size)
        clear hb8
        refine hK.out _ _ ⟨(H8.out (w.heap.size, d) (by simp)).c0, (H8.out (w.heap.size, d) (by simp)).c1, (H8.out (w.heap.size, d) (by simp)).c2, (H8.out (w2.heap.size, x) (by simp)).c0, (H8.out (w2.heap.size, x) (by simp)).c1, (H8.out (w2.heap.size, x) (by simp)).c2⟩ (fun hHeld2 => ?_)
        clear hK K hHeld1
        refine held_step (i := 26) (by kernel_rfl) rfl (by rfl) (fun K hK => ?_)
        go_simp
        refine (mayR_calls _ d (by omega)).mono ?_
        rintro e w9 ⟨rfl, hb9⟩
        dsimp only
        rw [Hm.out]
        have H9 := Lib.hid (AllAt.under H8.out hb9)
        have Ht9 := Lib.hid (Tab.below Ht8.out hb9)
        have hbel9 := hbel8.trans (hb9.mono hbel8.size)
        clear hb9
        refine hK.out _ _ ⟨(H9.out (w.heap.size, d) (by simp)).c0, (H9.out (w.heap.size, d) (by simp)).c1, (H9.out (w.heap.size, d) (by simp)).c2, (H9.out (w2.heap.size, x) (by simp)).c0, (H9.out (w2.heap.size, x) (by simp)).c1, (H9.out (w2.heap.size, x) (by simp)).c2⟩ (fun hHeld3 => ?_)
        clear hK K hHeld2
        refine held_take (i := 27) (v := ?_) rfl (by kernel_rfl) (by kernel_rfl) (by kernel_rfl) (fun _ _ _ h => h) (by rfl) (fun wq hSq => ?_) hHeld3 ?_
        rotate_left
        · (try dsimp only at hSq); go_simp; try with_reducible rfl
        simp only [Act.put, List.setIfInBounds_toArray, List.set_cons_zero, List.set_cons_succ]
        refine held_take (i := 28) (v := ?_) rfl (by kernel_rfl) (by kernel_rfl) (by kernel_rfl) (fun _ _ _ h => h) (by rfl) (fun wq hSq => ?_) hHeld3 ?_
        rotate_left
        · (try dsimp only at hSq); go_simp; try with_reducible rfl
        simp only [Act.put, List.setIfInBounds_toArray, List.set_cons_zero, List.set_cons_succ]
        refine held_take (i := 29) (v := ?_) rfl (by kernel_rfl) (by kernel_rfl) (by kernel_rfl) (fun _ _ _ h => h) (by rfl) (fun wq hSq => ?_) hHeld3 ?_
        rotate_left
        · (try dsimp only at hSq); go_simp; try with_reducible rfl
        simp only [Act.put, List.setIfInBounds_toArray, List.set_cons_zero, List.set_cons_succ]
        refine held_take (i := 30) (v := ?_) rfl (by kernel_rfl) (by kernel_rfl) (by kernel_rfl) (fun _ _ _ h => h) (by rfl) (fun wq hSq => ?_) hHeld3 ?_
        rotate_left
        · (try dsimp only at hSq); go_simp; try with_reducible rfl
        simp only [Act.put, List.setIfInBounds_toArray, List.set_cons_zero, List.set_cons_succ]
        refine held_take (i := 31) (v := ?_) rfl (by kernel_rfl) (by kernel_rfl) (by kernel_rfl) (fun _ _ _ h => h) (by rfl) (fun wq hSq => ?_) hHeld3 ?_
        rotate_left
        · (try dsimp only at hSq); go_simp; try with_reducible rfl
        simp only [Act.put, List.setIfInBounds_toArray, List.set_cons_zero, List.set_cons_succ]
        refine held_take (i := 32) (v := ?_) rfl (by kernel_rfl) (by kernel_rfl) (by kernel_rfl) (fun _ _ _ h => h) (by rfl) (fun wq hSq => ?_) hHeld3 ?_
        rotate_left
        · (try dsimp only at hSq); go_simp; try with_reducible rfl
        simp only [Act.put, List.setIfInBounds_toArray, List.set_cons_zero, List.set_cons_succ]
        refine held_take (i := 33) (v := ?_) rfl (by kernel_rfl) (by kernel_rfl) (by kernel_rfl) (fun _ _ _ h => h) (by rfl) (fun wq hSq => ?_) hHeld3 ?_
        rotate_left
        · (try dsimp only at hSq); go_simp; try with_reducible rfl
        simp only [Act.put, List.setIfInBounds_toArray, List.set_cons_zero, List.set_cons_succ]
        refine held_take (i := 34) (v := ?_) rfl (by kernel_rfl) (by kernel_rfl) (by kernel_rfl) (fun _ _ _ h => h) (by rfl) (fun wq hSq => ?_) hHeld3 ?_
        rotate_left
        · (try dsimp only at hSq); go_simp; try with_reducible rfl
        simp only [Act.put, List.setIfInBounds_toArray, List.set_cons_zero, List.set_cons_succ]
        refine held_take (i := 35) (v := ?_) rfl (by kernel_rfl) (by kernel_rfl) (by kernel_rfl) (fun _ _ _ h => h) (by rfl) (fun wq hSq => ?_) hHeld3 ?_
        rotate_left
        · (try dsimp only at hSq); go_simp; try with_reducible rfl
        simp only [Act.put, List.setIfInBounds_toArray, List.set_cons_zero, List.set_cons_succ]
        refine held_step (i := 36) (by kernel_rfl) rfl (by rfl) (fun K hK => ?_)
        go_simp
        refine (whole_calls _ x (by omega)).mono ?_
        rintro e w10 ⟨rfl, hb10⟩
        dsimp only
        rw [Hwx.out]
        have H10 := Lib.hid (AllAt.under H9.out hb10)
        have Ht10 := Lib.hid (Tab.below Ht9.out hb10)
        have hbel10 := hbel9.trans (hb10.mono hbel9.size)
        clear hb10
        refine hK.out _ _ ⟨(H10.out (w.heap.size, d) (by simp)).c0, (H10.out (w.heap.size, d) (by simp)).c1, (H10.out (w.heap.size, d) (by simp)).c2, (H10.out (w2.heap.size, x) (by simp)).c0, (H10.out (w2.heap.size, x) (by simp)).c1, (H10.out (w2.heap.size, x) (by simp)).c2⟩ (fun hHeld4 => ?_)
        clear hK K hHeld3
        refine held_take (i := 37) (v := ?_) rfl (by kernel_rfl) (by kernel_rfl) (by kernel_rfl) (fun _ _ _ h => h) (by rfl) (fun wq hSq => ?_) hHeld4 ?_
        rotate_left
        · (try dsimp only at hSq); go_simp; try with_reducible rfl
        simp only [Act.put, List.setIfInBounds_toArray, List.set_cons_zero, List.set_cons_succ]
        refine held_take (i := 38) (v := ?_) rfl (by kernel_rfl) (by kernel_rfl) (by kernel_rfl) (fun _ _ _ h => h) (by rfl) (fun wq hSq => ?_) hHeld4 ?_
        rotate_left
        · (try dsimp only at hSq); go_simp; try with_reducible rfl
        simp only [Act.put, List.setIfInBounds_toArray, List.set_cons_zero, List.set_cons_succ]
        refine held_step (i := 39) (by kernel_rfl) rfl (by rfl) (fun K hK => ?_)
        go_simp
        refine (works_calls _ Ht10.out).mono ?_
        rintro e w11 ⟨rfl, hb11⟩
        dsimp only
        have H11 := Lib.hid (AllAt.under H10.out hb11)
        have Ht11 := Lib.hid (Tab.below Ht10.out hb11)
        have hbel11 := hbel10.trans (hb11.mono hbel10.size)
        clear hb11
        refine hK.out _ _ ⟨(H11.out (w.heap.size, d) (by simp)).c0, (H11.out (w.heap.size, d) (by simp)).c1, (H11.out (w.heap.size, d) (by simp)).c2, (H11.out (w2.heap.size, x) (by simp)).c0, (H11.out (w2.heap.size, x) (by simp)).c1, (H11.out (w2.heap.size, x) (by simp)).c2⟩ (fun hHeld5 => ?_)
        clear hK K hHeld4
        refine held_take (i := 40) (v := ?_) rfl (by kernel_rfl) (by kernel_rfl) (by kernel_rfl) (fun _ _ _ h => h) (by rfl) (fun wq hSq => ?_) hHeld5 ?_
        rotate_left
        · (try dsimp only at hSq); go_simp; try with_reducible rfl
        simp only [Act.put, List.setIfInBounds_toArray, List.set_cons_zero, List.set_cons_succ]
        refine held_take (i := 41) (v := ?_) rfl (by kernel_rfl) (by kernel_rfl) (by kernel_rfl) (fun _ _ _ h => h) (by rfl) (fun wq hSq => ?_) hHeld5 ?_
        rotate_left
        · (try dsimp only at hSq); go_simp; try with_reducible rfl
        simp only [Act.put, List.setIfInBounds_toArray, List.set_cons_zero, List.set_cons_succ]
        refine wpAnyH_done (by kernel_rfl) ?_ _
        clear hHeld5
        go_wp2_with fail
        go_ret
        exact ⟨rfl, hbel11⟩
      ·
        have hge2 : d.exp < 0 := by omega
        have Hw : Hid ((mayB d && decide (0 ≤ d.exp)) = false) := by show (mayB d && decide (0 ≤ d.exp)) = false; rw [hm, decide_eq_false hge]; rfl
        have Hm := Lib.hid hm
        clear hm
        have Hwx : Hid ((mayB x && decide (0 ≤ x.exp)) = true) := by show (mayB x && decide (0 ≤ x.exp)) = true; rw [HB2.out, decide_eq_true HB3.out]; rfl
        refine held_take (i := 23) (v := ?_) rfl (by kernel_rfl) (by kernel_rfl) (by kernel_rfl) (fun _ _ _ h => h) (by rfl) (fun wq hSq => ?_) hHeld1 ?_
        rotate_left
        · (try dsimp only at hSq); go_simp; try with_reducible rfl
        simp only [Act.put, List.setIfInBounds_toArray, List.set_cons_zero, List.set_cons_succ]
        refine held_take (i := 25) (v := ?_) rfl (by kernel_rfl) (by kernel_rfl) (by kernel_rfl) (fun _ _ _ h => h) (by rfl) (fun wq hSq => ?_) hHeld1 ?_
        rotate_left
        · (try dsimp only at hSq); go_simp; try with_reducible rfl
        simp only [Act.put, List.setIfInBounds_toArray, List.set_cons_zero, List.set_cons_succ]
        refine held_step (i := 24) (by kernel_rfl) rfl (by rfl) (fun K hK => ?_)
        go_simp
        refine (whole_calls _ d (by omega)).mono ?_
        rintro e w8 ⟨rfl, hb8⟩
        dsimp only
        rw [Hw.out]
        have H8 := Lib.hid (AllAt.under H7.out hb8)
        have Ht8 := Lib.hid (Tab.below Ht7.out hb8)
        have hbel8 := hbel7.trans (hb8.mono hbel7.size)
        clear hb8
        refine hK.out _ _ ⟨(H8.out (w.heap.size, d) (by simp)).c0, (H8.out (w.heap.size, d) (by simp)).c1, (H8.out (w.heap.size, d) (by simp)).c2, (H8.out (w2.heap.size, x) (by simp)).c0, (H8.out (w2.heap.size, x) (by simp)).c1, (H8.out (w2.heap.size, x) (by simp)).c2⟩ (fun hHeld2 => ?_)
        clear hK K hHeld1
        refine held_step (i := 26) (by kernel_rfl) rfl (by rfl) (fun K hK => ?_)
        go_simp
        refine (mayR_calls _ d (by omega)).mono ?_
        rintro e w9 ⟨rfl, hb9⟩
        dsimp only
        rw [Hm.out]
        have H9 := Lib.hid (AllAt.under H8.out hb9)
        have Ht9 := Lib.hid (Tab.below Ht8.out hb9)
        have hbel9 := hbel8.trans (hb9.mono hbel8.size)
        clear hb9
        refine hK.out _ _ ⟨(H9.out (w.heap.size, d) (by simp)).c0, (H9.out (w.heap.size, d) (by simp)).c1, (H9.out (w.heap.size, d) (by simp)).c2, (H9.out (w2.heap.size, x) (by simp)).c0, (H9.out (w2.heap.size, x) (by simp)).c1, (H9.out (w2.heap.size, x) (by simp)).c2⟩ (fun hHeld3 => ?_)
        clear hK K hHeld2
        refine held_take (i := 27) (v := ?_) rfl (by kernel_rfl) (by kernel_rfl) (by kernel_rfl) (fun _ _ _ h => h) (by rfl) (fun wq hSq => ?_) hHeld3 ?_
        rotate_left
        · (try dsimp only at hSq); go_simp; try with_reducible rfl
        simp only [Act.put, List.setIfInBounds_toArray, List.set_cons_zero, List.set_cons_succ]
        refine held_take (i := 28) (v := ?_) rfl (by kernel_rfl) (by kernel_rfl) (by kernel_rfl) (fun _ _ _ h => h) (by rfl) (fun wq hSq => ?_) hHeld3 ?_
        rotate_left
        · (try dsimp only at hSq); go_simp; try with_reducible rfl
        simp only [Act.put, List.setIfInBounds_toArray, List.set_cons_zero, List.set_cons_succ]
        refine held_take (i := 29) (v := ?_) rfl (by kernel_rfl) (by kernel_rfl) (by kernel_rfl) (fun _ _ _ h => h) (by rfl) (fun wq hSq => ?_) hHeld3 ?_
        rotate_left
        · (try dsimp only at hSq); go_simp; try with_reducible rfl
        simp only [Act.put, List.setIfInBounds_toArray, List.set_cons_zero, List.set_cons_succ]
        refine held_take (i := 30) (v := ?_) rfl (by kernel_rfl) (by kernel_rfl) (by kernel_rfl) (fun _ _ _ h => h) (by rfl) (fun wq hSq => ?_) hHeld3 ?_
        rotate_left
        · (try dsimp only at hSq); go_simp; try with_reducible rfl
        simp only [Act.put, List.setIfInBounds_toArray, List.set_cons_zero, List.set_cons_succ]
        refine held_take (i := 31) (v := ?_) rfl (by kernel_rfl) (by kernel_rfl) (by kernel_rfl) (fun _ _ _ h => h) (by rfl) (fun wq hSq => ?_) hHeld3 ?_
        rotate_left
        · (try dsimp only at hSq); go_simp; try with_reducible rfl
        simp only [Act.put, List.setIfInBounds_toArray, List.set_cons_zero, List.set_cons_succ]
        refine held_take (i := 32) (v := ?_) rfl (by kernel_rfl) (by kernel_rfl) (by kernel_rfl) (fun _ _ _ h => h) (by rfl) (fun wq hSq => ?_) hHeld3 ?_
        rotate_left
        · (try dsimp only at hSq); go_simp; try with_reducible rfl
        simp only [Act.put, List.setIfInBounds_toArray, List.set_cons_zero, List.set_cons_succ]
        refine held_take (i := 33) (v := ?_) rfl (by kernel_rfl) (by kernel_rfl) (by kernel_rfl) (fun _ _ _ h => h) (by rfl) (fun wq hSq => ?_) hHeld3 ?_
        rotate_left
        · (try dsimp only at hSq); go_simp; try with_reducible rfl
        simp only [Act.put, List.setIfInBounds_toArray, List.set_cons_zero, List.set_cons_succ]
        refine held_take (i := 34) (v := ?_) rfl (by kernel_rfl) (by kernel_rfl) (by kernel_rfl) (fun _ _ _ h => h) (by rfl) (fun wq hSq => ?_) hHeld3 ?_
        rotate_left
        · (try dsimp only at hSq); go_simp; try with_reducible rfl
        simp only [Act.put, List.setIfInBounds_toArray, List.set_cons_zero, List.set_cons_succ]
        refine held_take (i := 35) (v := ?_) rfl (by kernel_rfl) (by kernel_rfl) (by kernel_rfl) (fun _ _ _ h => h) (by rfl) (fun wq hSq => ?_) hHeld3 ?_
        rotate_left
        · (try dsimp only at hSq); go_simp; try with_reducible rfl
        simp only [Act.put, List.setIfInBounds_toArray, List.set_cons_zero, List.set_cons_succ]
        refine held_step (i := 36) (by kernel_rfl) rfl (by rfl) (fun K hK => ?_)
        go_simp
        refine (whole_calls _ x (by omega)).mono ?_
        rintro e w10 ⟨rfl, hb10⟩
        dsimp only
        rw [Hwx.out]
        have H10 := Lib.hid (AllAt.under H9.out hb10)
        have Ht10 := Lib.hid (Tab.below Ht9.out hb10)
        have hbel10 := hbel9.trans (hb10.mono hbel9.size)
        clear hb10
        refine hK.out _ _ ⟨(H10.out (w.heap.size, d) (by simp)).c0, (H10.out (w.heap.size, d) (by simp)).c1, (H10.out (w.heap.size, d) (by simp)).c2, (H10.out (w2.heap.size, x) (by simp)).c0, (H10.out (w2.heap.size, x) (by simp)).c1, (H10.out (w2.heap.size, x) (by simp)).c2⟩ (fun hHeld4 => ?_)
        clear hK K hHeld3
        refine held_take (i := 37) (v := ?_) rfl (by kernel_rfl) (by kernel_rfl) (by kernel_rfl) (fun _ _ _ h => h) (by rfl) (fun wq hSq => ?_) hHeld4 ?_
        rotate_left
        · (try dsimp only at hSq); go_simp; try with_reducible rfl
        simp only [Act.put, List.setIfInBounds_toArray, List.set_cons_zero, List.set_cons_succ]
        refine held_take (i := 38) (v := ?_) rfl (by kernel_rfl) (by kernel_rfl) (by kernel_rfl) (fun _ _ _ h => h) (by rfl) (fun wq hSq => ?_) hHeld4 ?_
        rotate_left
        · (try dsimp only at hSq); go_simp; try with_reducible rfl
        simp only [Act.put, List.setIfInBounds_toArray, List.set_cons_zero, List.set_cons_succ]
        refine held_step (i := 39) (by kernel_rfl) rfl (by rfl) (fun K hK => ?_)
        go_simp
        refine (works_calls _ Ht10.out).mono ?_
        rintro e w11 ⟨rfl, hb11⟩
        dsimp only
        have H11 := Lib.hid (AllAt.under H10.out hb11)
        have Ht11 := Lib.hid (Tab.below Ht10.out hb11)
        have hbel11 := hbel10.trans (hb11.mono hbel10.size)
        clear hb11
        refine hK.out _ _ ⟨(H11.out (w.heap.size, d) (by simp)).c0, (H11.out (w.heap.size, d) (by simp)).c1, (H11.out (w.heap.size, d) (by simp)).c2, (H11.out (w2.heap.size, x) (by simp)).c0, (H11.out (w2.heap.size, x) (by simp)).c1, (H11.out (w2.heap.size, x) (by simp)).c2⟩ (fun hHeld5 => ?_)
        clear hK K hHeld4
        refine held_take (i := 40) (v := ?_) rfl (by kernel_rfl) (by kernel_rfl) (by kernel_rfl) (fun _ _ _ h => h) (by rfl) (fun wq hSq => ?_) hHeld5 ?_
        rotate_left
        · (try dsimp only at hSq); go_simp; try with_reducible rfl
        simp only [Act.put, List.setIfInBounds_toArray, List.set_cons_zero, List.set_cons_succ]
        refine held_take (i := 41) (v := ?_) rfl (by kernel_rfl) (by kernel_rfl) (by kernel_rfl) (fun _ _ _ h => h) (by rfl) (fun wq hSq => ?_) hHeld5 ?_
        rotate_left
        · (try dsimp only at hSq); go_simp; try with_reducible rfl
        simp only [Act.put, List.setIfInBounds_toArray, List.set_cons_zero, List.set_cons_succ]
        refine wpAnyH_done (by kernel_rfl) ?_ _
        clear hHeld5
        go_wp2_with fail
        go_ret
        exact ⟨rfl, hbel11⟩
end Go.Proofs.YtkakmjdfecbhaaaGreatDoor
