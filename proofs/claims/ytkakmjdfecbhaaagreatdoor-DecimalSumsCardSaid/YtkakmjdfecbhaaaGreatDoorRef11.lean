/- The walk of the reference's Product: over any world. Printed by gen_ref11.py. -/
import Derived.Test.YtkakmjdfecbhaaaGreatDoorRef10
import Derived.Test.YtkakmjdfecbhaaaGreatDoorStr
namespace Go.Proofs.YtkakmjdfecbhaaaGreatDoor
open Go.RowKit

set_option maxHeartbeats 2000000 in
set_option maxRecDepth 100000 in
theorem productR_calls (w : World) (a b : Dec) (ha : mayB a = true) (hb : mayB b = true) :
    Calls Tryz.prog 15 #[.agg #[.bool a.neg, .string ⟨a.digits.toArray⟩, .int .i64 a.exp], .agg #[.bool b.neg, .string ⟨b.digits.toArray⟩, .int .i64 b.exp]] w fun e w' => e = .returned (.tuple #[DecV (mulS a b).1, .int .i64 (mulS a b).2]) ∧ Below w.heap.size w w' := by
  obtain ⟨da, la, ea1, ea2⟩ := may_bounds ha
  obtain ⟨db, lb, eb1, eb2⟩ := may_bounds hb
  have hr : Hid (mulS a b = madeS (a.neg != b.neg) (digS (dval a.digits * dval b.digits)) (a.exp + b.exp)) := by show mulS a b = _; unfold mulS; rw [if_pos (by simp [mayAll, ha, hb])]
  clear ha hb
  have h2 := two_at w a b
  have hbel0 : Below w.heap.size w ((w.alloc (Obj.cells #[Value.bool a.neg, Value.string { data := a.digits.toArray }, Value.int IntKind.i64 a.exp] 24)).alloc (Obj.cells #[Value.bool b.neg, Value.string { data := b.digits.toArray }, Value.int IntKind.i64 b.exp] 24)) := ((Below.refl _ _).alloc (Nat.le_refl _) _).alloc (by simp) _
  have hz2 : DecAt (((w.alloc (Obj.cells #[Value.bool a.neg, Value.string { data := a.digits.toArray }, Value.int IntKind.i64 a.exp] 24)).alloc (Obj.cells #[Value.bool b.neg, Value.string { data := b.digits.toArray }, Value.int IntKind.i64 b.exp] 24)).alloc (Obj.cells #[Value.bool false, Value.string { data := #[] }, Value.int IntKind.i64 0] 24)) (w.heap.size + 1 + 1) Dec.zero := DecAt.at _ Dec.zero _ (by simp)
  have hA3 := h2.1.alloc (Obj.cells #[Value.bool false, Value.string { data := #[] }, Value.int IntKind.i64 0] 24)
  have hB3 := h2.2.alloc (Obj.cells #[Value.bool false, Value.string { data := #[] }, Value.int IntKind.i64 0] 24)
  have hbz := hbel0.alloc hbel0.size (Obj.cells #[Value.bool false, Value.string { data := #[] }, Value.int IntKind.i64 0] 24)
  clear h2 hbel0
  go_enter Tryz.func15, Tryz.ntmps15
  go_upto_region 1 with fail
  generalize (((w.alloc (Obj.cells #[Value.bool a.neg, Value.string { data := a.digits.toArray }, Value.int IntKind.i64 a.exp] 24)).alloc (Obj.cells #[Value.bool b.neg, Value.string { data := b.digits.toArray }, Value.int IntKind.i64 b.exp] 24)).alloc (Obj.cells #[Value.bool false, Value.string { data := #[] }, Value.int IntKind.i64 0] 24)) = w1 at *
  have HA := Lib.hid hA3
  have HB := Lib.hid hB3
  have HZ := Lib.hid hz2
  have hbel := hbz
  clear hA3 hB3 hz2 hbz
  have hwp : IntKind.i64.wrap (a.exp + b.exp) = a.exp + b.exp := IntWalk.i64_in _ (by omega)
  have hS0 : (fun w' => w'.cell? ⟨w.heap.size, 0, none⟩ = some (.bool a.neg) ∧ w'.cell? ⟨w.heap.size, 1, none⟩ = some (.string ⟨a.digits.toArray⟩) ∧ w'.cell? ⟨w.heap.size, 2, none⟩ = some (.int .i64 a.exp) ∧ w'.cell? ⟨w.heap.size + 1, 0, none⟩ = some (.bool b.neg) ∧ w'.cell? ⟨w.heap.size + 1, 1, none⟩ = some (.string ⟨b.digits.toArray⟩) ∧ w'.cell? ⟨w.heap.size + 1, 2, none⟩ = some (.int .i64 b.exp)) w1.drew := ⟨HA.out.c0, HA.out.c1, HA.out.c2, HB.out.c0, HB.out.c1, HB.out.c2⟩
  go_cut [6, 7] from 8 to 26 (fun pt ok wc => ∃ (g : Nat) (x : Dec) (bb : Bool), pt = .pointer (some ⟨g, 0, none⟩) ∧ ok = .bool bb ∧ DecAt wc g x ∧ DecAt wc (w.heap.size + 1 + 1) Dec.zero ∧ ((bb = true ∧ mulS a b = (x, 0)) ∨ (bb = false ∧ mulS a b = (Dec.zero, 4))) ∧ Below w.heap.size w wc)
  case first =>
    refine wp_region_held_drew (S := (fun w' => w'.cell? ⟨w.heap.size, 0, none⟩ = some (.bool a.neg) ∧ w'.cell? ⟨w.heap.size, 1, none⟩ = some (.string ⟨a.digits.toArray⟩) ∧ w'.cell? ⟨w.heap.size, 2, none⟩ = some (.int .i64 a.exp) ∧ w'.cell? ⟨w.heap.size + 1, 0, none⟩ = some (.bool b.neg) ∧ w'.cell? ⟨w.heap.size + 1, 1, none⟩ = some (.string ⟨b.digits.toArray⟩) ∧ w'.cell? ⟨w.heap.size + 1, 2, none⟩ = some (.int .i64 b.exp))) (by kernel_rfl) hS0 (fun hHeld0 => ?_)
    refine held_take (i := 0) (v := ?_) rfl (by kernel_rfl) (by kernel_rfl) (by kernel_rfl) (fun _ _ _ h => h) (by rfl) (fun wq hSq => ?_) hHeld0 ?_
    rotate_left
    · (try dsimp only at hSq); go_simp; try with_reducible rfl
    simp only [Act.put, List.setIfInBounds_toArray, List.set_cons_zero, List.set_cons_succ]
    refine held_take (i := 1) (v := ?_) rfl (by kernel_rfl) (by kernel_rfl) (by kernel_rfl) (fun _ _ _ h => h) (by rfl) (fun wq hSq => ?_) hHeld0 ?_
    rotate_left
    · (try dsimp only at hSq); go_simp; try with_reducible rfl
    simp only [Act.put, List.setIfInBounds_toArray, List.set_cons_zero, List.set_cons_succ]
    refine held_take (i := 2) (v := ?_) rfl (by kernel_rfl) (by kernel_rfl) (by kernel_rfl) (fun _ _ _ h => h) (by rfl) (fun wq hSq => ?_) hHeld0 ?_
    rotate_left
    · (try dsimp only at hSq); go_simp; try with_reducible rfl
    simp only [Act.put, List.setIfInBounds_toArray, List.set_cons_zero, List.set_cons_succ]
    refine held_take (i := 3) (v := ?_) rfl (by kernel_rfl) (by kernel_rfl) (by kernel_rfl) (fun _ _ _ h => h) (by rfl) (fun wq hSq => ?_) hHeld0 ?_
    rotate_left
    · (try dsimp only at hSq); go_simp; try with_reducible rfl
    simp only [Act.put, List.setIfInBounds_toArray, List.set_cons_zero, List.set_cons_succ]
    refine held_take (i := 4) (v := ?_) rfl (by kernel_rfl) (by kernel_rfl) (by kernel_rfl) (fun _ _ _ h => h) (by rfl) (fun wq hSq => ?_) hHeld0 ?_
    rotate_left
    · (try dsimp only at hSq); go_simp; try with_reducible rfl
    simp only [Act.put, List.setIfInBounds_toArray, List.set_cons_zero, List.set_cons_succ]
    refine held_take (i := 5) (v := ?_) rfl (by kernel_rfl) (by kernel_rfl) (by kernel_rfl) (fun _ _ _ h => h) (by rfl) (fun wq hSq => ?_) hHeld0 ?_
    rotate_left
    · (try dsimp only at hSq); go_simp; try with_reducible rfl
    simp only [Act.put, List.setIfInBounds_toArray, List.set_cons_zero, List.set_cons_succ]
    refine held_take (i := 6) (v := ?_) rfl (by kernel_rfl) (by kernel_rfl) (by kernel_rfl) (fun _ _ _ h => h) (by rfl) (fun wq hSq => ?_) hHeld0 ?_
    rotate_left
    · (try dsimp only at hSq); go_simp; try with_reducible rfl
    simp only [Act.put, List.setIfInBounds_toArray, List.set_cons_zero, List.set_cons_succ]
    refine held_take (i := 7) (v := ?_) rfl (by kernel_rfl) (by kernel_rfl) (by kernel_rfl) (fun _ _ _ h => h) (by rfl) (fun wq hSq => ?_) hHeld0 ?_
    rotate_left
    · (try dsimp only at hSq); go_simp; try with_reducible rfl
    simp only [Act.put, List.setIfInBounds_toArray, List.set_cons_zero, List.set_cons_succ]
    refine held_take (i := 8) (v := ?_) rfl (by kernel_rfl) (by kernel_rfl) (by kernel_rfl) (fun _ _ _ h => h) (by rfl) (fun wq hSq => ?_) hHeld0 ?_
    rotate_left
    · (try dsimp only at hSq); go_simp; try with_reducible rfl
    simp only [Act.put, List.setIfInBounds_toArray, List.set_cons_zero, List.set_cons_succ]
    refine held_take (i := 10) (v := ?_) rfl (by kernel_rfl) (by kernel_rfl) (by kernel_rfl) (fun _ _ _ h => h) (by rfl) (fun wq hSq => ?_) hHeld0 ?_
    rotate_left
    · (try dsimp only at hSq); go_simp; try with_reducible rfl
    simp only [Act.put, List.setIfInBounds_toArray, List.set_cons_zero, List.set_cons_succ]
    refine held_take (i := 11) (v := ?_) rfl (by kernel_rfl) (by kernel_rfl) (by kernel_rfl) (fun _ _ _ h => h) (by rfl) (fun wq hSq => ?_) hHeld0 ?_
    rotate_left
    · (try dsimp only at hSq); go_simp; try with_reducible rfl
    simp only [Act.put, List.setIfInBounds_toArray, List.set_cons_zero, List.set_cons_succ]
    refine held_take (i := 12) (v := ?_) rfl (by kernel_rfl) (by kernel_rfl) (by kernel_rfl) (fun _ _ _ h => h) (by rfl) (fun wq hSq => ?_) hHeld0 ?_
    rotate_left
    · (try dsimp only at hSq); go_simp; try with_reducible rfl
    simp only [Act.put, List.setIfInBounds_toArray, List.set_cons_zero, List.set_cons_succ]
    refine held_take (i := 13) (v := ?_) rfl (by kernel_rfl) (by kernel_rfl) (by kernel_rfl) (fun _ _ _ h => h) (by rfl) (fun wq hSq => ?_) hHeld0 ?_
    rotate_left
    · (try dsimp only at hSq); go_simp; try with_reducible rfl
    simp only [Act.put, List.setIfInBounds_toArray, List.set_cons_zero, List.set_cons_succ]
    refine held_take (i := 14) (v := ?_) rfl (by kernel_rfl) (by kernel_rfl) (by kernel_rfl) (fun _ _ _ h => h) (by rfl) (fun wq hSq => ?_) hHeld0 ?_
    rotate_left
    · (try dsimp only at hSq); go_simp; try with_reducible rfl
    simp only [Act.put, List.setIfInBounds_toArray, List.set_cons_zero, List.set_cons_succ]
    refine held_two (i := 9) (j := 19) (by kernel_rfl) rfl rfl (by rfl) (by rfl) (fun K hK => ?_) (fun K hK => ?_)
    ·
      go_simp
      refine (mulR_calls _ a.digits b.digits da db (by omega) (by omega)).mono ?_
      rintro e wm ⟨rfl, hbm⟩
      dsimp only
      have HA1 := HA.out.drew.under hbm
      have HB1 := HB.out.drew.under hbm
      have HZ1 := HZ.out.drew.under hbm
      have hbel1 := hbel.drew.trans (hbm.mono hbel.size)
      clear hbm
      refine hK.out _ _ ⟨HA1.c0, HA1.c1, HA1.c2, HB1.c0, HB1.c1, HB1.c2⟩ (fun hHeld1 => ?_)
      clear hK K hHeld0
      refine held_two (i := 15) (j := 19) (by kernel_rfl) rfl rfl (by rfl) (by rfl) (fun K hK => ?_) (fun K hK => ?_)
      ·
        go_simp
        have hpl : (digS (dval a.digits * dval b.digits)).length ≤ 6000 := by
          have h1 := dval_lt da
          have h2 := dval_lt db
          have h3 : dval a.digits * dval b.digits < 10 ^ (a.digits.length + b.digits.length) := by
            rw [Nat.pow_add]
            exact Nat.lt_of_le_of_lt (Nat.mul_le_mul_left _ (Nat.le_of_lt h2)) (Nat.mul_lt_mul_of_pos_right h1 (Nat.pow_pos (by omega)))
          have := digS_len_le h3
          omega
        refine (madeR_calls _ (a.neg != b.neg) (digS (dval a.digits * dval b.digits)) (a.exp + b.exp) (by omega) (by omega) (by omega)).mono ?_
        rintro e wd ⟨⟨x, bb, rfl, hx⟩, hbd⟩
        dsimp only
        have Hx := Lib.hid hx
        clear hx
        have HA2 := HA1.under hbd
        have HB2 := HB1.under hbd
        have HZ2 := HZ1.under hbd
        have hbel2 := hbel1.trans (hbd.mono hbel1.size)
        clear hbd
        simp only [DecV]
        refine hK.out _ _ ⟨HA2.c0, HA2.c1, HA2.c2, HB2.c0, HB2.c1, HB2.c2⟩ (fun hHeld2 => ?_)
        clear hK K hHeld1
        refine held_take (i := 16) (v := ?_) rfl (by kernel_rfl) (by kernel_rfl) (by kernel_rfl) (fun _ _ _ h => h) (by rfl) (fun wq hSq => ?_) hHeld2 ?_
        rotate_left
        · (try dsimp only at hSq); go_simp; try with_reducible rfl
        simp only [Act.put, List.setIfInBounds_toArray, List.set_cons_zero, List.set_cons_succ]
        refine held_take (i := 17) (v := ?_) rfl (by kernel_rfl) (by kernel_rfl) (by kernel_rfl) (fun _ _ _ h => h) (by rfl) (fun wq hSq => ?_) hHeld2 ?_
        rotate_left
        · (try dsimp only at hSq); go_simp; try with_reducible rfl
        simp only [Act.put, List.setIfInBounds_toArray, List.set_cons_zero, List.set_cons_succ]
        refine held_take (i := 18) (v := ?_) rfl (by kernel_rfl) (by kernel_rfl) (by kernel_rfl) (fun _ _ _ h => h) (by rfl) (fun wq hSq => ?_) hHeld2 ?_
        rotate_left
        · (try dsimp only at hSq); go_simp; try with_reducible rfl
        simp only [Act.put, List.setIfInBounds_toArray, List.set_cons_zero, List.set_cons_succ]
        refine held_step (i := 19) (by kernel_rfl) rfl (by rfl) (fun K hK => ?_)
        go_simp
        have hba : Below (wd).heap.size (wd) ((wd).alloc (Obj.cells #[Value.bool false, Value.string { data := #[] }, Value.int IntKind.i64 0] 24)) := (Below.refl _ _).alloc (Nat.le_refl _) _
        have hga := DecAt.at (wd) Dec.zero (wd.heap.size) rfl
        have HA3 := HA2.under hba
        have HB3 := HB2.under hba
        have HZ3 := HZ2.under hba
        have hbel3 := hbel2.trans (hba.mono hbel2.size)
        have HG3 := hga
        have hgA : wd.heap.size ≠ w.heap.size := Nat.ne_of_gt HA2.lt
        have hgB : wd.heap.size ≠ w.heap.size + 1 := Nat.ne_of_gt HB2.lt
        have hgZ : wd.heap.size ≠ w.heap.size + 1 + 1 := Nat.ne_of_gt HZ2.lt
        have hgL : w.heap.size ≤ wd.heap.size := hbel2.size
        clear hba hga
        refine hK.out _ _ ⟨HA3.c0, HA3.c1, HA3.c2, HB3.c0, HB3.c1, HB3.c2⟩ (fun hHeld3 => ?_)
        clear hK K hHeld2
        have z0 := HG3.c0
        have z1 := HG3.c1
        have z2 := HG3.c2
        have y0 := HG3.f0
        have y1 := HG3.f1
        have y2 := HG3.f2
        simp only [Dec.zero] at z0 z1 z2
        refine held_step (i := 20) (by kernel_rfl) rfl (by rfl) (fun K hK => ?_)
        go_simp
        have HA9 := HA2.alloc (Obj.cells #[Value.bool x.neg, Value.string { data := x.digits.toArray }, Value.int IntKind.i64 x.exp] 24)
        have HB9 := HB2.alloc (Obj.cells #[Value.bool x.neg, Value.string { data := x.digits.toArray }, Value.int IntKind.i64 x.exp] 24)
        have HZ9 := HZ2.alloc (Obj.cells #[Value.bool x.neg, Value.string { data := x.digits.toArray }, Value.int IntKind.i64 x.exp] 24)
        have HG9 := DecAt.at (wd) x _ rfl
        have hbel9 := hbel2.alloc hbel2.size (Obj.cells #[Value.bool x.neg, Value.string { data := x.digits.toArray }, Value.int IntKind.i64 x.exp] 24)
        clear z0 z1 z2 y0 y1 y2
        refine hK.out _ _ ⟨HA9.c0, HA9.c1, HA9.c2, HB9.c0, HB9.c1, HB9.c2⟩ (fun hHeld4 => ?_)
        clear hK K hHeld3
        refine held_take (i := 21) (v := ?_) rfl (by kernel_rfl) (by kernel_rfl) (by kernel_rfl) (fun _ _ _ h => h) (by rfl) (fun wq hSq => ?_) hHeld4 ?_
        rotate_left
        · (try dsimp only at hSq); go_simp; try with_reducible rfl
        simp only [Act.put, List.setIfInBounds_toArray, List.set_cons_zero, List.set_cons_succ]
        refine wpAnyH_done (by kernel_rfl) ?_ _
        clear hHeld4
        go_wp2_with fail
        go_meet
        refine ⟨_, x, bb, rfl, rfl, HG9, HZ9, ?_, hbel9⟩
        have := Hx.out
        rw [hr.out]
        exact this
      ·
        go_simp
        have hba : Below (wm).heap.size (wm) ((wm).alloc (Obj.cells #[Value.bool false, Value.string { data := #[] }, Value.int IntKind.i64 0] 24)) := (Below.refl _ _).alloc (Nat.le_refl _) _
        have hga := DecAt.at (wm) Dec.zero (wm.heap.size) rfl
        have HA2 := HA1.under hba
        have HB2 := HB1.under hba
        have HZ2 := HZ1.under hba
        have hbel2 := hbel1.trans (hba.mono hbel1.size)
        have HG2 := hga
        have hgA : wm.heap.size ≠ w.heap.size := Nat.ne_of_gt HA1.lt
        have hgB : wm.heap.size ≠ w.heap.size + 1 := Nat.ne_of_gt HB1.lt
        have hgZ : wm.heap.size ≠ w.heap.size + 1 + 1 := Nat.ne_of_gt HZ1.lt
        have hgL : w.heap.size ≤ wm.heap.size := hbel1.size
        clear hba hga
        refine hK.out _ _ ⟨HA2.c0, HA2.c1, HA2.c2, HB2.c0, HB2.c1, HB2.c2⟩ (fun hHeld2 => ?_)
        clear hK K hHeld1
        refine held_step (i := 15) (by kernel_rfl) rfl (by rfl) (fun K hK => ?_)
        go_simp
        have hpl : (digS (dval a.digits * dval b.digits)).length ≤ 6000 := by
          have h1 := dval_lt da
          have h2 := dval_lt db
          have h3 : dval a.digits * dval b.digits < 10 ^ (a.digits.length + b.digits.length) := by
            rw [Nat.pow_add]
            exact Nat.lt_of_le_of_lt (Nat.mul_le_mul_left _ (Nat.le_of_lt h2)) (Nat.mul_lt_mul_of_pos_right h1 (Nat.pow_pos (by omega)))
          have := digS_len_le h3
          omega
        refine (madeR_calls _ (a.neg != b.neg) (digS (dval a.digits * dval b.digits)) (a.exp + b.exp) (by omega) (by omega) (by omega)).mono ?_
        rintro e wd ⟨⟨x, bb, rfl, hx⟩, hbd⟩
        dsimp only
        have Hx := Lib.hid hx
        clear hx
        have HA3 := HA2.under hbd
        have HB3 := HB2.under hbd
        have HZ3 := HZ2.under hbd
        have hbel3 := hbel2.trans (hbd.mono hbel2.size)
        have HG3 := HG2.under hbd
        clear hbd
        simp only [DecV]
        refine hK.out _ _ ⟨HA3.c0, HA3.c1, HA3.c2, HB3.c0, HB3.c1, HB3.c2⟩ (fun hHeld3 => ?_)
        clear hK K hHeld2
        refine held_take (i := 16) (v := ?_) rfl (by kernel_rfl) (by kernel_rfl) (by kernel_rfl) (fun _ _ _ h => h) (by rfl) (fun wq hSq => ?_) hHeld3 ?_
        rotate_left
        · (try dsimp only at hSq); go_simp; try with_reducible rfl
        simp only [Act.put, List.setIfInBounds_toArray, List.set_cons_zero, List.set_cons_succ]
        refine held_take (i := 17) (v := ?_) rfl (by kernel_rfl) (by kernel_rfl) (by kernel_rfl) (fun _ _ _ h => h) (by rfl) (fun wq hSq => ?_) hHeld3 ?_
        rotate_left
        · (try dsimp only at hSq); go_simp; try with_reducible rfl
        simp only [Act.put, List.setIfInBounds_toArray, List.set_cons_zero, List.set_cons_succ]
        refine held_take (i := 18) (v := ?_) rfl (by kernel_rfl) (by kernel_rfl) (by kernel_rfl) (fun _ _ _ h => h) (by rfl) (fun wq hSq => ?_) hHeld3 ?_
        rotate_left
        · (try dsimp only at hSq); go_simp; try with_reducible rfl
        simp only [Act.put, List.setIfInBounds_toArray, List.set_cons_zero, List.set_cons_succ]
        have z0 := HG3.c0
        have z1 := HG3.c1
        have z2 := HG3.c2
        have y0 := HG3.f0
        have y1 := HG3.f1
        have y2 := HG3.f2
        simp only [Dec.zero] at z0 z1 z2
        refine held_step (i := 20) (by kernel_rfl) rfl (by rfl) (fun K hK => ?_)
        go_simp
        have HA9 := HA3.far3 hgA x
        have HB9 := HB3.far3 hgB x
        have HZ9 := HZ3.far3 hgZ x
        have HG9 := HG3.put x
        have hbel9 := below_putDec hbel3 hgL x
        clear z0 z1 z2 y0 y1 y2
        refine hK.out _ _ ⟨HA9.c0, HA9.c1, HA9.c2, HB9.c0, HB9.c1, HB9.c2⟩ (fun hHeld4 => ?_)
        clear hK K hHeld3
        refine held_take (i := 21) (v := ?_) rfl (by kernel_rfl) (by kernel_rfl) (by kernel_rfl) (fun _ _ _ h => h) (by rfl) (fun wq hSq => ?_) hHeld4 ?_
        rotate_left
        · (try dsimp only at hSq); go_simp; try with_reducible rfl
        simp only [Act.put, List.setIfInBounds_toArray, List.set_cons_zero, List.set_cons_succ]
        refine wpAnyH_done (by kernel_rfl) ?_ _
        clear hHeld4
        go_wp2_with fail
        go_meet
        refine ⟨_, x, bb, rfl, rfl, HG9, HZ9, ?_, hbel9⟩
        have := Hx.out
        rw [hr.out]
        exact this
    ·
      go_simp
      have hba : Below (w1.drew).heap.size (w1.drew) ((w1.drew).alloc (Obj.cells #[Value.bool false, Value.string { data := #[] }, Value.int IntKind.i64 0] 24)) := (Below.refl _ _).alloc (Nat.le_refl _) _
      have hga := DecAt.at (w1.drew) Dec.zero (w1.heap.size) rfl
      have HA1 := HA.out.drew.under hba
      have HB1 := HB.out.drew.under hba
      have HZ1 := HZ.out.drew.under hba
      have hbel1 := hbel.drew.trans (hba.mono hbel.size)
      have HG1 := hga
      have hgA : w1.heap.size ≠ w.heap.size := Nat.ne_of_gt HA.out.drew.lt
      have hgB : w1.heap.size ≠ w.heap.size + 1 := Nat.ne_of_gt HB.out.drew.lt
      have hgZ : w1.heap.size ≠ w.heap.size + 1 + 1 := Nat.ne_of_gt HZ.out.drew.lt
      have hgL : w.heap.size ≤ w1.heap.size := hbel.drew.size
      clear hba hga
      refine hK.out _ _ ⟨HA1.c0, HA1.c1, HA1.c2, HB1.c0, HB1.c1, HB1.c2⟩ (fun hHeld1 => ?_)
      clear hK K hHeld0
      refine held_step (i := 9) (by kernel_rfl) rfl (by rfl) (fun K hK => ?_)
      go_simp
      refine (mulR_calls _ a.digits b.digits da db (by omega) (by omega)).mono ?_
      rintro e wm ⟨rfl, hbm⟩
      dsimp only
      have HA2 := HA1.under hbm
      have HB2 := HB1.under hbm
      have HZ2 := HZ1.under hbm
      have hbel2 := hbel1.trans (hbm.mono hbel1.size)
      have HG2 := HG1.under hbm
      clear hbm
      refine hK.out _ _ ⟨HA2.c0, HA2.c1, HA2.c2, HB2.c0, HB2.c1, HB2.c2⟩ (fun hHeld2 => ?_)
      clear hK K hHeld1
      refine held_step (i := 15) (by kernel_rfl) rfl (by rfl) (fun K hK => ?_)
      go_simp
      have hpl : (digS (dval a.digits * dval b.digits)).length ≤ 6000 := by
        have h1 := dval_lt da
        have h2 := dval_lt db
        have h3 : dval a.digits * dval b.digits < 10 ^ (a.digits.length + b.digits.length) := by
          rw [Nat.pow_add]
          exact Nat.lt_of_le_of_lt (Nat.mul_le_mul_left _ (Nat.le_of_lt h2)) (Nat.mul_lt_mul_of_pos_right h1 (Nat.pow_pos (by omega)))
        have := digS_len_le h3
        omega
      refine (madeR_calls _ (a.neg != b.neg) (digS (dval a.digits * dval b.digits)) (a.exp + b.exp) (by omega) (by omega) (by omega)).mono ?_
      rintro e wd ⟨⟨x, bb, rfl, hx⟩, hbd⟩
      dsimp only
      have Hx := Lib.hid hx
      clear hx
      have HA3 := HA2.under hbd
      have HB3 := HB2.under hbd
      have HZ3 := HZ2.under hbd
      have hbel3 := hbel2.trans (hbd.mono hbel2.size)
      have HG3 := HG2.under hbd
      clear hbd
      simp only [DecV]
      refine hK.out _ _ ⟨HA3.c0, HA3.c1, HA3.c2, HB3.c0, HB3.c1, HB3.c2⟩ (fun hHeld3 => ?_)
      clear hK K hHeld2
      refine held_take (i := 16) (v := ?_) rfl (by kernel_rfl) (by kernel_rfl) (by kernel_rfl) (fun _ _ _ h => h) (by rfl) (fun wq hSq => ?_) hHeld3 ?_
      rotate_left
      · (try dsimp only at hSq); go_simp; try with_reducible rfl
      simp only [Act.put, List.setIfInBounds_toArray, List.set_cons_zero, List.set_cons_succ]
      refine held_take (i := 17) (v := ?_) rfl (by kernel_rfl) (by kernel_rfl) (by kernel_rfl) (fun _ _ _ h => h) (by rfl) (fun wq hSq => ?_) hHeld3 ?_
      rotate_left
      · (try dsimp only at hSq); go_simp; try with_reducible rfl
      simp only [Act.put, List.setIfInBounds_toArray, List.set_cons_zero, List.set_cons_succ]
      refine held_take (i := 18) (v := ?_) rfl (by kernel_rfl) (by kernel_rfl) (by kernel_rfl) (fun _ _ _ h => h) (by rfl) (fun wq hSq => ?_) hHeld3 ?_
      rotate_left
      · (try dsimp only at hSq); go_simp; try with_reducible rfl
      simp only [Act.put, List.setIfInBounds_toArray, List.set_cons_zero, List.set_cons_succ]
      have z0 := HG3.c0
      have z1 := HG3.c1
      have z2 := HG3.c2
      have y0 := HG3.f0
      have y1 := HG3.f1
      have y2 := HG3.f2
      simp only [Dec.zero] at z0 z1 z2
      refine held_step (i := 20) (by kernel_rfl) rfl (by rfl) (fun K hK => ?_)
      go_simp
      have HA9 := HA3.far3 hgA x
      have HB9 := HB3.far3 hgB x
      have HZ9 := HZ3.far3 hgZ x
      have HG9 := HG3.put x
      have hbel9 := below_putDec hbel3 hgL x
      clear z0 z1 z2 y0 y1 y2
      refine hK.out _ _ ⟨HA9.c0, HA9.c1, HA9.c2, HB9.c0, HB9.c1, HB9.c2⟩ (fun hHeld4 => ?_)
      clear hK K hHeld3
      refine held_take (i := 21) (v := ?_) rfl (by kernel_rfl) (by kernel_rfl) (by kernel_rfl) (fun _ _ _ h => h) (by rfl) (fun wq hSq => ?_) hHeld4 ?_
      rotate_left
      · (try dsimp only at hSq); go_simp; try with_reducible rfl
      simp only [Act.put, List.setIfInBounds_toArray, List.set_cons_zero, List.set_cons_succ]
      refine wpAnyH_done (by kernel_rfl) ?_ _
      clear hHeld4
      go_wp2_with fail
      go_meet
      refine ⟨_, x, bb, rfl, rfl, HG9, HZ9, ?_, hbel9⟩
      have := Hx.out
      rw [hr.out]
      exact this
  case rest =>
    obtain ⟨g, x, bb, rfl, rfl, hG, hZ, hx, hbc⟩ := hcut
    clear hS0 hwp HA HB HZ hbel
    have c0 := hZ.c0
    have c1 := hZ.c1
    have c2 := hZ.c2
    have f0 := hZ.f0
    have f1 := hZ.f1
    have f2 := hZ.f2
    have x0 := hG.c0
    have x1 := hG.c1
    have x2 := hG.c2
    simp only [Dec.zero] at c0 c1 c2
    clear hZ hG
    have Hx := Lib.hid hx
    clear hx hr
    cases bb with
    | true =>
      have HP : Hid (mulS a b = (x, 0)) := by
        rcases Hx.out with ⟨_, h⟩ | ⟨h, _⟩
        · exact h
        · cases h
      clear Hx
      have hbe := ((hbc.setCell (p := ⟨w.heap.size + 1 + 1, 0, none⟩) (by simp; omega) (.bool x.neg)).setCell (p := ⟨w.heap.size + 1 + 1, 1, none⟩) (by simp; omega) (.string ⟨x.digits.toArray⟩)).setCell (p := ⟨w.heap.size + 1 + 1, 2, none⟩) (by simp; omega) (.int .i64 x.exp)
      go_wp2_with fail
      refine bodyPost_ret (v := .tuple #[.agg #[.bool x.neg, .string ⟨x.digits.toArray⟩, .int .i64 x.exp], .int .i64 0]) (by simp [results, Tryz.results15, go_sem, c0, c1, c2]) rfl ?_
      rw [HP.out]
      exact ⟨rfl, hbe⟩
    | false =>
      have HP : Hid (mulS a b = (Dec.zero, 4)) := by
        rcases Hx.out with ⟨h, _⟩ | ⟨_, h⟩
        · cases h
        · exact h
      clear Hx
      have hbe := ((hbc.setCell (p := ⟨w.heap.size + 1 + 1, 0, none⟩) (by simp; omega) (.bool false)).setCell (p := ⟨w.heap.size + 1 + 1, 1, none⟩) (by simp; omega) (.string ⟨#[]⟩)).setCell (p := ⟨w.heap.size + 1 + 1, 2, none⟩) (by simp; omega) (.int .i64 0)
      go_wp2_with fail
      refine bodyPost_ret (v := .tuple #[.agg #[.bool false, .string ⟨#[]⟩, .int .i64 0], .int .i64 4]) (by simp [results, Tryz.results15, go_sem, c0, c1, c2]) rfl ?_
      rw [HP.out]
      exact ⟨rfl, hbe⟩
end Go.Proofs.YtkakmjdfecbhaaaGreatDoor
