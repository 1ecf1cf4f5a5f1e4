/- The walks of the reference's Multiple and Common: over any world. Printed by gen_ref10.py. -/
import Derived.Test.YtkakmjdfecbhaaaGreatDoorRef9
import Derived.Test.YtkakmjdfecbhaaaGreatDoorLaw2
import Derived.Test.YtkakmjdfecbhaaaGreatDoorPla5
import Derived.Test.YtkakmjdfecbhaaaGreatDoorReg
namespace Go.Proofs.YtkakmjdfecbhaaaGreatDoor
open Go.RowKit

/-- What the reference looks for is what the program finds. -/
theorem mult_ref {d b : Dec} (hd : mayB d = true) (hb : posB b = true) : (multipleS d b).1 = decide (mag d (min d.exp b.exp) % mag b (min d.exp b.exp) = 0) := by
  have h1 := may_low hd low_ok
  have h2 := may_low (pos_val hb).1 low_ok
  rw [share_eq hd hb low_ok, mag_shift d (show (-1000 : Int) ≤ min d.exp b.exp by omega) (by omega), mag_shift b (show (-1000 : Int) ≤ min d.exp b.exp by omega) (by omega)]
  have hp : 0 < 10 ^ (min d.exp b.exp - -1000).toNat := Nat.pow_pos (by omega)
  generalize 10 ^ (min d.exp b.exp - -1000).toNat = p at *
  have : (mag d (min d.exp b.exp) % mag b (min d.exp b.exp) = 0) ↔ (mag b (min d.exp b.exp) * p ∣ mag d (min d.exp b.exp) * p) := by
    rw [Nat.mul_dvd_mul_iff_right hp, Nat.dvd_iff_mod_eq_zero]
  simp only [this]
theorem two_at (w : World) (a b : Dec) : DecAt ((w.alloc (Obj.cells #[Value.bool a.neg, Value.string { data := a.digits.toArray }, Value.int IntKind.i64 a.exp] 24)).alloc (Obj.cells #[Value.bool b.neg, Value.string { data := b.digits.toArray }, Value.int IntKind.i64 b.exp] 24)) w.heap.size a ∧ DecAt ((w.alloc (Obj.cells #[Value.bool a.neg, Value.string { data := a.digits.toArray }, Value.int IntKind.i64 a.exp] 24)).alloc (Obj.cells #[Value.bool b.neg, Value.string { data := b.digits.toArray }, Value.int IntKind.i64 b.exp] 24)) (w.heap.size + 1) b :=
  ⟨(DecAt.at w a _ rfl).alloc _, DecAt.at (w.alloc _) b _ (by simp)⟩
theorem mag_lt {d : Dec} (h : mayB d = true) {e : Int} (he : -1000 ≤ e) : mag d e < 10 ^ 3000 := by
  obtain ⟨h1, h2, h3, h4⟩ := may_bounds h
  have h5 := dval_lt h1
  unfold mag
  obtain ⟨k, hk⟩ : ∃ k, k = 100 := ⟨_, rfl⟩
  obtain ⟨j, hj⟩ : ∃ j, j = 2000 := ⟨_, rfl⟩
  obtain ⟨n, hn⟩ : ∃ n, n = 3000 := ⟨_, rfl⟩
  rw [← hn]
  have h6 : dval d.digits < 10 ^ k := Nat.lt_of_lt_of_le h5 (Nat.pow_le_pow_right (by omega) (by omega))
  have h7 : 10 ^ (d.exp - e).toNat ≤ 10 ^ j := Nat.pow_le_pow_right (by omega) (by omega)
  have h8 : dval d.digits * 10 ^ (d.exp - e).toNat < 10 ^ k * 10 ^ j := by
    have := Nat.mul_le_mul_left (dval d.digits) h7
    have h9 := Nat.mul_lt_mul_of_pos_right h6 (Nat.pow_pos (n := j) (by omega : 0 < 10))
    exact Nat.lt_of_le_of_lt this h9
  rw [← Nat.pow_add] at h8
  exact Nat.lt_of_lt_of_le h8 (Nat.pow_le_pow_right (by omega) (by omega))

set_option maxHeartbeats 2000000 in
set_option maxRecDepth 100000 in
theorem multipleR_calls (w : World) (a b : Dec) (ha : mayB a = true) (hb : posB b = true)  :
    Calls Tryz.prog 19 #[.agg #[.bool a.neg, .string ⟨a.digits.toArray⟩, .int .i64 a.exp], .agg #[.bool b.neg, .string ⟨b.digits.toArray⟩, .int .i64 b.exp]] w fun e w' => e = .returned (.bool (multipleS a b).1) ∧ Below w.heap.size w w' := by
  obtain ⟨da, la, ea1, ea2⟩ := may_bounds ha
  obtain ⟨db, lb, eb1, eb2⟩ := may_bounds (pos_val hb).1
  have hmb := mag_pos (min a.exp b.exp) hb
  have hla := mag_lt ha (show -1000 ≤ min a.exp b.exp by omega)
  have hlb := mag_lt (pos_val hb).1 (show -1000 ≤ min a.exp b.exp by omega)
  have Hla := Lib.hid hla
  have Hlb := Lib.hid hlb
  clear hla hlb
  obtain ⟨m, hm⟩ : ∃ m, m = min a.exp b.exp := ⟨_, rfl⟩
  have hm1 : m ≤ a.exp := by omega
  have hm2 : m ≤ b.exp := by omega
  have hm3 : -1000 ≤ m := by omega
  have hm4 : m ≤ 1000 := by omega
  rw [← hm] at hmb Hla Hlb
  have h2 := two_at w a b
  have hbel : Below w.heap.size w ((w.alloc (Obj.cells #[Value.bool a.neg, Value.string { data := a.digits.toArray }, Value.int IntKind.i64 a.exp] 24)).alloc (Obj.cells #[Value.bool b.neg, Value.string { data := b.digits.toArray }, Value.int IntKind.i64 b.exp] 24)) := ((Below.refl _ _).alloc (Nat.le_refl _) _).alloc (by simp) _
  have hr : Hid ((multipleS a b).1 = decide (mag a m % mag b m = 0)) := by show _ = _; rw [hm]; exact mult_ref ha hb
  have Hm := Lib.hid hm
  clear hm ha hb
  go_enter Tryz.func19, Tryz.ntmps19
  go_upto_region 1 with fail
  generalize ((w.alloc (Obj.cells #[Value.bool a.neg, Value.string { data := a.digits.toArray }, Value.int IntKind.i64 a.exp] 24)).alloc (Obj.cells #[Value.bool b.neg, Value.string { data := b.digits.toArray }, Value.int IntKind.i64 b.exp] 24)) = w1 at *
  have HA := Lib.hid h2.1
  have HB := Lib.hid h2.2
  have ka2 := h2.1.c2
  have kb2 := h2.2.c2
  clear h2
  go_upto_region 2 with fail
  rw [← Hm.out]
  clear ka2 kb2 Hm
  have hS0 : (fun w' => w'.cell? ⟨w.heap.size, 0, none⟩ = some (.bool a.neg) ∧ w'.cell? ⟨w.heap.size, 1, none⟩ = some (.string ⟨a.digits.toArray⟩) ∧ w'.cell? ⟨w.heap.size, 2, none⟩ = some (.int .i64 a.exp) ∧ w'.cell? ⟨w.heap.size + 1, 0, none⟩ = some (.bool b.neg) ∧ w'.cell? ⟨w.heap.size + 1, 1, none⟩ = some (.string ⟨b.digits.toArray⟩) ∧ w'.cell? ⟨w.heap.size + 1, 2, none⟩ = some (.int .i64 b.exp)) w1.drew := ⟨HA.out.c0, HA.out.c1, HA.out.c2, HB.out.c0, HB.out.c1, HB.out.c2⟩
  refine wp_region_held_drew (S := (fun w' => w'.cell? ⟨w.heap.size, 0, none⟩ = some (.bool a.neg) ∧ w'.cell? ⟨w.heap.size, 1, none⟩ = some (.string ⟨a.digits.toArray⟩) ∧ w'.cell? ⟨w.heap.size, 2, none⟩ = some (.int .i64 a.exp) ∧ w'.cell? ⟨w.heap.size + 1, 0, none⟩ = some (.bool b.neg) ∧ w'.cell? ⟨w.heap.size + 1, 1, none⟩ = some (.string ⟨b.digits.toArray⟩) ∧ w'.cell? ⟨w.heap.size + 1, 2, none⟩ = some (.int .i64 b.exp))) (by kernel_rfl) hS0 (fun hHeld0 => ?_)
  refine held_take (i := 0) (v := ?_) rfl (by kernel_rfl) (by kernel_rfl) (by kernel_rfl) (fun _ _ _ h => h) (by rfl) (fun wq hSq => ?_) hHeld0 ?_
  rotate_left
  · (try dsimp only at hSq); go_simp; try with_reducible rfl
  simp only [Act.put, List.setIfInBounds_toArray, List.set_cons_zero, List.set_cons_succ]
  refine held_take (i := 1) (v := ?_) rfl (by kernel_rfl) (by kernel_rfl) (by kernel_rfl) (fun _ _ _ h => h) (by rfl) (fun wq hSq => ?_) hHeld0 ?_
  rotate_left
  · (try dsimp only at hSq); go_simp; try with_reducible rfl
  simp only [Act.put, List.setIfInBounds_toArray, List.set_cons_zero, List.set_cons_succ]
  refine held_take (i := 3) (v := ?_) rfl (by kernel_rfl) (by kernel_rfl) (by kernel_rfl) (fun _ _ _ h => h) (by rfl) (fun wq hSq => ?_) hHeld0 ?_
  rotate_left
  · (try dsimp only at hSq); go_simp; try with_reducible rfl
  simp only [Act.put, List.setIfInBounds_toArray, List.set_cons_zero, List.set_cons_succ]
  refine held_take (i := 4) (v := ?_) rfl (by kernel_rfl) (by kernel_rfl) (by kernel_rfl) (fun _ _ _ h => h) (by rfl) (fun wq hSq => ?_) hHeld0 ?_
  rotate_left
  · (try dsimp only at hSq); go_simp; try with_reducible rfl
  simp only [Act.put, List.setIfInBounds_toArray, List.set_cons_zero, List.set_cons_succ]
  refine held_step (i := 2) (by kernel_rfl) rfl (by rfl) (fun K hK => ?_)
  go_simp
  refine (scaledR_calls _ a m da (by omega) hm1 (by omega) (by omega)).mono ?_
  rintro e w2 ⟨rfl, hb2⟩
  dsimp only
  have HA2 := HA.out.drew.under hb2
  have HB2 := HB.out.drew.under hb2
  have hbel2 := hbel.drew.trans (hb2.mono hbel.size)
  clear hb2
  refine hK.out _ _ ⟨HA2.c0, HA2.c1, HA2.c2, HB2.c0, HB2.c1, HB2.c2⟩ (fun hHeld1 => ?_)
  clear hK K hHeld0
  refine held_step (i := 5) (by kernel_rfl) rfl (by rfl) (fun K hK => ?_)
  go_simp
  refine (scaledR_calls _ b m db (by omega) hm2 (by omega) (by omega)).mono ?_
  rintro e w3 ⟨rfl, hb3⟩
  dsimp only
  have HA3 := HA2.under hb3
  have HB3 := HB2.under hb3
  have hbel3 := hbel2.trans (hb3.mono hbel2.size)
  clear hb3
  refine hK.out _ _ ⟨HA3.c0, HA3.c1, HA3.c2, HB3.c0, HB3.c1, HB3.c2⟩ (fun hHeld2 => ?_)
  clear hK K hHeld1
  refine held_step (i := 6) (by kernel_rfl) rfl (by rfl) (fun K hK => ?_)
  go_simp
  have hx1 := digS_dig (mag a m)
  have hy1 := digS_dig (mag b m)
  have hlx := digS_len_le Hla.out
  have hly := digS_len_le Hlb.out
  refine (divR_calls _ (digS (mag a m)) (digS (mag b m)) hx1.1 hy1.1 hy1.2.2 (by rw [hy1.2.1]; exact hmb) (by omega) (by omega)).mono ?_
  rintro e w4 ⟨rfl, hb4⟩
  dsimp only
  have HA4 := HA3.under hb4
  have HB4 := HB3.under hb4
  have hbel4 := hbel3.trans (hb4.mono hbel3.size)
  rw [hx1.2.1, hy1.2.1]
  clear hb4 hx1 hy1 hlx hly
  refine hK.out _ _ ⟨HA4.c0, HA4.c1, HA4.c2, HB4.c0, HB4.c1, HB4.c2⟩ (fun hHeld3 => ?_)
  clear hK K hHeld2
  refine held_take (i := 7) (v := ?_) rfl (by kernel_rfl) (by kernel_rfl) (by kernel_rfl) (fun _ _ _ h => h) (by rfl) (fun wq hSq => ?_) hHeld3 ?_
  rotate_left
  · (try dsimp only at hSq); go_simp; try with_reducible rfl
  simp only [Act.put, List.setIfInBounds_toArray, List.set_cons_zero, List.set_cons_succ]
  refine held_take (i := 8) (v := ?_) rfl (by kernel_rfl) (by kernel_rfl) (by kernel_rfl) (fun _ _ _ h => h) (by rfl) (fun wq hSq => ?_) hHeld3 ?_
  rotate_left
  · (try dsimp only at hSq); go_simp; try with_reducible rfl
  simp only [Act.put, List.setIfInBounds_toArray, List.set_cons_zero, List.set_cons_succ]
  refine held_take (i := 9) (v := ?_) rfl (by kernel_rfl) (by kernel_rfl) (by kernel_rfl) (fun _ _ _ h => h) (by rfl) (fun wq hSq => ?_) hHeld3 ?_
  rotate_left
  · (try dsimp only at hSq); go_simp; try with_reducible rfl
  simp only [Act.put, List.setIfInBounds_toArray, List.set_cons_zero, List.set_cons_succ]
  refine held_take (i := 10) (v := ?_) rfl (by kernel_rfl) (by kernel_rfl) (by kernel_rfl) (fun _ _ _ h => h) (by rfl) (fun wq hSq => ?_) hHeld3 ?_
  rotate_left
  · (try dsimp only at hSq); go_simp; try with_reducible rfl
  simp only [Act.put, List.setIfInBounds_toArray, List.set_cons_zero, List.set_cons_succ]
  refine held_take (i := 11) (v := ?_) rfl (by kernel_rfl) (by kernel_rfl) (by kernel_rfl) (fun _ _ _ h => h) (by rfl) (fun wq hSq => ?_) hHeld3 ?_
  rotate_left
  · (try dsimp only at hSq); go_simp; try with_reducible rfl
  simp only [Act.put, List.setIfInBounds_toArray, List.set_cons_zero, List.set_cons_succ]
  refine wpAnyH_done (by kernel_rfl) ?_ _
  clear hHeld3
  clear hS0 hmb Hla Hlb
  generalize mag a m / mag b m = qq at *
  generalize mag a m % mag b m = rr at *
  by_cases h0 : rr = 0
  · subst h0
    rw [show digS 0 = [] from rfl]
    have Hr : Hid ((multipleS a b).1 = true) := by show _ = _; rw [hr.out]; rfl
    clear hr
    go_wp2_with fail
    go_ret
    exact ⟨by rw [Hr.out]; rfl, hbel4⟩
  · obtain ⟨c, t, hct, _⟩ := digS_cons h0
    rw [hct]
    have Hr : Hid ((multipleS a b).1 = false) := by show _ = _; rw [hr.out, decide_eq_false h0]
    clear hr hct h0
    go_wp2_with fail
    go_ret
    exact ⟨by rw [Hr.out]; rfl, hbel4⟩
set_option maxHeartbeats 2000000 in
set_option maxRecDepth 100000 in
theorem commonR_calls (w : World) (a b : Dec) (ha : mayB a = true) (hb : posB b = true) (ha2 : posB a = true) :
    Calls Tryz.prog 20 #[.agg #[.bool a.neg, .string ⟨a.digits.toArray⟩, .int .i64 a.exp], .agg #[.bool b.neg, .string ⟨b.digits.toArray⟩, .int .i64 b.exp]] w fun e w' => e = .returned (.tuple #[DecV (commonS a b).1, .int .i64 (commonS a b).2]) ∧ Below w.heap.size w w' := by
  obtain ⟨da, la, ea1, ea2⟩ := may_bounds ha
  obtain ⟨db, lb, eb1, eb2⟩ := may_bounds (pos_val hb).1
  have hmb := mag_pos (min a.exp b.exp) hb
  have hla := mag_lt ha (show -1000 ≤ min a.exp b.exp by omega)
  have hlb := mag_lt (pos_val hb).1 (show -1000 ≤ min a.exp b.exp by omega)
  have Hla := Lib.hid hla
  have Hlb := Lib.hid hlb
  clear hla hlb
  obtain ⟨m, hm⟩ : ∃ m, m = min a.exp b.exp := ⟨_, rfl⟩
  have hm1 : m ≤ a.exp := by omega
  have hm2 : m ≤ b.exp := by omega
  have hm3 : -1000 ≤ m := by omega
  have hm4 : m ≤ 1000 := by omega
  rw [← hm] at hmb Hla Hlb
  have h2 := two_at w a b
  have hbel : Below w.heap.size w ((w.alloc (Obj.cells #[Value.bool a.neg, Value.string { data := a.digits.toArray }, Value.int IntKind.i64 a.exp] 24)).alloc (Obj.cells #[Value.bool b.neg, Value.string { data := b.digits.toArray }, Value.int IntKind.i64 b.exp] 24)) := ((Below.refl _ _).alloc (Nat.le_refl _) _).alloc (by simp) _
  have hz2 : DecAt (((w.alloc (Obj.cells #[Value.bool a.neg, Value.string { data := a.digits.toArray }, Value.int IntKind.i64 a.exp] 24)).alloc (Obj.cells #[Value.bool b.neg, Value.string { data := b.digits.toArray }, Value.int IntKind.i64 b.exp] 24)).alloc (Obj.cells #[Value.bool false, Value.string { data := #[] }, Value.int IntKind.i64 0] 24)) (w.heap.size + 1 + 1) Dec.zero := DecAt.at _ Dec.zero _ (by simp)
  have hA3 := h2.1.alloc (Obj.cells #[Value.bool false, Value.string { data := #[] }, Value.int IntKind.i64 0] 24)
  have hB3 := h2.2.alloc (Obj.cells #[Value.bool false, Value.string { data := #[] }, Value.int IntKind.i64 0] 24)
  have hbz := hbel.alloc hbel.size (Obj.cells #[Value.bool false, Value.string { data := #[] }, Value.int IntKind.i64 0] 24)
  clear h2 hbel
  have hma := mag_pos m ha2
  have hr : Hid (commonS a b = madeS false (digS (mag a m / Nat.gcd (mag a m) (mag b m) * mag b m)) m) := by show commonS a b = _; rw [hm]; unfold commonS; rw [if_pos (by simp [ha2, hb])]
  have Hm := Lib.hid hm
  clear hm ha hb ha2
  go_enter Tryz.func20, Tryz.ntmps20
  go_upto_region 1 with fail
  generalize (((w.alloc (Obj.cells #[Value.bool a.neg, Value.string { data := a.digits.toArray }, Value.int IntKind.i64 a.exp] 24)).alloc (Obj.cells #[Value.bool b.neg, Value.string { data := b.digits.toArray }, Value.int IntKind.i64 b.exp] 24)).alloc (Obj.cells #[Value.bool false, Value.string { data := #[] }, Value.int IntKind.i64 0] 24)) = w1 at *
  have HA := Lib.hid hA3
  have HB := Lib.hid hB3
  have HZ := Lib.hid hz2
  have hbel := hbz
  have ka2 := hA3.c2
  have kb2 := hB3.c2
  clear hA3 hB3 hz2 hbz
  go_upto_region 2 with fail
  rw [← Hm.out]
  clear ka2 kb2 Hm
  have hS0 : (fun w' => w'.cell? ⟨w.heap.size, 0, none⟩ = some (.bool a.neg) ∧ w'.cell? ⟨w.heap.size, 1, none⟩ = some (.string ⟨a.digits.toArray⟩) ∧ w'.cell? ⟨w.heap.size, 2, none⟩ = some (.int .i64 a.exp) ∧ w'.cell? ⟨w.heap.size + 1, 0, none⟩ = some (.bool b.neg) ∧ w'.cell? ⟨w.heap.size + 1, 1, none⟩ = some (.string ⟨b.digits.toArray⟩) ∧ w'.cell? ⟨w.heap.size + 1, 2, none⟩ = some (.int .i64 b.exp)) w1.drew := ⟨HA.out.c0, HA.out.c1, HA.out.c2, HB.out.c0, HB.out.c1, HB.out.c2⟩
  refine wp_region_held_drew (S := (fun w' => w'.cell? ⟨w.heap.size, 0, none⟩ = some (.bool a.neg) ∧ w'.cell? ⟨w.heap.size, 1, none⟩ = some (.string ⟨a.digits.toArray⟩) ∧ w'.cell? ⟨w.heap.size, 2, none⟩ = some (.int .i64 a.exp) ∧ w'.cell? ⟨w.heap.size + 1, 0, none⟩ = some (.bool b.neg) ∧ w'.cell? ⟨w.heap.size + 1, 1, none⟩ = some (.string ⟨b.digits.toArray⟩) ∧ w'.cell? ⟨w.heap.size + 1, 2, none⟩ = some (.int .i64 b.exp))) (by kernel_rfl) hS0 (fun hHeld0 => ?_)
  refine held_take (i := 0) (v := ?_) rfl (by kernel_rfl) (by kernel_rfl) (by kernel_rfl) (fun _ _ _ h => h) (by rfl) (fun wq hSq => ?_) hHeld0 ?_
  rotate_left
  · (try dsimp only at hSq); go_simp; try with_reducible rfl
  simp only [Act.put, List.setIfInBounds_toArray, List.set_cons_zero, List.set_cons_succ]
  refine held_take (i := 1) (v := ?_) rfl (by kernel_rfl) (by kernel_rfl) (by kernel_rfl) (fun _ _ _ h => h) (by rfl) (fun wq hSq => ?_) hHeld0 ?_
  rotate_left
  · (try dsimp only at hSq); go_simp; try with_reducible rfl
  simp only [Act.put, List.setIfInBounds_toArray, List.set_cons_zero, List.set_cons_succ]
  refine held_take (i := 3) (v := ?_) rfl (by kernel_rfl) (by kernel_rfl) (by kernel_rfl) (fun _ _ _ h => h) (by rfl) (fun wq hSq => ?_) hHeld0 ?_
  rotate_left
  · (try dsimp only at hSq); go_simp; try with_reducible rfl
  simp only [Act.put, List.setIfInBounds_toArray, List.set_cons_zero, List.set_cons_succ]
  refine held_take (i := 4) (v := ?_) rfl (by kernel_rfl) (by kernel_rfl) (by kernel_rfl) (fun _ _ _ h => h) (by rfl) (fun wq hSq => ?_) hHeld0 ?_
  rotate_left
  · (try dsimp only at hSq); go_simp; try with_reducible rfl
  simp only [Act.put, List.setIfInBounds_toArray, List.set_cons_zero, List.set_cons_succ]
  refine held_step (i := 2) (by kernel_rfl) rfl (by rfl) (fun K hK => ?_)
  go_simp
  refine (scaledR_calls _ a m da (by omega) hm1 (by omega) (by omega)).mono ?_
  rintro e w2 ⟨rfl, hb2⟩
  dsimp only
  have HA2 := HA.out.drew.under hb2
  have HB2 := HB.out.drew.under hb2
  have HZ2 := HZ.out.drew.under hb2
  have hbel2 := hbel.drew.trans (hb2.mono hbel.size)
  clear hb2
  refine hK.out _ _ ⟨HA2.c0, HA2.c1, HA2.c2, HB2.c0, HB2.c1, HB2.c2⟩ (fun hHeld1 => ?_)
  clear hK K hHeld0
  refine held_step (i := 5) (by kernel_rfl) rfl (by rfl) (fun K hK => ?_)
  go_simp
  refine (scaledR_calls _ b m db (by omega) hm2 (by omega) (by omega)).mono ?_
  rintro e w3 ⟨rfl, hb3⟩
  dsimp only
  have HA3 := HA2.under hb3
  have HB3 := HB2.under hb3
  have HZ3 := HZ2.under hb3
  have hbel3 := hbel2.trans (hb3.mono hbel2.size)
  clear hb3
  refine hK.out _ _ ⟨HA3.c0, HA3.c1, HA3.c2, HB3.c0, HB3.c1, HB3.c2⟩ (fun hHeld2 => ?_)
  clear hK K hHeld1
  refine held_take (i := 6) (v := ?_) rfl (by kernel_rfl) (by kernel_rfl) (by kernel_rfl) (fun _ _ _ h => h) (by rfl) (fun wq hSq => ?_) hHeld2 ?_
  rotate_left
  · (try dsimp only at hSq); go_simp; try with_reducible rfl
  simp only [Act.put, List.setIfInBounds_toArray, List.set_cons_zero, List.set_cons_succ]
  refine held_take (i := 7) (v := ?_) rfl (by kernel_rfl) (by kernel_rfl) (by kernel_rfl) (fun _ _ _ h => h) (by rfl) (fun wq hSq => ?_) hHeld2 ?_
  rotate_left
  · (try dsimp only at hSq); go_simp; try with_reducible rfl
  simp only [Act.put, List.setIfInBounds_toArray, List.set_cons_zero, List.set_cons_succ]
  refine wpAnyH_done (by kernel_rfl) ?_ _
  clear hHeld2
  clear hS0 HA HB HZ hbel HA2 HB2 HZ2 hbel2 HA3 HB3
  have HZ4 := Lib.hid HZ3
  clear HZ3
  generalize mag a m = X at *
  generalize mag b m = Y at *
  go_wp2_with fail
  refine (gcdR_calls _ X Y 3000 (by omega) Hla.out Hlb.out).mono ?_
  rintro e w4 ⟨rfl, hb4⟩
  have HZ5 := Lib.hid (HZ4.out.under hb4)
  have hbel4 := hbel3.trans (hb4.mono hbel3.size)
  clear hb4 HZ4 hbel3
  have hgp : 0 < Nat.gcd X Y := Nat.gcd_pos_of_pos_left _ hma
  have hgl : Nat.gcd X Y ≤ X := Nat.le_of_dvd hma (Nat.gcd_dvd_left _ _)
  have hx1 := digS_dig X
  have hg1 := digS_dig (Nat.gcd X Y)
  have hlx := digS_len_le Hla.out
  have hlg := digS_len_le (Nat.lt_of_le_of_lt hgl Hla.out)
  have Hx1 := Lib.hid hx1
  have Hg1 := Lib.hid hg1
  clear hx1 hg1
  generalize Nat.gcd X Y = G at *
  go_wp2_with fail
  refine (divR_calls _ (digS X) (digS G) Hx1.out.1 Hg1.out.1 Hg1.out.2.2 (by rw [Hg1.out.2.1]; exact hgp) (by omega) (by omega)).mono ?_
  rintro e w5 ⟨rfl, hb5⟩
  have HZ6 := Lib.hid (HZ5.out.under hb5)
  have hbel5 := hbel4.trans (hb5.mono hbel4.size)
  clear hb5 HZ5 hbel4
  rw [Hx1.out.2.1, Hg1.out.2.1]
  have hql : X / G ≤ X := Nat.div_le_self _ _
  have hq1 := digS_dig (X / G)
  have hlq := digS_len_le (Nat.lt_of_le_of_lt hql Hla.out)
  have hy1 := digS_dig Y
  have hly := digS_len_le Hlb.out
  have Hq1 := Lib.hid hq1
  have Hy1 := Lib.hid hy1
  clear hq1 hy1 hql hgp hgl hlg hlx Hx1 Hg1
  generalize X / G = QQ at *
  generalize X % G = RR at *
  go_wp2_with fail
  refine (mulR_calls _ (digS QQ) (digS Y) Hq1.out.1 Hy1.out.1 (by omega) (by omega)).mono ?_
  rintro e w6 ⟨rfl, hb6⟩
  have HZ7 := Lib.hid (HZ6.out.under hb6)
  have hbel6 := hbel5.trans (hb6.mono hbel5.size)
  clear hb6 HZ6 hbel5
  rw [Hq1.out.2.1, Hy1.out.2.1]
  have hpl : (digS (QQ * Y)).length ≤ 6000 := by
    have h1 := dval_lt Hq1.out.1
    have h2 := dval_lt Hy1.out.1
    rw [Hq1.out.2.1] at h1
    rw [Hy1.out.2.1] at h2
    have h3 : QQ * Y < 10 ^ ((digS QQ).length + (digS Y).length) := by
      rw [Nat.pow_add]
      exact Nat.lt_of_le_of_lt (Nat.mul_le_mul_left _ (Nat.le_of_lt h2)) (Nat.mul_lt_mul_of_pos_right h1 (Nat.pow_pos (by omega)))
    have := digS_len_le h3
    omega
  clear Hq1 Hy1 hlq hly
  generalize QQ * Y = PP at *
  go_wp2_with fail
  refine (madeR_calls _ false (digS PP) m (by omega) (by omega) (by omega)).mono ?_
  rintro e w7 ⟨⟨x, bb, rfl, hx⟩, hb7⟩
  simp only [DecV]
  have hz3 := (HZ7.out.under hb7).alloc (Obj.cells #[Value.bool x.neg, Value.string { data := x.digits.toArray }, Value.int IntKind.i64 x.exp] 24)
  have hx3 := DecAt.at w7 x _ rfl
  have hbel7 := hbel6.trans (hb7.mono hbel6.size)
  have hbel8 := hbel7.alloc hbel7.size (Obj.cells #[Value.bool x.neg, Value.string { data := x.digits.toArray }, Value.int IntKind.i64 x.exp] 24)
  clear HZ7 hb7 hbel6 hbel7
  have c0 := hz3.c0
  have c1 := hz3.c1
  have c2 := hz3.c2
  have f0 := hz3.f0
  have f1 := hz3.f1
  have f2 := hz3.f2
  have x0 := hx3.c0
  have x1 := hx3.c1
  have x2 := hx3.c2
  simp only [Dec.zero] at c0 c1 c2
  clear hz3 hx3
  have Hx := Lib.hid hx
  clear hx
  cases bb with
  | true =>
    have HP : Hid (commonS a b = (x, 0)) := by
      rcases Hx.out with ⟨_, h⟩ | ⟨h, _⟩
      · show commonS a b = _; rw [hr.out, h]
      · cases h
    clear Hx hr
    have hbe := ((hbel8.setCell (p := ⟨w.heap.size + 1 + 1, 0, none⟩) (by simp; omega) (.bool x.neg)).setCell (p := ⟨w.heap.size + 1 + 1, 1, none⟩) (by simp; omega) (.string ⟨x.digits.toArray⟩)).setCell (p := ⟨w.heap.size + 1 + 1, 2, none⟩) (by simp; omega) (.int .i64 x.exp)
    go_wp2_with fail
    refine bodyPost_ret (v := .tuple #[.agg #[.bool x.neg, .string ⟨x.digits.toArray⟩, .int .i64 x.exp], .int .i64 0]) (by simp [results, Tryz.results20, go_sem, c0, c1, c2]) rfl ?_
    rw [HP.out]
    exact ⟨rfl, hbe⟩
  | false =>
    have HP : Hid (commonS a b = (Dec.zero, 4)) := by
      rcases Hx.out with ⟨h, _⟩ | ⟨_, h⟩
      · cases h
      · show commonS a b = _; rw [hr.out, h]
    clear Hx hr
    have hbe := ((hbel8.setCell (p := ⟨w.heap.size + 1 + 1, 0, none⟩) (by simp; omega) (.bool false)).setCell (p := ⟨w.heap.size + 1 + 1, 1, none⟩) (by simp; omega) (.string ⟨#[]⟩)).setCell (p := ⟨w.heap.size + 1 + 1, 2, none⟩) (by simp; omega) (.int .i64 0)
    go_wp2_with fail
    refine bodyPost_ret (v := .tuple #[.agg #[.bool false, .string ⟨#[]⟩, .int .i64 0], .int .i64 4]) (by simp [results, Tryz.results20, go_sem, c0, c1, c2]) rfl ?_
    rw [HP.out]
    exact ⟨rfl, hbe⟩
end Go.Proofs.YtkakmjdfecbhaaaGreatDoor
