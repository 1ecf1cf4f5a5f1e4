/- The walks of Multiple and Common: over any world, any two decimals. -/
import Derived.Test.YtkakmjdfecbhaaaGreatDoorDec8
namespace Go.Proofs.YtkakmjdfecbhaaaGreatDoor
open Go.RowKit

theorem pos_val {d : Dec} (h : posB d = true) : mayB d = true ∧ 0 < dval d.digits := by
  simp only [posB, Bool.and_eq_true] at h
  obtain ⟨⟨h1, _⟩, h2⟩ := h
  refine ⟨h1, ?_⟩
  cases hd : d.digits with
  | nil => simp [hd] at h2
  | cons c t =>
    simp only [mayB, hd, Bool.and_eq_true, decide_eq_true_eq] at h1
    obtain ⟨⟨⟨⟨⟨h1, _⟩, h3⟩, _⟩, _⟩, _⟩ := h1
    have := dval_low ((digAll_iff _).1 h1) (by simpa using h3)
    have : 0 < 10 ^ t.length := Nat.pow_pos (by omega)
    omega
theorem mag_pos {d : Dec} (e : Int) (h : posB d = true) : 0 < mag d e := by
  have := (pos_val h).2
  exact Nat.mul_pos this (Nat.pow_pos (by omega))
theorem posAll_one (d : Dec) : posAll [d] = posB d := by simp [posAll]
theorem posAll_two (a b : Dec) : posAll [a, b] = (posB a && posB b) := by simp [posAll]
theorem least_two {a b : Dec} (ha : mayB a = true) (hb : mayB b = true) : leastS [a, b] ≤ a.exp ∧ leastS [a, b] ≤ b.exp ∧ -1000 ≤ leastS [a, b] := by
  obtain ⟨_, _, h1, _⟩ := may_bounds ha
  obtain ⟨_, _, h2, _⟩ := may_bounds hb
  have h := leastS_le [a, b]
  refine ⟨h.2 a (by simp), h.2 b (by simp), leastS_ge [a, b] _ (by omega) ?_⟩
  intro d hd
  simp at hd
  rcases hd with rfl | rfl <;> omega

set_option maxHeartbeats 2000000 in
set_option maxRecDepth 100000 in
theorem multiple_calls (w : World) (d b : Dec) (hd : d.digits.length ≤ 10000000000) (hb : b.digits.length ≤ 10000000000) :
    Calls Tryz.prog 17 #[.agg #[.bool d.neg, .string ⟨d.digits.toArray⟩, .int .i64 d.exp], .agg #[.bool b.neg, .string ⟨b.digits.toArray⟩, .int .i64 b.exp]] w fun e w' => e = .returned (.tuple #[.bool (multipleS d b).1, .int .i64 (multipleS d b).2]) ∧ Below w.heap.size w w' := by
  have h1 := ((DecAt.at w d _ rfl).alloc (Obj.cells #[Value.bool b.neg, Value.string { data := b.digits.toArray }, Value.int IntKind.i64 b.exp] 24))
  have h2 := (DecAt.at (w.alloc (Obj.cells #[Value.bool d.neg, Value.string { data := d.digits.toArray }, Value.int IntKind.i64 d.exp] 24)) b (w.heap.size + 1) (by simp))
  have hbel : Below w.heap.size w ((w.alloc (Obj.cells #[Value.bool d.neg, Value.string { data := d.digits.toArray }, Value.int IntKind.i64 d.exp] 24)).alloc (Obj.cells #[Value.bool b.neg, Value.string { data := b.digits.toArray }, Value.int IntKind.i64 b.exp] 24)) :=
    ((Below.refl _ _).alloc (Nat.le_refl _) _).alloc (by simp) _
  have H1 := Lib.hid h1
  have H2 := Lib.hid h2
  clear h1 h2
  go_enter Tryz.func17, Tryz.ntmps17
  go_wp2_with fail
  have h1 := H1.out
  have h2 := H2.out
  clear H1 H2
  generalize ((w.alloc (Obj.cells #[Value.bool d.neg, Value.string { data := d.digits.toArray }, Value.int IntKind.i64 d.exp] 24)).alloc (Obj.cells #[Value.bool b.neg, Value.string { data := b.digits.toArray }, Value.int IntKind.i64 b.exp] 24)) = w1 at *
  refine (check_calls _ d (by omega)).mono ?_
  rintro e w2 ⟨rfl, hb2⟩
  have H1 := Lib.hid (h1.under hb2)
  have H2 := Lib.hid (h2.under hb2)
  have hbel2 := hbel.trans (hb2.mono hbel.size)
  clear h1 h2 hbel hb2
  cases hm : mayB d with
  | false =>
    have hk : chk d = 2 := by simp [chk, hm]
    have hs : multipleS d b = (false, 2) := by simp [multipleS, hm]
    have Hs := Lib.hid hs
    rw [hk]
    clear hm hk hs
    go_wp2_with fail
    go_ret2
    rw [Hs.out]
    exact ⟨rfl, hbel2⟩
  | true =>
    have hk : chk d = 0 := by simp [chk, hm]
    have Hm := Lib.hid hm
    have k3 := H2.out.c0
    have k4 := H2.out.c1
    have k5 := H2.out.c2
    rw [hk]
    clear hm hk
    go_wp2_with fail
    refine (above_calls _ _ [b] (DecsAt.one w2 b hb)).mono ?_
    rintro e w3 ⟨rfl, hb3⟩
    rw [posAll_one]
    have hb23 : Below w2.heap.size w2 w3 := ((Below.refl _ _).alloc (Nat.le_refl _) _).trans (hb3.mono (by simp))
    have h1 := Lib.hid (H1.out.under hb23)
    have h2 := Lib.hid (H2.out.under hb23)
    have hbel3 := hbel2.trans (hb23.mono hbel2.size)
    clear k3 k4 k5 H1 H2 hbel2 hb3 hb23
    cases hp : posB b with
    | false =>
      have hs : multipleS d b = (false, 2) := by simp [multipleS, hp]
      have Hs := Lib.hid hs
      clear hp hs
      go_wp2_with fail
      go_ret2
      rw [Hs.out]
      exact ⟨rfl, hbel3⟩
    | true =>
      have hs : multipleS d b = (decide (mag d (leastS [d, b]) % mag b (leastS [d, b]) = 0), 0) := by simp [multipleS, hp, Hm.out]
      have Hs := Lib.hid hs
      obtain ⟨he1, he2, he3⟩ := least_two Hm.out (pos_val hp).1
      have Hmb := Lib.hid (pos_val hp).1
      have hmp := mag_pos (leastS [d, b]) hp
      have k0 := h1.out.c0
      have k1 := h1.out.c1
      have k2 := h1.out.c2
      have k3 := h2.out.c0
      have k4 := h2.out.c1
      have k5 := h2.out.c2
      clear hp hs
      go_wp2_with fail
      refine (least_calls _ _ [d, b] (DecsAt.two w3 d b hd hb)).mono ?_
      rintro e w4 ⟨rfl, hb4⟩
      have hb34 : Below w3.heap.size w3 w4 := ((Below.refl _ _).alloc (Nat.le_refl _) _).trans (hb4.mono (by simp))
      have H1 := Lib.hid (h1.out.under hb34)
      have H2 := Lib.hid (h2.out.under hb34)
      have hbel4 := hbel3.trans (hb34.mono hbel3.size)
      clear k0 k1 k2 k3 k4 k5 h1 h2 hbel3 hb4 hb34
      have k0 := H1.out.c0
      have k1 := H1.out.c1
      have k2 := H1.out.c2
      have k3 := H2.out.c0
      have k4 := H2.out.c1
      have k5 := H2.out.c2
      generalize leastS [d, b] = ex at *
      have hex : -100000000 ≤ ex := by omega
      go_upto_region 4 with fail
      go_region_held3 (fun w' => w'.cell? ⟨w.heap.size, 0, none⟩ = some (.bool d.neg) ∧ w'.cell? ⟨w.heap.size, 1, none⟩ = some (.string ⟨d.digits.toArray⟩) ∧ w'.cell? ⟨w.heap.size, 2, none⟩ = some (.int .i64 d.exp) ∧ w'.cell? ⟨w.heap.size + 1, 0, none⟩ = some (.bool b.neg) ∧ w'.cell? ⟨w.heap.size + 1, 1, none⟩ = some (.string ⟨b.digits.toArray⟩) ∧ w'.cell? ⟨w.heap.size + 1, 2, none⟩ = some (.int .i64 b.exp))
        (first | (with_reducible exact ⟨k0, k1, k2, k3, k4, k5⟩) | exact ⟨k0, k1, k2, k3, k4, k5⟩ | go_keep)
        (first
          | (go_at_call 43; have hvaB0 := hva; refine (scaled_calls _ b ex Hmb.out he2 hex).mono ?_; rintro e wB ⟨vb, ys, rfl, hvb, nyb, hvy, lyb, hbB⟩; have Hvy := Lib.hid hvy; clear hvy; have h1B := Lib.hid (h1A.out.under hbB); have h2B := Lib.hid (h2A.out.under hbB); have hvaB := hva.below hbB; have belB := belA.trans (hbB.mono belA.size); clear hbB; have k0 := h1B.out.c0; have k1 := h1B.out.c1; have k2 := h1B.out.c2; have k3 := h2B.out.c0; have k4 := h2B.out.c1; have k5 := h2B.out.c2)
          | (go_at_call 43; refine (scaled_calls _ d ex Hm.out he1 hex).mono ?_; rintro e wA ⟨va, xs, rfl, hva, nxa, hvx, lxa, hbA⟩; have Hvx := Lib.hid hvx; clear hvx; have qA : Below w4.heap.size w4 wA := (by first | exact hbA | exact (Below.refl _ w4).drew.trans hbA); have h1A := Lib.hid (H1.out.under qA); have h2A := Lib.hid (H2.out.under qA); have belA := hbel4.trans (qA.mono hbel4.size); clear hbA qA; have k0 := h1A.out.c0; have k1 := h1A.out.c1; have k2 := h1A.out.c2; have k3 := h2A.out.c0; have k4 := h2A.out.c1; have k5 := h2A.out.c2)
          | (go_at_call 44; refine (div_calls _ _ _ va vb xs ys hvaB hvb nxa.1 nyb (by rw [Hvy.out]; exact hmp) (by omega) (by omega)).mono ?_; rintro e wC ⟨v1, v2, qs, rs, rfl, hv1, hv2, nq, nr, hvq, hvr, lq, lr, hbC⟩; have Hvr := Lib.hid hvr; clear hvr hvq hv1 nq lq; obtain ⟨p2, cap2, rfl⟩ := hv2.form; have h1C := Lib.hid (h1B.out.under hbC); have h2C := Lib.hid (h2B.out.under hbC); have belC := belB.trans (hbC.mono belB.size); clear hbC; have k0 := h1C.out.c0; have k1 := h1C.out.c1; have k2 := h1C.out.c2; have k3 := h2C.out.c0; have k4 := h2C.out.c1; have k5 := h2C.out.c2))
      all_goals
        clear k0 k1 k2 k3 k4 k5
        have hrz : (decide (mag d ex % mag b ex = 0)) = ((rs.length : Int) == 0) := by
          have hz := Norm_zero nr
          have e1 : val rs = mag d ex % mag b ex := by rw [Hvr.out, Hvx.out, Hvy.out]; rfl
          rw [e1] at hz
          by_cases h0 : mag d ex % mag b ex = 0
          · have := hz.1 h0
            simp [h0, this]
          · have : rs ≠ [] := fun h => h0 (hz.2 h)
            have : 0 < rs.length := List.length_pos_iff.2 this
            rw [decide_eq_false h0]
            symm
            rw [beq_eq_false_iff_ne]
            omega
        have Hrz := Lib.hid hrz
        clear hrz
        go_wp2_with fail
        go_ret2
        rw [Hs.out, Hrz.out]
        exact ⟨rfl, belC⟩
end Go.Proofs.YtkakmjdfecbhaaaGreatDoor
