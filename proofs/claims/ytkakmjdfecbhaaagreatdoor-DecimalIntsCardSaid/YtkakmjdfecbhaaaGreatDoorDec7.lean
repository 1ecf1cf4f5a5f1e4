/- The walk of Mul: over any world, any two decimals. -/
import Derived.Test.YtkakmjdfecbhaaaGreatDoorDec6
namespace Go.Proofs.YtkakmjdfecbhaaaGreatDoor
open Go.RowKit

theorem keep_set3 {w : World} {b c i : Nat} {u0 u1 u2 v : Value} (hne : b ≠ c) (h : w.cell? ⟨b, i, none⟩ = some v) :
    (((w.setCell ⟨c, 0, none⟩ u0).setCell ⟨c, 1, none⟩ u1).setCell ⟨c, 2, none⟩ u2).cell? ⟨b, i, none⟩ = some v := by
  have e : (((w.setCell ⟨c, 0, none⟩ u0).setCell ⟨c, 1, none⟩ u1).setCell ⟨c, 2, none⟩ u2).heap[b]? = w.heap[b]? := by
    rw [Below.heap_setCell _ _ _ _ hne, Below.heap_setCell _ _ _ _ hne, Below.heap_setCell _ _ _ _ hne]
  exact (World.cell?_of_block (w := w) e).trans h
theorem may2 {a b : Dec} (h : mayAll [a, b] = true) : mayB a = true ∧ mayB b = true := by simpa [mayAll] using h

set_option maxHeartbeats 800000 in
set_option maxRecDepth 100000 in
theorem prod_calls (w : World) (a b : Dec) (ha : a.digits.length ≤ 10000000000) (hb : b.digits.length ≤ 10000000000) :
    Calls Tryz.prog 13 #[.agg #[.bool a.neg, .string ⟨a.digits.toArray⟩, .int .i64 a.exp], .agg #[.bool b.neg, .string ⟨b.digits.toArray⟩, .int .i64 b.exp]] w fun e w' => e = .returned (.tuple #[DecV (mulS a b).1, .int .i64 (mulS a b).2]) ∧ Below w.heap.size w w' := by
  have h1 := ((DecAt.at w a _ rfl).alloc (Obj.cells #[Value.bool b.neg, Value.string { data := b.digits.toArray }, Value.int IntKind.i64 b.exp] 24)).alloc (Obj.cells #[Value.bool false, Value.string { data := #[] }, Value.int IntKind.i64 0] 24)
  have h2 := (DecAt.at (w.alloc (Obj.cells #[Value.bool a.neg, Value.string { data := a.digits.toArray }, Value.int IntKind.i64 a.exp] 24)) b (w.heap.size + 1) (by simp)).alloc (Obj.cells #[Value.bool false, Value.string { data := #[] }, Value.int IntKind.i64 0] 24)
  have h3 := DecAt.at ((w.alloc (Obj.cells #[Value.bool a.neg, Value.string { data := a.digits.toArray }, Value.int IntKind.i64 a.exp] 24)).alloc (Obj.cells #[Value.bool b.neg, Value.string { data := b.digits.toArray }, Value.int IntKind.i64 b.exp] 24)) Dec.zero (w.heap.size + 1 + 1) (by simp)
  have hbel : Below w.heap.size w (((w.alloc (Obj.cells #[Value.bool a.neg, Value.string { data := a.digits.toArray }, Value.int IntKind.i64 a.exp] 24)).alloc (Obj.cells #[Value.bool b.neg, Value.string { data := b.digits.toArray }, Value.int IntKind.i64 b.exp] 24)).alloc (Obj.cells #[Value.bool false, Value.string { data := #[] }, Value.int IntKind.i64 0] 24)) :=
    (((Below.refl _ _).alloc (Nat.le_refl _) _).alloc (by simp) _).alloc (by simp; omega) _
  simp only [Dec.zero, List.toArray] at h3
  have H1 := Lib.hid h1
  have H2 := Lib.hid h2
  have H3 := Lib.hid h3
  clear h1 h2 h3
  go_enter Tryz.func13, Tryz.ntmps13
  go_wp2_with fail
  have h1 := H1.out
  have h2 := H2.out
  have h3 := H3.out
  have hz : (((w.alloc (Obj.cells #[Value.bool a.neg, Value.string { data := a.digits.toArray }, Value.int IntKind.i64 a.exp] 24)).alloc (Obj.cells #[Value.bool b.neg, Value.string { data := b.digits.toArray }, Value.int IntKind.i64 b.exp] 24)).alloc (Obj.cells #[Value.bool false, Value.string { data := #[] }, Value.int IntKind.i64 0] 24)).heap.size = w.heap.size + 1 + 1 + 1 := by simp
  clear H1 H2 H3
  generalize (((w.alloc (Obj.cells #[Value.bool a.neg, Value.string { data := a.digits.toArray }, Value.int IntKind.i64 a.exp] 24)).alloc (Obj.cells #[Value.bool b.neg, Value.string { data := b.digits.toArray }, Value.int IntKind.i64 b.exp] 24)).alloc (Obj.cells #[Value.bool false, Value.string { data := #[] }, Value.int IntKind.i64 0] 24)) = w1 at *
  have hs1 := DecsAt.two w1 a b ha hb
  rw [hz] at hs1
  have hb1 : Below w1.heap.size w1 (w1.alloc (Obj.cells #[Value.bool a.neg, Value.string { data := a.digits.toArray }, Value.int IntKind.i64 a.exp, Value.bool b.neg, Value.string { data := b.digits.toArray }, Value.int IntKind.i64 b.exp] 24)) := (Below.refl _ _).alloc (Nat.le_refl _) _
  refine (checked_calls _ _ [a, b] hs1).mono ?_
  rintro e w2 ⟨rfl, hb2⟩
  have hb12 := hb1.trans (hb2.mono hb1.size)
  have h1' := h1.under hb12
  have h2' := h2.under hb12
  have h3' := h3.under hb12
  have hbel2 := hbel.trans (hb12.mono hbel.size)
  clear h1 h2 h3 hbel hb1 hb2 hb12 hs1 hz
  have r0 : w2.cell? ⟨w.heap.size + 1 + 1, 0, none⟩ = some (.bool false) := h3'.c0
  have r1 : w2.cell? ⟨w.heap.size + 1 + 1, 1, none⟩ = some (.string ⟨#[]⟩) := h3'.c1
  have r2 : w2.cell? ⟨w.heap.size + 1 + 1, 2, none⟩ = some (.int .i64 0) := h3'.c2
  have r3 := h3'.f0
  have r4 := h3'.f1
  have r5 := h3'.f2
  cases hm : mayAll [a, b] with
  | false =>
    have hk : chkAll [a, b] = 2 := by simp [chkAll, hm]
    have hs : mulS a b = (Dec.zero, 2) := by simp [mulS, hm]
    have Hs := Lib.hid hs
    rw [hk]
    clear hm hk hs h1' h2' h3'
    go_wp2_with fail
    refine bodyPost_ret (v := .tuple #[.agg #[.bool false, .string ⟨#[]⟩, .int .i64 0], .int .i64 2]) (by simp [results, Tryz.results13, go_sem, r0, r1, r2]) rfl ?_
    rw [Hs.out]
    exact ⟨rfl, by go_grown⟩
  | true =>
    have hk : chkAll [a, b] = 0 := by simp [chkAll, hm]
    have hs : mulS a b = madeS (a.neg != b.neg) (digS (dval a.digits * dval b.digits)) (a.exp + b.exp) := by simp [mulS, hm]
    obtain ⟨hma, hmb⟩ := may2 hm
    obtain ⟨hga, hla, hxa, hya⟩ := may_bounds hma
    obtain ⟨hgb, hlb, hxb, hyb⟩ := may_bounds hmb
    have Hs := Lib.hid hs
    have Hga := Lib.hid hga
    have Hgb := Lib.hid hgb
    have hwr : IntKind.i64.wrap (a.exp + b.exp) = a.exp + b.exp := IntWalk.i64_in _ (by omega)
    rw [hk]
    clear hm hk hs hma hmb hga hgb r0 r1 r2 r3 r4 r5
    have hla1 : a.digits.length ≤ 1000000000 := by omega
    have hlb1 : b.digits.length ≤ 1000000000 := by omega
    have hx1 : -1000000000000 ≤ a.exp + b.exp := by omega
    have hx2 : a.exp + b.exp ≤ 1000000000000 := by omega
    have hn1 : w.heap.size ≠ w.heap.size + 1 + 1 := by omega
    have hn2 : w.heap.size + 1 ≠ w.heap.size + 1 + 1 := by omega
    have H1 := Lib.hid h1'
    have H2 := Lib.hid h2'
    have H3 := Lib.hid h3'
    clear h1' h2' h3'
    go_upto_region 4 with fail
    have k0 := H1.out.c0
    have k1 := H1.out.c1
    have k2 := H1.out.c2
    have k3 := H2.out.c0
    have k4 := H2.out.c1
    have k5 := H2.out.c2
    go_region_held3 (fun w' => w'.cell? ⟨w.heap.size, 0, none⟩ = some (.bool a.neg) ∧ w'.cell? ⟨w.heap.size, 1, none⟩ = some (.string ⟨a.digits.toArray⟩) ∧ w'.cell? ⟨w.heap.size, 2, none⟩ = some (.int .i64 a.exp) ∧ w'.cell? ⟨w.heap.size + 1, 0, none⟩ = some (.bool b.neg) ∧ w'.cell? ⟨w.heap.size + 1, 1, none⟩ = some (.string ⟨b.digits.toArray⟩) ∧ w'.cell? ⟨w.heap.size + 1, 2, none⟩ = some (.int .i64 b.exp))
      (first | (with_reducible exact ⟨k0, k1, k2, k3, k4, k5⟩) | (with_reducible exact ⟨keep_set3 hn1 k0, keep_set3 hn1 k1, keep_set3 hn1 k2, keep_set3 hn2 k3, keep_set3 hn2 k4, keep_set3 hn2 k5⟩) | go_keep)
      (first
        | (go_at_call 37; have hvaB0 := hva; refine (natural_calls _ b.digits Hgb.out hlb1).mono ?_; rintro e wB ⟨vb, ys, rfl, hvb, nyb, hvy, lyb, hbB⟩; have Hvy := Lib.hid hvy; clear hvy; have h1B := Lib.hid (h1A.out.under hbB); have h2B := Lib.hid (h2A.out.under hbB); have h3B := Lib.hid (h3A.out.under hbB); have hvaB := hva.below hbB; have belB := belA.trans (hbB.mono belA.size); clear hbB; have k0 := h1B.out.c0; have k1 := h1B.out.c1; have k2 := h1B.out.c2; have k3 := h2B.out.c0; have k4 := h2B.out.c1; have k5 := h2B.out.c2)
        | (go_at_call 37; refine (natural_calls _ a.digits Hga.out hla1).mono ?_; rintro e wA ⟨va, xs, rfl, hva, nxa, hvx, lxa, hbA⟩; have Hvx := Lib.hid hvx; clear hvx; have qA : Below w2.heap.size w2 wA := (by first | exact hbA | exact (Below.refl _ w2).drew.trans hbA); have h1A := Lib.hid (H1.out.under qA); have h2A := Lib.hid (H2.out.under qA); have h3A := Lib.hid (H3.out.under qA); have belA := hbel2.trans (qA.mono hbel2.size); clear hbA qA; have k0 := h1A.out.c0; have k1 := h1A.out.c1; have k2 := h1A.out.c2; have k3 := h2A.out.c0; have k4 := h2A.out.c1; have k5 := h2A.out.c2)
        | (go_at_call 38; refine (mul_calls _ _ _ va vb xs ys hvaB hvb nxa.1 nyb.1 (by omega) (by omega)).mono ?_; rintro e wC ⟨vc, zs, rfl, hvc, nzc, hvz, lzc, hbC⟩; have Hvz := Lib.hid hvz; clear hvz; have h1C := Lib.hid (h1B.out.under hbC); have h2C := Lib.hid (h2B.out.under hbC); have h3C := Lib.hid (h3B.out.under hbC); have belC := belB.trans (hbC.mono belB.size); clear hbC; have k0 := h1C.out.c0; have k1 := h1C.out.c1; have k2 := h1C.out.c2; have k3 := h2C.out.c0; have k4 := h2C.out.c1; have k5 := h2C.out.c2)
        | (go_at_call 31; refine (digits_of _ _ vc zs (dval a.digits * dval b.digits) hvc nzc.1 (by omega) (by rw [Hvz.out, Hvx.out, Hvy.out])).mono ?_; rintro e wD ⟨rfl, hlD, hbD⟩; have h1D := Lib.hid (h1C.out.under hbD); have h2D := Lib.hid (h2C.out.under hbD); have h3D := Lib.hid (h3C.out.under hbD); have belD := belC.trans (hbD.mono belC.size); clear hbD; have k0 := h1D.out.c0; have k1 := h1D.out.c1; have k2 := h1D.out.c2; have k3 := h2D.out.c0; have k4 := h2D.out.c1; have k5 := h2D.out.c2)
        | (go_at_call 30; refine (made_calls _ (a.neg != b.neg) (digS (dval a.digits * dval b.digits)) (a.exp + b.exp) (by omega) hx1 hx2).mono ?_; rintro e wE ⟨rfl, hbE⟩; rw [← Hs.out]; generalize hM : mulS a b = m; have HM := Lib.hid hM; clear hM; obtain ⟨⟨mn, md, me⟩, mc⟩ := m; simp only [DecV]; have h1E := Lib.hid (h1D.out.under hbE); have h2E := Lib.hid (h2D.out.under hbE); have h3E := Lib.hid (h3D.out.under hbE); have belE := belD.trans (hbE.mono belD.size); clear hbE; have k0 := h1E.out.c0; have k1 := h1E.out.c1; have k2 := h1E.out.c2; have k3 := h2E.out.c0; have k4 := h2E.out.c1; have k5 := h2E.out.c2; have r0 : wE.cell? ⟨w.heap.size + 1 + 1, 0, none⟩ = some (.bool false) := h3E.out.c0; have r1 : wE.cell? ⟨w.heap.size + 1 + 1, 1, none⟩ = some (.string ⟨#[]⟩) := h3E.out.c1; have r2 : wE.cell? ⟨w.heap.size + 1 + 1, 2, none⟩ = some (.int .i64 0) := h3E.out.c2; have r3 := h3E.out.f0; have r4 := h3E.out.f1; have r5 := h3E.out.f2))
    all_goals
      go_wp2_with fail
      refine bodyPost_ret (v := .tuple #[.agg #[.bool mn, .string ⟨md.toArray⟩, .int .i64 me], .int .i64 mc]) (by simp [results, Tryz.results13, go_sem, r0, r1, r2]) rfl ?_
      rw [HM.out]
      exact ⟨rfl, by go_grown⟩
end Go.Proofs.YtkakmjdfecbhaaaGreatDoor
