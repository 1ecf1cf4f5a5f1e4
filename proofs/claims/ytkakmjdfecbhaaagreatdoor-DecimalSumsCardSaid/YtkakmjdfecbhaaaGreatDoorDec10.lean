/- The walk of Common: over any world, any two decimals. -/
import Derived.Test.YtkakmjdfecbhaaaGreatDoorDec9
namespace Go.Proofs.YtkakmjdfecbhaaaGreatDoor
open Go.RowKit

set_option maxHeartbeats 2000000 in
set_option maxRecDepth 100000 in
theorem commond_calls (w : World) (a b : Dec) (ha : a.digits.length ≤ 10000000000) (hb : b.digits.length ≤ 10000000000) :
    Calls Tryz.prog 18 #[.agg #[.bool a.neg, .string ⟨a.digits.toArray⟩, .int .i64 a.exp], .agg #[.bool b.neg, .string ⟨b.digits.toArray⟩, .int .i64 b.exp]] w fun e w' => e = .returned (.tuple #[DecV (commonS a b).1, .int .i64 (commonS a b).2]) ∧ Below w.heap.size w w' := by
  have h1 := ((DecAt.at w a _ rfl).alloc (Obj.cells #[Value.bool b.neg, Value.string { data := b.digits.toArray }, Value.int IntKind.i64 b.exp] 24)).alloc (Obj.cells #[Value.bool false, Value.string { data := #[] }, Value.int IntKind.i64 0] 24)
  have h2 := (DecAt.at (w.alloc (Obj.cells #[Value.bool a.neg, Value.string { data := a.digits.toArray }, Value.int IntKind.i64 a.exp] 24)) b (w.heap.size + 1) (by simp)).alloc (Obj.cells #[Value.bool false, Value.string { data := #[] }, Value.int IntKind.i64 0] 24)
  have h3 := DecAt.at ((w.alloc (Obj.cells #[Value.bool a.neg, Value.string { data := a.digits.toArray }, Value.int IntKind.i64 a.exp] 24)).alloc (Obj.cells #[Value.bool b.neg, Value.string { data := b.digits.toArray }, Value.int IntKind.i64 b.exp] 24)) Dec.zero (w.heap.size + 1 + 1) (by simp)
  have hbel : Below w.heap.size w (((w.alloc (Obj.cells #[Value.bool a.neg, Value.string { data := a.digits.toArray }, Value.int IntKind.i64 a.exp] 24)).alloc (Obj.cells #[Value.bool b.neg, Value.string { data := b.digits.toArray }, Value.int IntKind.i64 b.exp] 24)).alloc (Obj.cells #[Value.bool false, Value.string { data := #[] }, Value.int IntKind.i64 0] 24)) :=
    (((Below.refl _ _).alloc (Nat.le_refl _) _).alloc (by simp) _).alloc (by simp; omega) _
  simp only [Dec.zero, List.toArray] at h3
  have H1 := Lib.hid h1
  have H2 := Lib.hid h2
  have H3 := Lib.hid h3
  clear h1 h2 h3
  go_enter Tryz.func18, Tryz.ntmps18
  go_wp2_with fail
  have h1 := H1.out
  have h2 := H2.out
  have h3 := H3.out
  have hz : (((w.alloc (Obj.cells #[Value.bool a.neg, Value.string { data := a.digits.toArray }, Value.int IntKind.i64 a.exp] 24)).alloc (Obj.cells #[Value.bool b.neg, Value.string { data := b.digits.toArray }, Value.int IntKind.i64 b.exp] 24)).alloc (Obj.cells #[Value.bool false, Value.string { data := #[] }, Value.int IntKind.i64 0] 24)).heap.size = w.heap.size + 1 + 1 + 1 := by simp
  clear H1 H2 H3
  generalize (((w.alloc (Obj.cells #[Value.bool a.neg, Value.string { data := a.digits.toArray }, Value.int IntKind.i64 a.exp] 24)).alloc (Obj.cells #[Value.bool b.neg, Value.string { data := b.digits.toArray }, Value.int IntKind.i64 b.exp] 24)).alloc (Obj.cells #[Value.bool false, Value.string { data := #[] }, Value.int IntKind.i64 0] 24)) = w1 at *
  have hs1 := DecsAt.two w1 a b ha hb
  rw [hz] at hs1
  have hb1 : Below w1.heap.size w1 (w1.alloc (Obj.cells #[Value.bool a.neg, Value.string { data := a.digits.toArray }, Value.int IntKind.i64 a.exp, Value.bool b.neg, Value.string { data := b.digits.toArray }, Value.int IntKind.i64 b.exp] 24)) := (Below.refl _ _).alloc (Nat.le_refl _) _
  refine (above_calls _ _ [a, b] hs1).mono ?_
  rintro e w2 ⟨rfl, hb2⟩
  rw [posAll_two]
  have hb12 := hb1.trans (hb2.mono hb1.size)
  have h1' := h1.under hb12
  have h2' := h2.under hb12
  have h3' := h3.under hb12
  have hbel2 := hbel.trans (hb12.mono hbel.size)
  clear h1 h2 h3 hbel hb1 hb2 hb12 hs1 hz
  have r0 : w2.cell? ⟨w.heap.size + 1 + 1, 0, none⟩ = some (.bool false) := h3'.c0
  have r1 : w2.cell? ⟨w.heap.size + 1 + 1, 1, none⟩ = some (.string ⟨#[]⟩) := h3'.c1
  have r2 : w2.cell? ⟨w.heap.size + 1 + 1, 2, none⟩ = some (.int .i64 0) := h3'.c2
  have r3 := h3'.f0
  have r4 := h3'.f1
  have r5 := h3'.f2
  cases hm : (posB a && posB b) with
  | false =>
    have hs : commonS a b = (Dec.zero, 2) := by simp only [commonS, hm]; rfl
    have Hs := Lib.hid hs
    clear hm hs h1' h2' h3'
    go_wp2_with fail
    refine bodyPost_ret (v := .tuple #[.agg #[.bool false, .string ⟨#[]⟩, .int .i64 0], .int .i64 2]) (by simp [results, Tryz.results18, go_sem, r0, r1, r2]) rfl ?_
    rw [Hs.out]
    exact ⟨rfl, by go_grown⟩
  | true =>
    have hs : commonS a b = madeS false (digS (mag a (min a.exp b.exp) / Nat.gcd (mag a (min a.exp b.exp)) (mag b (min a.exp b.exp)) * mag b (min a.exp b.exp))) (min a.exp b.exp) := by simp only [commonS, hm, if_true]
    simp only [Bool.and_eq_true] at hm
    obtain ⟨hpa, hpb⟩ := hm
    obtain ⟨hga, hla, hxa, hya⟩ := may_bounds (pos_val hpa).1
    obtain ⟨hgb, hlb, hxb, hyb⟩ := may_bounds (pos_val hpb).1
    have Hs := Lib.hid hs
    have Hma := Lib.hid (pos_val hpa).1
    have Hmb := Lib.hid (pos_val hpb).1
    have hmp := mag_pos (min a.exp b.exp) hpb
    have hmpa := mag_pos (min a.exp b.exp) hpa
    have he1 : min a.exp b.exp ≤ a.exp := by omega
    have he2 : min a.exp b.exp ≤ b.exp := by omega
    have he3 : -100000000 ≤ min a.exp b.exp := by omega
    have he4 : min a.exp b.exp ≤ 1000 := by omega
    have H1 := Lib.hid h1'
    have H2 := Lib.hid h2'
    have H3 := Lib.hid h3'
    clear hs hpa hpb hga hgb r0 r1 r2 r3 r4 r5 h1' h2' h3'
    have k0 := H1.out.c0
    have k1 := H1.out.c1
    have k2 := H1.out.c2
    have k3 := H2.out.c0
    have k4 := H2.out.c1
    have k5 := H2.out.c2
    go_upto_region 4 with fail
    generalize min a.exp b.exp = ex at *
    go_region_held3 (fun w' => w'.cell? ⟨w.heap.size, 0, none⟩ = some (.bool a.neg) ∧ w'.cell? ⟨w.heap.size, 1, none⟩ = some (.string ⟨a.digits.toArray⟩) ∧ w'.cell? ⟨w.heap.size, 2, none⟩ = some (.int .i64 a.exp) ∧ w'.cell? ⟨w.heap.size + 1, 0, none⟩ = some (.bool b.neg) ∧ w'.cell? ⟨w.heap.size + 1, 1, none⟩ = some (.string ⟨b.digits.toArray⟩) ∧ w'.cell? ⟨w.heap.size + 1, 2, none⟩ = some (.int .i64 b.exp))
      (first | (with_reducible exact ⟨k0, k1, k2, k3, k4, k5⟩) | exact ⟨k0, k1, k2, k3, k4, k5⟩ | go_keep)
      (first
        | (go_at_call 43; have hvaB0 := hva; refine (scaled_calls _ b ex Hmb.out he2 he3).mono ?_; rintro e wB ⟨vb, ys, rfl, hvb, nyb, hvy, lyb, hbB⟩; have Hvy := Lib.hid hvy; clear hvy; have h1B := Lib.hid (h1A.out.under hbB); have h2B := Lib.hid (h2A.out.under hbB); have h3B := Lib.hid (h3A.out.under hbB); have hvaB := hva.below hbB; have belB := belA.trans (hbB.mono belA.size); clear hbB; have k0 := h1B.out.c0; have k1 := h1B.out.c1; have k2 := h1B.out.c2; have k3 := h2B.out.c0; have k4 := h2B.out.c1; have k5 := h2B.out.c2)
        | (go_at_call 43; refine (scaled_calls _ a ex Hma.out he1 he3).mono ?_; rintro e wA ⟨va, xs, rfl, hva, nxa, hvx, lxa, hbA⟩; have Hvx := Lib.hid hvx; clear hvx; have qA : Below w2.heap.size w2 wA := (by first | exact hbA | exact (Below.refl _ w2).drew.trans hbA); have h1A := Lib.hid (H1.out.under qA); have h2A := Lib.hid (H2.out.under qA); have h3A := Lib.hid (H3.out.under qA); have belA := hbel2.trans (qA.mono hbel2.size); clear hbA qA; have k0 := h1A.out.c0; have k1 := h1A.out.c1; have k2 := h1A.out.c2; have k3 := h2A.out.c0; have k4 := h2A.out.c1; have k5 := h2A.out.c2))
    all_goals
      clear k0 k1 k2 k3 k4 k5 h1A h2A h3A h1B h2B H1 H2 H3 belA
      go_wp2_with fail
      refine (common_calls _ _ _ 200000000 va vb xs ys hvaB hvb nxa nyb lxa lyb (by omega)).mono ?_
      rintro e wC ⟨vc, gs, rfl, hvc, ng, hvg, lg, hbC⟩
      have Hvg := Lib.hid hvg
      have h3C := Lib.hid (h3B.out.under hbC)
      have hvaC := hvaB.below hbC
      have hvbC := hvb.below hbC
      have belC := belB.trans (hbC.mono belB.size)
      clear hvg hbC h3B hvaB hvb belB
      have hgp : 0 < val gs := by
        rw [Hvg.out, Hvx.out]
        exact Nat.gcd_pos_of_pos_left _ hmpa
      go_wp2_with fail
      refine (div_calls _ _ _ va vc xs gs hvaC hvc nxa.1 ng hgp (by omega) (by omega)).mono ?_
      rintro e wD ⟨v1, v2, qs, rs, rfl, hv1, hv2, nq, nr, hvq, hvr, lq, lr, hbD⟩
      have Hvq := Lib.hid hvq
      have h3D := Lib.hid (h3C.out.under hbD)
      have hvbD := hvbC.below hbD
      have belD := belC.trans (hbD.mono belC.size)
      clear hvq hvr hv2 nr lr hbD h3C hvaC hvc hvbC belC
      go_wp2_with fail
      refine (mul_calls _ _ _ v1 vb qs ys hv1 hvbD nq.1 nyb.1 (by omega) (by omega)).mono ?_
      rintro e wE ⟨ve, zs, rfl, hve, nz, hvz, lz, hbE⟩
      have Hvz := Lib.hid hvz
      have h3E := Lib.hid (h3D.out.under hbE)
      have belE := belD.trans (hbE.mono belD.size)
      clear hvz hbE h3D belD hv1 hvbD
      go_wp2_with fail
      refine (digits_of _ _ ve zs (mag a ex / Nat.gcd (mag a ex) (mag b ex) * mag b ex) hve nz.1 (by omega) (by rw [Hvz.out, Hvq.out, Hvg.out, Hvx.out, Hvy.out]; rfl)).mono ?_
      rintro e wF ⟨rfl, hlF, hbF⟩
      have h3F := Lib.hid (h3E.out.under hbF)
      have belF := belE.trans (hbF.mono belE.size)
      clear hbF h3E belE hve
      go_wp2_with fail
      refine (made_calls _ false (digS (mag a ex / Nat.gcd (mag a ex) (mag b ex) * mag b ex)) ex (by omega) (by omega) (by omega)).mono ?_
      rintro e wG ⟨rfl, hbG⟩
      rw [← Hs.out]
      have h3G := h3F.out.under hbG
      have belG := belF.trans (hbG.mono belF.size)
      generalize hM : commonS a b = m
      have HM := Lib.hid hM
      clear hM hbG h3F belF Hs
      obtain ⟨⟨mn, md, me⟩, mc⟩ := m
      simp only [DecV]
      have r0 : wG.cell? ⟨w.heap.size + 1 + 1, 0, none⟩ = some (.bool false) := h3G.c0
      have r1 : wG.cell? ⟨w.heap.size + 1 + 1, 1, none⟩ = some (.string ⟨#[]⟩) := h3G.c1
      have r2 : wG.cell? ⟨w.heap.size + 1 + 1, 2, none⟩ = some (.int .i64 0) := h3G.c2
      have r3 := h3G.f0
      have r4 := h3G.f1
      have r5 := h3G.f2
      clear h3G
      go_wp2_with fail
      refine bodyPost_ret (v := .tuple #[.agg #[.bool mn, .string ⟨md.toArray⟩, .int .i64 me], .int .i64 mc]) (by simp [results, Tryz.results18, go_sem, r0, r1, r2]) rfl ?_
      rw [HM.out]
      exact ⟨rfl, by go_grown⟩
end Go.Proofs.YtkakmjdfecbhaaaGreatDoor
