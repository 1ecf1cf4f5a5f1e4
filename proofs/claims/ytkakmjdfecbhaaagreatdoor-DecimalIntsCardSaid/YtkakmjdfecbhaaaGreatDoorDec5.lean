/- The walks of Sum, Neg, Compare: over any world; up to 10^9 decimals. -/
import Derived.Test.YtkakmjdfecbhaaaGreatDoorDec4
import Derived.Test.YtkakmjdfecbhaaaGreatDoorPar2
namespace Go.Proofs.YtkakmjdfecbhaaaGreatDoor
open Go.RowKit

/-- What a function that answers a decimal holds in memory: the result's block, nothing turned below. -/
structure Rst (w w' : World) : Prop where
  res : ResAt w' w.heap.size
  bel : Below w.heap.size w w'
theorem Rst.under {w w1 w2 : World} (h : Rst w w1) (hb : Below w1.heap.size w1 w2) : Rst w w2 :=
  ⟨h.res.of_block (hb.block _ h.res.lt) hb.size, h.bel.trans (hb.mono h.bel.size)⟩
theorem Rst.start (w : World) : Rst w (w.alloc (.cells #[.bool false, .string ⟨#[]⟩, .int .i64 0] 24)) := by
  refine ⟨⟨?_, ?_, ?_, ?_, ?_, ?_, by simp⟩, (Below.refl _ _).alloc (Nat.le_refl _) _⟩
  · rw [World.cell?_alloc_at _ _ _ _ rfl]; rfl
  · rw [World.cell?_alloc_at _ _ _ _ rfl]; rfl
  · rw [World.cell?_alloc_at _ _ _ _ rfl]; rfl
  · exact World.frozen?_alloc_at _ _ _ _ rfl
  · exact World.frozen?_alloc_at _ _ _ _ rfl
  · exact World.frozen?_alloc_at _ _ _ _ rfl
theorem Rst.alloc {w w1 : World} (h : Rst w w1) (o : Obj) : Rst w (w1.alloc o) := h.under ((Below.refl _ _).alloc (Nat.le_refl _) o)

theorem sum_calls (w : World) (v : Value) (ds : List Dec) (h : DecsAt w v ds) (hlen : ds.length ≤ 1000000) :
    Calls Tryz.prog 8 #[v] w fun e w' => e = .returned (.tuple #[DecV (sumS ds).1, .int .i64 (sumS ds).2]) ∧ Below w.heap.size w w' := by
  have hr := Rst.start w
  have h1 := h.below ((Below.refl _ _).alloc (Nat.le_refl _) (.cells #[.bool false, .string ⟨#[]⟩, .int .i64 0] 24))
  go_enter Tryz.func8, Tryz.ntmps8
  go_wp2_with fail
  generalize w.alloc (Obj.cells #[Value.bool false, Value.string { data := #[] }, Value.int IntKind.i64 0] 24) = w1 at *
  refine (checked_calls w1 v ds h1).mono ?_
  rintro e w2 ⟨rfl, hb2⟩
  have hr2 := hr.under hb2
  have h2 := h1.below hb2
  clear hr h1 hb2 h
  cases hm : mayAll ds with
  | false =>
    have hk : chkAll ds = 2 := by simp [chkAll, hm]
    have hs : sumS ds = (Dec.zero, 2) := by simp [sumS, hm]
    have Hs := Lib.hid hs
    rw [hk]
    have hf0 := hr2.res.c0
    have hf1 := hr2.res.c1
    have hf2 := hr2.res.c2
    have hf3 := hr2.res.f0
    have hf4 := hr2.res.f1
    have hf5 := hr2.res.f2
    have hbel := hr2.bel
    clear hm hk hs h2
    go_wp2_with fail
    refine bodyPost_ret (v := .tuple #[.agg #[.bool false, .string ⟨#[]⟩, .int .i64 0], .int .i64 2]) (by simp [results, Tryz.results8, go_sem, hf0, hf1, hf2]) rfl ?_
    rw [Hs.out]
    exact ⟨rfl, by go_grown⟩
  | true =>
    have hk : chkAll ds = 0 := by simp [chkAll, hm]
    have hs : sumS ds = madeS (totN ds) (digS (totV ds)) (leastS ds) := by simp [sumS, hm]
    obtain ⟨he1, he2, _⟩ := least_get hm
    have Hs := Lib.hid hs
    have Hm := Lib.hid hm
    rw [hk]
    clear hm hk hs
    go_wp2_with fail
    refine (total_calls w2 v ds h2 Hm.out (by omega)).mono ?_
    rintro e w3 ⟨v3, zs, rfl, hv3, nz, hvz, hlz, hb3⟩
    have hr3 := hr2.under hb3
    have Hvz := Lib.hid hvz
    clear hr2 hb3 h2 hvz
    go_wp2_with fail
    refine (digits_of w3 0 v3 zs (totV ds) hv3 nz.1 (by omega) Hvz.out).mono ?_
    rintro e w4 ⟨rfl, hl4, hb4⟩
    have hr4 := hr3.under hb4
    clear hr3 hb4
    go_wp2_with fail
    refine (made_calls w4 (totN ds) (digS (totV ds)) (leastS ds) (by omega) (by omega) (by omega)).mono ?_
    rintro e w5 ⟨rfl, hb5⟩
    have hr5 := hr4.under hb5
    rw [← Hs.out]
    clear hr4 hb5
    generalize hM : sumS ds = m at *
    have HM := Lib.hid hM
    clear hM
    obtain ⟨⟨mn, md, me⟩, mc⟩ := m
    simp only [DecV]
    have hf0 := hr5.res.c0
    have hf1 := hr5.res.c1
    have hf2 := hr5.res.c2
    have hf3 := hr5.res.f0
    have hf4 := hr5.res.f1
    have hf5 := hr5.res.f2
    have hbel := hr5.bel
    go_wp2_with fail
    refine bodyPost_ret (v := .tuple #[.agg #[.bool mn, .string ⟨md.toArray⟩, .int .i64 me], .int .i64 mc]) (by simp [results, Tryz.results8, go_sem, hf0, hf1, hf2]) rfl ?_
    rw [HM.out]
    exact ⟨rfl, by go_grown⟩

/-- A slice of one decimal, just made. -/
theorem DecsAt.one (w : World) (d : Dec) (hd : d.digits.length ≤ 10000000000) :
    DecsAt (w.alloc (.cells #[.bool d.neg, .string ⟨d.digits.toArray⟩, .int .i64 d.exp] 24)) (.slice (some ⟨w.heap.size, 0, none⟩) 1 1) [d] := by
  refine ⟨_, 1, rfl, Nat.le_refl _, by simp, fun j hj => ?_, fun _ => ⟨w.heap.size, 0, rfl, by simp, fun j hj => ?_⟩⟩
  · obtain rfl : j = 0 := by simp at hj; exact hj
    exact hd
  · obtain rfl : j = 0 := by simp at hj; exact hj
    refine ⟨?_, ?_, ?_⟩
    · rw [World.cell?_alloc_at _ _ _ _ rfl]; rfl
    · rw [World.cell?_alloc_at _ _ _ _ rfl]; rfl
    · rw [World.cell?_alloc_at _ _ _ _ rfl]; rfl
/-- A slice of two decimals, just made. -/
theorem DecsAt.two (w : World) (a b : Dec) (ha : a.digits.length ≤ 10000000000) (hb : b.digits.length ≤ 10000000000) :
    DecsAt (w.alloc (.cells #[.bool a.neg, .string ⟨a.digits.toArray⟩, .int .i64 a.exp, .bool b.neg, .string ⟨b.digits.toArray⟩, .int .i64 b.exp] 24)) (.slice (some ⟨w.heap.size, 0, none⟩) 2 2) [a, b] := by
  refine ⟨_, 2, rfl, Nat.le_refl _, by simp, fun j hj => ?_, fun _ => ⟨w.heap.size, 0, rfl, by simp, fun j hj => ?_⟩⟩
  · have hj : j = 0 ∨ j = 1 := by simp at hj; omega
    rcases hj with rfl | rfl
    · exact ha
    · exact hb
  · have hj : j = 0 ∨ j = 1 := by simp at hj; omega
    rcases hj with rfl | rfl
    · refine ⟨?_, ?_, ?_⟩
      · rw [World.cell?_alloc_at _ _ _ _ rfl]; rfl
      · rw [World.cell?_alloc_at _ _ _ _ rfl]; rfl
      · rw [World.cell?_alloc_at _ _ _ _ rfl]; rfl
    · refine ⟨?_, ?_, ?_⟩
      · rw [World.cell?_alloc_at _ _ _ _ rfl]; rfl
      · rw [World.cell?_alloc_at _ _ _ _ rfl]; rfl
      · rw [World.cell?_alloc_at _ _ _ _ rfl]; rfl

/-- Block b holds this decimal, and may be written. -/
structure DecAt (w : World) (b : Nat) (d : Dec) : Prop where
  c0 : w.cell? ⟨b, 0, none⟩ = some (.bool d.neg)
  c1 : w.cell? ⟨b, 1, none⟩ = some (.string ⟨d.digits.toArray⟩)
  c2 : w.cell? ⟨b, 2, none⟩ = some (.int .i64 d.exp)
  f0 : w.frozen? ⟨b, 0, none⟩ = false
  f1 : w.frozen? ⟨b, 1, none⟩ = false
  f2 : w.frozen? ⟨b, 2, none⟩ = false
  lt : b < w.heap.size
theorem DecAt.under {w w' : World} {b : Nat} {d : Dec} (h : DecAt w b d) (hb : Below w.heap.size w w') : DecAt w' b d :=
  have e := hb.block b h.lt
  ⟨(World.cell?_of_block (w := w) e).trans h.c0, (World.cell?_of_block (w := w) e).trans h.c1, (World.cell?_of_block (w := w) e).trans h.c2,
    (World.frozen?_of_block (w := w) e).trans h.f0, (World.frozen?_of_block (w := w) e).trans h.f1, (World.frozen?_of_block (w := w) e).trans h.f2, Nat.lt_of_lt_of_le h.lt hb.size⟩
theorem DecAt.at (w : World) (d : Dec) (b : Nat) (hb : b = w.heap.size) : DecAt (w.alloc (.cells #[.bool d.neg, .string ⟨d.digits.toArray⟩, .int .i64 d.exp] 24)) b d := by
  subst hb
  refine ⟨?_, ?_, ?_, ?_, ?_, ?_, by simp⟩
  · rw [World.cell?_alloc_at _ _ _ _ rfl]; rfl
  · rw [World.cell?_alloc_at _ _ _ _ rfl]; rfl
  · rw [World.cell?_alloc_at _ _ _ _ rfl]; rfl
  · exact World.frozen?_alloc_at _ _ _ _ rfl
  · exact World.frozen?_alloc_at _ _ _ _ rfl
  · exact World.frozen?_alloc_at _ _ _ _ rfl
theorem DecAt.alloc {w : World} {b : Nat} {d : Dec} (h : DecAt w b d) (o : Obj) : DecAt (w.alloc o) b d := h.under ((Below.refl _ _).alloc (Nat.le_refl _) o)

set_option maxHeartbeats 1000000 in
theorem neg_calls (w : World) (d : Dec) (hd : d.digits.length ≤ 10000000000) :
    Calls Tryz.prog 14 #[.agg #[.bool d.neg, .string ⟨d.digits.toArray⟩, .int .i64 d.exp]] w fun e w' => e = .returned (.tuple #[DecV (negS d).1, .int .i64 (negS d).2]) ∧ Below w.heap.size w w' := by
  have ha := ((DecAt.at w d _ rfl).alloc (Obj.cells #[Value.bool false, Value.string { data := #[] }, Value.int IntKind.i64 0] 24)).alloc (Obj.cells #[Value.bool d.neg, Value.string { data := d.digits.toArray }, Value.int IntKind.i64 d.exp] 24)
  have hr := (DecAt.at (w.alloc (Obj.cells #[Value.bool d.neg, Value.string { data := d.digits.toArray }, Value.int IntKind.i64 d.exp] 24)) Dec.zero (w.heap.size + 1) (by simp)).alloc (Obj.cells #[Value.bool d.neg, Value.string { data := d.digits.toArray }, Value.int IntKind.i64 d.exp] 24)
  have hs := DecsAt.one ((w.alloc (Obj.cells #[Value.bool d.neg, Value.string { data := d.digits.toArray }, Value.int IntKind.i64 d.exp] 24)).alloc (Obj.cells #[Value.bool false, Value.string { data := #[] }, Value.int IntKind.i64 0] 24)) d hd
  have hb : Below w.heap.size w (((w.alloc (Obj.cells #[Value.bool d.neg, Value.string { data := d.digits.toArray }, Value.int IntKind.i64 d.exp] 24)).alloc (Obj.cells #[Value.bool false, Value.string { data := #[] }, Value.int IntKind.i64 0] 24)).alloc (Obj.cells #[Value.bool d.neg, Value.string { data := d.digits.toArray }, Value.int IntKind.i64 d.exp] 24)) :=
    (((Below.refl _ _).alloc (Nat.le_refl _) _).alloc (by simp) _).alloc (by simp; omega) _
  simp only [Dec.zero, List.toArray, World.size_alloc] at hr hs
  have Ha := Lib.hid ha
  have Hr := Lib.hid hr
  have Hs := Lib.hid hs
  clear ha hr hs
  go_enter Tryz.func14, Tryz.ntmps14
  go_wp2_with fail
  have ha := Ha.out
  have hr := Hr.out
  have hs := Hs.out
  clear Ha Hr Hs
  generalize (((w.alloc (Obj.cells #[Value.bool d.neg, Value.string { data := d.digits.toArray }, Value.int IntKind.i64 d.exp] 24)).alloc (Obj.cells #[Value.bool false, Value.string { data := #[] }, Value.int IntKind.i64 0] 24)).alloc (Obj.cells #[Value.bool d.neg, Value.string { data := d.digits.toArray }, Value.int IntKind.i64 d.exp] 24)) = w1 at *
  refine (checked_calls w1 _ [d] hs).mono ?_
  rintro e w2 ⟨rfl, hb2⟩
  have ha2 := ha.under hb2
  have hr2 := hr.under hb2
  have hbel := hb.trans (hb2.mono hb.size)
  clear ha hr hs hb hb2
  have r0 : w2.cell? ⟨w.heap.size + 1, 0, none⟩ = some (.bool false) := hr2.c0
  have r1 : w2.cell? ⟨w.heap.size + 1, 1, none⟩ = some (.string ⟨#[]⟩) := hr2.c1
  have r2 : w2.cell? ⟨w.heap.size + 1, 2, none⟩ = some (.int .i64 0) := hr2.c2
  have r3 := hr2.f0
  have r4 := hr2.f1
  have r5 := hr2.f2
  have a0 : w2.cell? ⟨w.heap.size, 0, none⟩ = some (.bool d.neg) := ha2.c0
  have a1 : w2.cell? ⟨w.heap.size, 1, none⟩ = some (.string ⟨d.digits.toArray⟩) := ha2.c1
  have a2 : w2.cell? ⟨w.heap.size, 2, none⟩ = some (.int .i64 d.exp) := ha2.c2
  have a3 := ha2.f0
  have a4 := ha2.f1
  have a5 := ha2.f2
  clear ha2 hr2
  cases hm : mayB d with
  | false =>
    have hk : chkAll [d] = 2 := by simp [chkAll, mayAll, hm]
    have hs : negS d = (Dec.zero, 2) := by simp [negS, hm]
    have Hs := Lib.hid hs
    rw [hk]
    clear hm hk hs
    go_wp2_with fail
    refine bodyPost_ret (v := .tuple #[.agg #[.bool false, .string ⟨#[]⟩, .int .i64 0], .int .i64 2]) (by simp [results, Tryz.results14, go_sem, r0, r1, r2]) rfl ?_
    rw [Hs.out]
    exact ⟨rfl, by go_grown⟩
  | true =>
    have hk : chkAll [d] = 0 := by simp [chkAll, mayAll, hm]
    have hs : negS d = (⟨!d.neg && !d.digits.isEmpty, d.digits, d.exp⟩, 0) := by simp [negS, negD, hm]
    have Hs := Lib.hid hs
    rw [hk]
    clear hm hk hs
    obtain ⟨dn, dg, de⟩ := d
    simp only at *
    cases dn with
    | true =>
      go_wp2_with fail
      refine bodyPost_ret (v := .tuple #[.agg #[.bool false, .string ⟨dg.toArray⟩, .int .i64 de], .int .i64 0]) (by simp [results, Tryz.results14, go_sem, r0, r1, r2]) rfl ?_
      rw [Hs.out]
      exact ⟨rfl, by go_grown⟩
    | false =>
      cases dg with
      | nil =>
        go_wp2_with fail
        refine bodyPost_ret (v := .tuple #[.agg #[.bool false, .string ⟨#[]⟩, .int .i64 de], .int .i64 0]) (by simp [results, Tryz.results14, go_sem, r0, r1, r2]) rfl ?_
        rw [Hs.out]
        exact ⟨rfl, by go_grown⟩
      | cons c t =>
        go_wp2_with fail
        refine bodyPost_ret (v := .tuple #[.agg #[.bool true, .string ⟨(c :: t).toArray⟩, .int .i64 de], .int .i64 0]) (by simp [results, Tryz.results14, go_sem, r0, r1, r2]) rfl ?_
        rw [Hs.out]
        exact ⟨rfl, by go_grown⟩
end Go.Proofs.YtkakmjdfecbhaaaGreatDoor
