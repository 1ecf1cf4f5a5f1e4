/- The walks of Compare, FromInt, Whole: over any world; the table of powers of ten as the program's text lays it where a number is told. -/
import Derived.Test.YtkakmjdfecbhaaaGreatDoorDec5
import Derived.Lib.ItoaLen
namespace Go.Proofs.YtkakmjdfecbhaaaGreatDoor
open Go.RowKit

/-- The library's table of powers of ten, as its text lays it. -/
def Tab (w : World) : Prop := Lib.TabIs Tryz.prog w "internal/strconv.uint64pow10" .u64 Lib.pow10Tab
theorem Tab.below {w w' : World} (h : Tab w) (hb : Below w.heap.size w w') : Tab w' := Joins.tab_stays (g := 0) (by kernel_rfl) h hb (Nat.le_refl _)
theorem Tab.alloc {w : World} (h : Tab w) (o : Obj) : Tab (w.alloc o) := h.below ((Below.refl _ _).alloc (Nat.le_refl _) o)
theorem below_grow (w : World) (k : Nat) (os : Array Obj) : Below w.heap.size w (Sort.grow (w.drewN k) os) :=
  ⟨rfl, rfl, rfl, by simp [Sort.grow], fun j hj => by show ((w.drewN k).heap ++ os)[j]? = _; rw [Array.getElem?_append_left (by simpa using hj)]; rfl⟩

set_option maxHeartbeats 1000000 in
set_option maxRecDepth 100000 in
theorem compare_calls (w : World) (a b : Dec) (ha : a.digits.length ≤ 10000000000) (hb : b.digits.length ≤ 10000000000) :
    Calls Tryz.prog 12 #[.agg #[.bool a.neg, .string ⟨a.digits.toArray⟩, .int .i64 a.exp], .agg #[.bool b.neg, .string ⟨b.digits.toArray⟩, .int .i64 b.exp]] w fun e w' => e = .returned (.tuple #[.int .i64 (cmpS a b).1, .int .i64 (cmpS a b).2]) ∧ Below w.heap.size w w' := by
  have h1 := ((DecAt.at w a _ rfl).alloc (Obj.cells #[Value.bool b.neg, Value.string { data := b.digits.toArray }, Value.int IntKind.i64 b.exp] 24))
  have h2 := (DecAt.at (w.alloc (Obj.cells #[Value.bool a.neg, Value.string { data := a.digits.toArray }, Value.int IntKind.i64 a.exp] 24)) b (w.heap.size + 1) (by simp))
  have hbel : Below w.heap.size w ((w.alloc (Obj.cells #[Value.bool a.neg, Value.string { data := a.digits.toArray }, Value.int IntKind.i64 a.exp] 24)).alloc (Obj.cells #[Value.bool b.neg, Value.string { data := b.digits.toArray }, Value.int IntKind.i64 b.exp] 24)) :=
    ((Below.refl _ _).alloc (Nat.le_refl _) _).alloc (by simp) _
  have H1 := Lib.hid h1
  have H2 := Lib.hid h2
  clear h1 h2
  go_enter Tryz.func12, Tryz.ntmps12
  go_wp2_with fail
  have h1 := H1.out
  have h2 := H2.out
  have hz : ((w.alloc (Obj.cells #[Value.bool a.neg, Value.string { data := a.digits.toArray }, Value.int IntKind.i64 a.exp] 24)).alloc (Obj.cells #[Value.bool b.neg, Value.string { data := b.digits.toArray }, Value.int IntKind.i64 b.exp] 24)).heap.size = w.heap.size + 1 + 1 := by simp
  clear H1 H2
  generalize ((w.alloc (Obj.cells #[Value.bool a.neg, Value.string { data := a.digits.toArray }, Value.int IntKind.i64 a.exp] 24)).alloc (Obj.cells #[Value.bool b.neg, Value.string { data := b.digits.toArray }, Value.int IntKind.i64 b.exp] 24)) = w1 at *
  have hs1 := DecsAt.two w1 a b ha hb
  rw [hz] at hs1
  have hb1 : Below w1.heap.size w1 (w1.alloc (Obj.cells #[Value.bool a.neg, Value.string { data := a.digits.toArray }, Value.int IntKind.i64 a.exp, Value.bool b.neg, Value.string { data := b.digits.toArray }, Value.int IntKind.i64 b.exp] 24)) := (Below.refl _ _).alloc (Nat.le_refl _) _
  refine (checked_calls _ _ [a, b] hs1).mono ?_
  rintro e w2 ⟨rfl, hb2⟩
  have hb12 := hb1.trans (hb2.mono hb1.size)
  have h1' := h1.under hb12
  have h2' := h2.under hb12
  have hbel2 := hbel.trans (hb12.mono hbel.size)
  have a0 := h1'.c0
  have a1 := h1'.c1
  have a2 := h1'.c2
  have b0 := h2'.c0
  have b1 := h2'.c1
  have b2 := h2'.c2
  clear h1 h2 hbel hb1 hb2 hb12 hs1 hz
  cases hm : mayAll [a, b] with
  | false =>
    have hk : chkAll [a, b] = 2 := by simp [chkAll, hm]
    have hs : cmpS a b = (0, 2) := by simp [cmpS, hm]
    have Hs := Lib.hid hs
    rw [hk]
    clear hm hk hs
    go_wp2_with fail
    go_ret2
    rw [Hs.out]
    exact ⟨rfl, hbel2⟩
  | true =>
    have hk : chkAll [a, b] = 0 := by simp [chkAll, hm]
    have hs : cmpS a b = (cmpV a b, 0) := by simp [cmpS, hm]
    have hmb : mayB b = true := by simp [mayAll] at hm; exact hm.2
    have hma : mayB a = true := by simp [mayAll] at hm; exact hm.1
    have hng : negS b = (negD b, 0) := by simp [negS, hmb]
    have hmn : mayAll [a, negD b] = true := by
      have : mayB (negD b) = true := by
        cases hd : b.digits with
        | nil =>
          simp only [mayB, hd] at hmb
          simp only [mayB, negD, hd]
          simp at hmb ⊢; exact hmb.2
        | cons c t =>
          simp only [mayB, hd] at hmb
          simp only [mayB, negD, hd]
          exact hmb
      simp [mayAll, hma, this]
    have Hs := Lib.hid hs
    have Hng := Lib.hid hng
    have Hmn := Lib.hid hmn
    rw [hk]
    clear hm hk hs hng hmn hmb hma
    go_wp2_with fail
    refine (neg_calls w2 b hb).mono ?_
    rintro e w3 ⟨rfl, hb3⟩
    rw [Hng.out]
    have h1'' := h1'.under hb3
    have h2'' := h2'.under hb3
    have hbel3 := hbel2.trans (hb3.mono hbel2.size)
    have hnd : (negD b).digits.length ≤ 10000000000 := hb
    have hcv : cmpV a b = if totN [a, negD b] then -1 else if totV [a, negD b] = 0 then 0 else 1 := rfl
    rw [hcv] at Hs
    clear a0 a1 a2 b0 b1 b2 h1' h2' hb3 hbel2 Hng hcv
    simp only [DecV]
    generalize negD b = nb at *
    have a0 := h1''.c0
    have a1 := h1''.c1
    have a2 := h1''.c2
    have b0 := h2''.c0
    have b1 := h2''.c1
    have b2 := h2''.c2
    have b3 := h2''.f0
    have b4 := h2''.f1
    have b5 := h2''.f2
    clear h1'' h2''
    go_wp2_with fail
    have hz : (((w3.setCell ⟨w.heap.size + 1, 0, none⟩ (Value.bool nb.neg)).setCell ⟨w.heap.size + 1, 1, none⟩ (Value.string { data := nb.digits.toArray })).setCell ⟨w.heap.size + 1, 2, none⟩ (Value.int IntKind.i64 nb.exp)).heap.size = w3.heap.size := by simp
    have hbz : Below w.heap.size w (((w3.setCell ⟨w.heap.size + 1, 0, none⟩ (Value.bool nb.neg)).setCell ⟨w.heap.size + 1, 1, none⟩ (Value.string { data := nb.digits.toArray })).setCell ⟨w.heap.size + 1, 2, none⟩ (Value.int IntKind.i64 nb.exp)) :=
      ((hbel3.setCell (by simp) _).setCell (by simp) _).setCell (by simp) _
    generalize (((w3.setCell ⟨w.heap.size + 1, 0, none⟩ (Value.bool nb.neg)).setCell ⟨w.heap.size + 1, 1, none⟩ (Value.string { data := nb.digits.toArray })).setCell ⟨w.heap.size + 1, 2, none⟩ (Value.int IntKind.i64 nb.exp)) = wz at *
    rw [← hz]
    clear a0 a1 a2 b0 b1 b2 b3 b4 b5 hz hbel3
    have hs1 := DecsAt.two wz a nb ha hnd
    have hb1 : Below wz.heap.size wz (wz.alloc (Obj.cells #[Value.bool a.neg, Value.string { data := a.digits.toArray }, Value.int IntKind.i64 a.exp, Value.bool nb.neg, Value.string { data := nb.digits.toArray }, Value.int IntKind.i64 nb.exp] 24)) := (Below.refl _ _).alloc (Nat.le_refl _) _
    refine (total_calls _ _ [a, nb] hs1 Hmn.out (by simp)).mono ?_
    rintro e w4 ⟨v4, zs, rfl, hv4, nz, hvz, hlz, hb4⟩
    have hbf := hbz.trans ((hb1.trans (hb4.mono hb1.size)).mono hbz.size)
    have hzn := Norm_zero nz
    rw [hvz] at hzn
    clear hs1 hb1 hb4 hbz
    generalize totN [a, nb] = tn at *
    generalize totV [a, nb] = tv at *
    obtain ⟨pz, cz, rfl⟩ := hv4.form
    have hlm := hv4.len
    unfold maxLen at hlm
    cases tn with
    | true =>
      have Hs2 : Hid (cmpS a b = (-1, 0)) := Hs.out
      clear hzn hvz hv4 nz
      go_wp2_with fail
      go_ret2
      rw [Hs2.out]
      exact ⟨rfl, hbf⟩
    | false =>
      by_cases h0 : tv = 0
      · have Hs2 : Hid (cmpS a b = (0, 0)) := by show cmpS a b = _; rw [Hs.out, if_neg (by simp), if_pos h0]
        have hz0 : zs.length = 0 := by rw [hzn.1 h0]; rfl
        have hz1 : ((zs.length : Int) == 0) = true := by rw [hz0]; rfl
        clear hzn hvz hv4 nz h0 hz0
        go_wp2_with fail
        go_ret2
        rw [Hs2.out]
        exact ⟨rfl, hbf⟩
      · have Hs2 : Hid (cmpS a b = (1, 0)) := by show cmpS a b = _; rw [Hs.out, if_neg (by simp), if_neg h0]
        have hz0 : zs.length ≠ 0 := fun e => h0 (hzn.2 (List.length_eq_zero_iff.1 e))
        have hz1 : ((zs.length : Int) == 0) = false := by rw [beq_eq_false_iff_ne]; omega
        clear hzn hvz hv4 nz h0 hz0
        go_wp2_with fail
        go_ret2
        rw [Hs2.out]
        exact ⟨rfl, hbf⟩

theorem whole_calls (w : World) (d : Dec) (hd : d.digits.length ≤ 10000000000) :
    Calls Tryz.prog 25 #[.agg #[.bool d.neg, .string ⟨d.digits.toArray⟩, .int .i64 d.exp]] w fun e w' => e = .returned (.bool (mayB d && decide (0 ≤ d.exp))) ∧ Below w.heap.size w w' := by
  have h1 := Lib.hid (DecAt.at w d _ rfl)
  have hbel : Below w.heap.size w (w.alloc (Obj.cells #[Value.bool d.neg, Value.string { data := d.digits.toArray }, Value.int IntKind.i64 d.exp] 24)) := (Below.refl _ _).alloc (Nat.le_refl _) _
  go_enter Tryz.func25, Tryz.ntmps25
  go_wp2_with fail
  refine (check_calls _ d (by omega)).mono ?_
  rintro e w2 ⟨rfl, hb2⟩
  have c2 := (h1.out.under hb2).c2
  have hb3 := hbel.trans (hb2.mono hbel.size)
  cases hm : mayB d with
  | false =>
    have hk : chk d = 2 := by simp [chk, hm]
    rw [hk]
    have Hm := Lib.hid hm
    clear hk hm hb2 hbel
    go_wp2_with fail
    go_ret
    exact ⟨by rw [Hm.out]; rfl, hb3⟩
  | true =>
    have hk : chk d = 0 := by simp [chk, hm]
    rw [hk]
    have Hm := Lib.hid hm
    clear hk hm hb2 hbel
    go_wp2_with fail
    go_ret
    exact ⟨by rw [Hm.out, Bool.true_and]; rfl, hb3⟩

/-- A whole number's decimal. -/
def intS (n : Int) : Dec := (madeS (decide (n < 0)) (Lib.decDigits n.natAbs) 0).1

theorem cut_itoa (n : Int) : Lib.trimPrefix (Lib.itoa n) [45] = Lib.decDigits n.natAbs ∧ Lib.hasPrefix (Lib.itoa n) [45] = decide (n < 0) := by
  by_cases h : n < 0
  · have e : Lib.itoa n = 45 :: Lib.decDigits n.natAbs := by unfold Lib.itoa; rw [if_pos h]
    rw [e]
    simp [Lib.trimPrefix, Lib.hasPrefix, h]
  · have e : Lib.itoa n = Lib.decDigits n.natAbs := by unfold Lib.itoa; rw [if_neg h]; congr 1; omega
    rw [e]
    have hd := (dec_dig n.natAbs).1
    have hp : Lib.hasPrefix (Lib.decDigits n.natAbs) [45] = false := by
      cases hq : Lib.decDigits n.natAbs with
      | nil => rfl
      | cons c t =>
        rw [hq] at hd
        have h1 := hd c (by simp)
        have h2 : ((45 : UInt8) == c) = false := by
          rw [beq_eq_false_iff_ne]; intro e; subst e; simp at h1
        show ((45 : UInt8) == c && List.isPrefixOf [] t) = false
        rw [h2]; rfl
    rw [Lib.trimPrefix, hp]
    simp [h]

theorem fromInt_calls (w : World) (n : Int) (h0 : -9223372036854775808 ≤ n) (h1 : n ≤ 9223372036854775807) (ht : Tab w) :
    Calls Tryz.prog 21 #[.int .i64 n] w fun e w' => e = .returned (DecV (intS n)) ∧ Below w.heap.size w w' := by
  have hr := Lib.hid (Rst.start w)
  have ht1 := Lib.hid (ht.alloc (Obj.cells #[Value.bool false, Value.string { data := #[] }, Value.int IntKind.i64 0] 24))
  go_enter Tryz.func21, Tryz.ntmps21
  go_wp2_with fail
  generalize w.alloc (Obj.cells #[Value.bool false, Value.string { data := #[] }, Value.int IntKind.i64 0] 24) = w1 at *
  refine (Tryz.strconv_FormatInt_10 n h0 h1 w1 ht1.out).mono ?_
  rintro e w2 ⟨rfl, k, os, hw2⟩
  have hr2 := hr.out.under (below_grow w1 k os)
  rw [← hw2] at hr2
  clear hw2 hr ht1 ht
  go_wp2_with fail
  refine (same (Tryz.strings_CutPrefix ⟨(Lib.itoa n).toArray⟩ ⟨#[45]⟩ w2)).mono ?_
  rintro e w3 ⟨rfl, rfl⟩
  obtain ⟨hc1, hc2⟩ := cut_itoa n
  have hl := Lib.itoa_length_le n h0 h1
  have hl2 : (Lib.decDigits n.natAbs).length ≤ 21 := by
    unfold Lib.itoa at hl
    split at hl
    · simp at hl; omega
    · have e : n.toNat = n.natAbs := by omega
      rw [← e]; exact hl
  rw [show (⟨(Lib.itoa n).toArray⟩ : ByteArray).data.toList = Lib.itoa n from rfl, show (⟨#[45]⟩ : ByteArray).data.toList = [45] from rfl, hc1, hc2]
  have hS : intS n = (madeS (decide (n < 0)) (Lib.decDigits n.natAbs) 0).1 := rfl
  clear hc1 hc2 hl
  generalize Lib.decDigits n.natAbs = dg at *
  generalize decide (n < 0) = ng at *
  have HS := Lib.hid hS
  clear hS
  go_wp2_with fail
  refine (made_calls w2 ng dg 0 (by omega) (by omega) (by omega)).mono ?_
  rintro e w5 ⟨rfl, hb5⟩
  have hr5 := hr2.under hb5
  clear hr2 hb5
  generalize madeS ng dg 0 = m at *
  obtain ⟨⟨mn, md, me⟩, mc⟩ := m
  simp only [DecV]
  have hf0 := hr5.res.c0
  have hf1 := hr5.res.c1
  have hf2 := hr5.res.c2
  have hf3 := hr5.res.f0
  have hf4 := hr5.res.f1
  have hf5 := hr5.res.f2
  have hlt := hr5.res.lt
  have hbel := hr5.bel
  go_wp2_with fail
  refine bodyPost_ret (v := .agg #[.bool mn, .string ⟨md.toArray⟩, .int .i64 me]) (by simp [results, Tryz.results21, go_sem, hf0, hf1, hf2, hlt]) rfl ?_
  rw [HS.out]
  exact ⟨rfl, by go_grown⟩
end Go.Proofs.YtkakmjdfecbhaaaGreatDoor
