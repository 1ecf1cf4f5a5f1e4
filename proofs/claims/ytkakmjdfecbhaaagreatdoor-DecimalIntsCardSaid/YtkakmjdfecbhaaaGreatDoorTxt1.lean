/- The walk of decimal.Text: what it answers, over any world with the library's table of powers of ten. -/
import Derived.Test.YtkakmjdfecbhaaaGreatDoorDec6
import Derived.Test.YtkakmjdfecbhaaaGreatDoorTxtL
namespace Go.Proofs.YtkakmjdfecbhaaaGreatDoor
open Go.RowKit

theorem bytes_eq {a b : ByteArray} (h : a.data.toList = b.data.toList) : a = b := by
  apply ByteArray.ext
  exact Array.toList_inj.1 h

set_option maxHeartbeats 4000000 in
set_option maxRecDepth 100000 in
theorem text_zero (w : World) (d : Dec) (hmay : mayB d = true) (ht : Tab w) (hn : d.digits.length = 0) :
    Calls Tryz.prog 27 #[.agg #[.bool d.neg, .string ⟨d.digits.toArray⟩, .int .i64 d.exp]] w fun e w' => e = .returned (.tuple #[.string ⟨(textT d).toArray⟩, .int .i64 0]) ∧ Below w.heap.size w w' := by
  obtain ⟨hdg, hdl, he1, he2⟩ := may_bounds hmay
  have hk : chk d = 0 := by simp [chk, hmay]
  have h1 := Lib.hid (DecAt.at w d _ rfl)
  have hbel : Below w.heap.size w (w.alloc (Obj.cells #[Value.bool d.neg, Value.string { data := d.digits.toArray }, Value.int IntKind.i64 d.exp] 24)) := (Below.refl _ _).alloc (Nat.le_refl _) _
  have Ht := Lib.hid ht
  have Hk := Lib.hid hk
  clear ht hk hmay hdg
  have hA : textA d = [48] := by simp [textA, hn]
  have HA := Lib.hid hA
  have hn2 : ((d.digits.length : Int) == 0) = true := by rw [hn]; rfl
  clear hA hn
  go_enter Tryz.func27, Tryz.ntmps27
  go_wp2_with fail
  refine (check_calls _ d (by omega)).mono ?_
  rintro e w2 ⟨rfl, hb2⟩
  rw [Hk.out]
  have h2 := h1.out.under hb2
  have hb3 := hbel.trans (hb2.mono hbel.size)
  have Ht2 := Lib.hid ((Ht.out.alloc _).below hb2)
  clear h1 Ht hb2 hbel
  have c0 := h2.c0
  have c1 := h2.c1
  have c2 := h2.c2
  have H2 := Lib.hid h2
  clear h2
  clear Ht2
  obtain ⟨dn, dg, de⟩ := d
  simp only at *
  cases dn with
  | true =>
    go_wp2_with fail
    go_ret2
    refine ⟨?_, hb3⟩
    rw [textT, HA.out]
    exact congrArg (fun s => Ending.returned (.tuple #[.string s, .int .i64 0])) (bytes_eq (by simp [ByteArray.data_append]))
  | false =>
    go_wp2_with fail
    go_ret2
    refine ⟨?_, hb3⟩
    rw [textT, HA.out]
    exact congrArg (fun s => Ending.returned (.tuple #[.string s, .int .i64 0])) (bytes_eq (by simp))

set_option maxHeartbeats 4000000 in
set_option maxRecDepth 100000 in
theorem text_whole (w : World) (d : Dec) (hmay : mayB d = true) (ht : Tab w) (hn : 0 < d.digits.length) (h0 : 0 ≤ d.exp) (hp : d.digits.length + d.exp ≤ 21) :
    Calls Tryz.prog 27 #[.agg #[.bool d.neg, .string ⟨d.digits.toArray⟩, .int .i64 d.exp]] w fun e w' => e = .returned (.tuple #[.string ⟨(textT d).toArray⟩, .int .i64 0]) ∧ Below w.heap.size w w' := by
  obtain ⟨hdg, hdl, he1, he2⟩ := may_bounds hmay
  have hk : chk d = 0 := by simp [chk, hmay]
  have h1 := Lib.hid (DecAt.at w d _ rfl)
  have hbel : Below w.heap.size w (w.alloc (Obj.cells #[Value.bool d.neg, Value.string { data := d.digits.toArray }, Value.int IntKind.i64 d.exp] 24)) := (Below.refl _ _).alloc (Nat.le_refl _) _
  have Ht := Lib.hid ht
  have Hk := Lib.hid hk
  clear ht hk hmay hdg
  have hA : textA d = d.digits ++ List.replicate d.exp.toNat 48 := by simp only [textA]; rw [if_neg (by omega), if_pos ⟨h0, hp⟩]
  have HA := Lib.hid hA
  have hn2 : ((d.digits.length : Int) == 0) = false := by rw [beq_eq_false_iff_ne]; omega
  have hee : d.exp = (d.exp.toNat : Int) := by omega
  have Hee := Lib.hid hee
  clear hA hee
  go_enter Tryz.func27, Tryz.ntmps27
  go_wp2_with fail
  refine (check_calls _ d (by omega)).mono ?_
  rintro e w2 ⟨rfl, hb2⟩
  rw [Hk.out]
  have h2 := h1.out.under hb2
  have hb3 := hbel.trans (hb2.mono hbel.size)
  have Ht2 := Lib.hid ((Ht.out.alloc _).below hb2)
  clear h1 Ht hb2 hbel
  have c0 := h2.c0
  have c1 := h2.c1
  have c2 := h2.c2
  have H2 := Lib.hid h2
  clear h2
  go_wp2_with fail
  rw [Hee.out]
  refine (Tryz.strings_Repeat ⟨#[48]⟩ d.exp.toNat _ (by omega) (by rw [show (⟨#[48]⟩ : ByteArray).size = 1 from rfl]; omega)).mono ?_
  rintro e w4 ⟨rfl, hb4⟩
  rw [show (⟨#[48]⟩ : ByteArray).data.toList = [48] from rfl, repeat_eq]
  have h4 := H2.out.under hb4
  have hb5 := hb3.trans (hb4.mono hb3.size)
  have c0 := h4.c0
  clear H2 hb3 hb4 h4 Ht2
  have hb3 := hb5
  have hen : d.exp.toNat ≤ 21 := by omega
  generalize d.exp.toNat = en at *
  obtain ⟨dn, dg, de⟩ := d
  simp only at *
  cases dn with
  | true =>
    go_wp2_with fail
    go_ret2
    refine ⟨?_, hb3⟩
    rw [textT, HA.out]
    exact congrArg (fun s => Ending.returned (.tuple #[.string s, .int .i64 0])) (bytes_eq (by simp [ByteArray.data_append]))
  | false =>
    go_wp2_with fail
    go_ret2
    refine ⟨?_, hb3⟩
    rw [textT, HA.out]
    exact congrArg (fun s => Ending.returned (.tuple #[.string s, .int .i64 0])) (bytes_eq (by simp [ByteArray.data_append]))

set_option maxHeartbeats 4000000 in
set_option maxRecDepth 100000 in
theorem text_point (w : World) (d : Dec) (hmay : mayB d = true) (ht : Tab w) (hn : 0 < d.digits.length) (h0 : d.exp < 0) (hp0 : 0 < d.digits.length + d.exp) (hp : d.digits.length + d.exp ≤ 21) :
    Calls Tryz.prog 27 #[.agg #[.bool d.neg, .string ⟨d.digits.toArray⟩, .int .i64 d.exp]] w fun e w' => e = .returned (.tuple #[.string ⟨(textT d).toArray⟩, .int .i64 0]) ∧ Below w.heap.size w w' := by
  obtain ⟨hdg, hdl, he1, he2⟩ := may_bounds hmay
  have hk : chk d = 0 := by simp [chk, hmay]
  have h1 := Lib.hid (DecAt.at w d _ rfl)
  have hbel : Below w.heap.size w (w.alloc (Obj.cells #[Value.bool d.neg, Value.string { data := d.digits.toArray }, Value.int IntKind.i64 d.exp] 24)) := (Below.refl _ _).alloc (Nat.le_refl _) _
  have Ht := Lib.hid ht
  have Hk := Lib.hid hk
  clear ht hk hmay hdg
  obtain ⟨p, hpp⟩ : ∃ p : Nat, (d.digits.length : Int) + d.exp = p := ⟨((d.digits.length : Int) + d.exp).toNat, by omega⟩
  have hA : textA d = d.digits.take p ++ 46 :: d.digits.drop p := by
    simp only [textA]; rw [if_neg (by omega), if_neg (by omega), if_pos ⟨hp0, hp⟩, hpp, Int.toNat_natCast]
  have HA := Lib.hid hA
  have hn2 : ((d.digits.length : Int) == 0) = false := by rw [beq_eq_false_iff_ne]; omega
  have hp1 : (p : Int) ≤ 21 := by omega
  have hp2 : (0 : Int) < p := by omega
  have hp3 : (p : Int) ≤ d.digits.length := by omega
  have hx0 : (⟨d.digits.toArray⟩ : ByteArray).extract 0 p = ⟨(d.digits.take p).toArray⟩ := by rw [Lib.extract_eq]; simp
  have hx1 : (⟨d.digits.toArray⟩ : ByteArray).extract p d.digits.length = ⟨(d.digits.drop p).toArray⟩ := by rw [Lib.extract_eq]; rw [List.take_of_length_le (by simp)]
  clear hA hp0 hp
  go_enter Tryz.func27, Tryz.ntmps27
  go_wp2_with fail
  refine (check_calls _ d (by omega)).mono ?_
  rintro e w2 ⟨rfl, hb2⟩
  rw [Hk.out]
  have h2 := h1.out.under hb2
  have hb3 := hbel.trans (hb2.mono hbel.size)
  have Ht2 := Lib.hid ((Ht.out.alloc _).below hb2)
  clear h1 Ht hb2 hbel
  have c0 := h2.c0
  have c1 := h2.c1
  have c2 := h2.c2
  have H2 := Lib.hid h2
  clear h2
  clear Ht2
  go_wp2_with fail
  go_quiet (fail)
  have hb3 := below_drewN hb3 nq
  obtain ⟨dn, dg, de⟩ := d
  simp only at *
  cases dn with
  | true =>
    go_wp2_with fail
    go_ret2
    refine ⟨?_, hb3⟩
    rw [textT, HA.out]
    exact congrArg (fun s => Ending.returned (.tuple #[.string s, .int .i64 0])) (bytes_eq (by simp [ByteArray.data_append]))
  | false =>
    go_wp2_with fail
    go_ret2
    refine ⟨?_, hb3⟩
    rw [textT, HA.out]
    exact congrArg (fun s => Ending.returned (.tuple #[.string s, .int .i64 0])) (bytes_eq (by simp [ByteArray.data_append]))

set_option maxHeartbeats 4000000 in
set_option maxRecDepth 100000 in
theorem text_small (w : World) (d : Dec) (hmay : mayB d = true) (ht : Tab w) (hn : 0 < d.digits.length) (hp0 : d.digits.length + d.exp ≤ 0) (hp : -5 ≤ d.digits.length + d.exp) :
    Calls Tryz.prog 27 #[.agg #[.bool d.neg, .string ⟨d.digits.toArray⟩, .int .i64 d.exp]] w fun e w' => e = .returned (.tuple #[.string ⟨(textT d).toArray⟩, .int .i64 0]) ∧ Below w.heap.size w w' := by
  obtain ⟨hdg, hdl, he1, he2⟩ := may_bounds hmay
  have hk : chk d = 0 := by simp [chk, hmay]
  have h1 := Lib.hid (DecAt.at w d _ rfl)
  have hbel : Below w.heap.size w (w.alloc (Obj.cells #[Value.bool d.neg, Value.string { data := d.digits.toArray }, Value.int IntKind.i64 d.exp] 24)) := (Below.refl _ _).alloc (Nat.le_refl _) _
  have Ht := Lib.hid ht
  have Hk := Lib.hid hk
  clear ht hk hmay hdg
  obtain ⟨p, hpp⟩ : ∃ p : Nat, -((d.digits.length : Int) + d.exp) = p := ⟨(-((d.digits.length : Int) + d.exp)).toNat, by omega⟩
  have hA : textA d = 48 :: 46 :: (List.replicate p 48 ++ d.digits) := by
    simp only [textA]; rw [if_neg (by omega), if_neg (by omega), if_neg (by omega), if_pos ⟨hp0, hp⟩, hpp, Int.toNat_natCast]
  have HA := Lib.hid hA
  have hn2 : ((d.digits.length : Int) == 0) = false := by rw [beq_eq_false_iff_ne]; omega
  have Hpp := Lib.hid hpp
  clear hA hpp
  go_enter Tryz.func27, Tryz.ntmps27
  go_wp2_with fail
  refine (check_calls _ d (by omega)).mono ?_
  rintro e w2 ⟨rfl, hb2⟩
  rw [Hk.out]
  have h2 := h1.out.under hb2
  have hb3 := hbel.trans (hb2.mono hbel.size)
  have Ht2 := Lib.hid ((Ht.out.alloc _).below hb2)
  clear h1 Ht hb2 hbel
  have c0 := h2.c0
  have c1 := h2.c1
  have c2 := h2.c2
  have H2 := Lib.hid h2
  clear h2
  go_wp2_with fail
  rw [Hpp.out]
  have hp5 : p ≤ 5 := by have := Hpp.out; omega
  refine (Tryz.strings_Repeat ⟨#[48]⟩ p _ (by omega) (by rw [show (⟨#[48]⟩ : ByteArray).size = 1 from rfl]; omega)).mono ?_
  rintro e w4 ⟨rfl, hb4⟩
  rw [show (⟨#[48]⟩ : ByteArray).data.toList = [48] from rfl, repeat_eq]
  have h4 := H2.out.under hb4
  have hb5 := hb3.trans (hb4.mono hb3.size)
  have c0 := h4.c0
  clear H2 hb3 hb4 h4 Ht2
  have hb3 := hb5
  obtain ⟨dn, dg, de⟩ := d
  simp only at *
  cases dn with
  | true =>
    go_wp2_with fail
    go_ret2
    refine ⟨?_, hb3⟩
    rw [textT, HA.out]
    exact congrArg (fun s => Ending.returned (.tuple #[.string s, .int .i64 0])) (bytes_eq (by simp [ByteArray.data_append]))
  | false =>
    go_wp2_with fail
    go_ret2
    refine ⟨?_, hb3⟩
    rw [textT, HA.out]
    exact congrArg (fun s => Ending.returned (.tuple #[.string s, .int .i64 0])) (bytes_eq (by simp [ByteArray.data_append]))

set_option maxHeartbeats 4000000 in
set_option maxRecDepth 100000 in
theorem text_exp1 (w : World) (d : Dec) (hmay : mayB d = true) (ht : Tab w) (hn : d.digits.length = 1) (hp : 21 < d.digits.length + d.exp ∨ d.digits.length + d.exp < -5) :
    Calls Tryz.prog 27 #[.agg #[.bool d.neg, .string ⟨d.digits.toArray⟩, .int .i64 d.exp]] w fun e w' => e = .returned (.tuple #[.string ⟨(textT d).toArray⟩, .int .i64 0]) ∧ Below w.heap.size w w' := by
  obtain ⟨hdg, hdl, he1, he2⟩ := may_bounds hmay
  have hk : chk d = 0 := by simp [chk, hmay]
  have h1 := Lib.hid (DecAt.at w d _ rfl)
  have hbel : Below w.heap.size w (w.alloc (Obj.cells #[Value.bool d.neg, Value.string { data := d.digits.toArray }, Value.int IntKind.i64 d.exp] 24)) := (Below.refl _ _).alloc (Nat.le_refl _) _
  have Ht := Lib.hid ht
  have Hk := Lib.hid hk
  clear ht hk hmay hdg
  have hA : textA d = d.digits ++ 101 :: Lib.itoa (d.digits.length + d.exp - 1) := by
    simp only [textA]; rw [if_neg (by omega), if_neg (by omega), if_neg (by omega), if_neg (by omega), if_neg (by omega)]
  have HA := Lib.hid hA
  have hn2 : ((d.digits.length : Int) == 0) = false := by rw [beq_eq_false_iff_ne]; omega
  have hn3 : ¬ (1 : Int) < d.digits.length := by omega
  clear hA
  go_enter Tryz.func27, Tryz.ntmps27
  go_wp2_with fail
  refine (check_calls _ d (by omega)).mono ?_
  rintro e w2 ⟨rfl, hb2⟩
  rw [Hk.out]
  have h2 := h1.out.under hb2
  have hb3 := hbel.trans (hb2.mono hbel.size)
  have Ht2 := Lib.hid ((Ht.out.alloc _).below hb2)
  clear h1 Ht hb2 hbel
  have c0 := h2.c0
  have c1 := h2.c1
  have c2 := h2.c2
  have H2 := Lib.hid h2
  clear h2
  obtain ⟨P, hP⟩ : ∃ P, (d.digits.length : Int) + d.exp = P := ⟨_, rfl⟩
  rw [hP] at hp HA
  have hP5 : -2000 ≤ P ∧ P ≤ 2000 := by omega
  have hP6 : d.exp < P := by omega
  have Hn := Lib.hid hn
  clear hn
  rcases hp with hp | hp
  all_goals
    go_wp2_with fail
    refine (Tryz.strconv_Itoa (P - 1) (by omega) (by omega) _ (by exact Ht2.out)).mono ?_
    rintro e w4 ⟨rfl, k, os, hw4⟩
    have hb4 := below_grow w2 k os
    rw [← hw4] at hb4
    have hb4 : Below w2.heap.size w2 w4 := hb4
    have hit := Lib.itoa_length_le (P - 1) (by omega) (by omega)
    have h4 := H2.out.under hb4
    have hb5 := hb3.trans (hb4.mono hb3.size)
    have c0 := h4.c0
    clear H2 hb3 hb4 h4 Ht2 hw4
    have hb3 := hb5
    generalize Lib.itoa (P - 1) = it at *
    obtain ⟨dn, dg, de⟩ := d
    simp only at *
    cases dn with
    | true =>
      go_wp2_with fail
      go_ret2
      refine ⟨?_, hb3⟩
      rw [textT, HA.out]
      exact congrArg (fun s => Ending.returned (.tuple #[.string s, .int .i64 0])) (bytes_eq (by simp [ByteArray.data_append]))
    | false =>
      go_wp2_with fail
      go_ret2
      refine ⟨?_, hb3⟩
      rw [textT, HA.out]
      exact congrArg (fun s => Ending.returned (.tuple #[.string s, .int .i64 0])) (bytes_eq (by simp [ByteArray.data_append]))

set_option maxHeartbeats 4000000 in
set_option maxRecDepth 100000 in
theorem text_expn (w : World) (d : Dec) (hmay : mayB d = true) (ht : Tab w) (hn : 1 < d.digits.length) (hp : 21 < d.digits.length + d.exp ∨ d.digits.length + d.exp < -5) :
    Calls Tryz.prog 27 #[.agg #[.bool d.neg, .string ⟨d.digits.toArray⟩, .int .i64 d.exp]] w fun e w' => e = .returned (.tuple #[.string ⟨(textT d).toArray⟩, .int .i64 0]) ∧ Below w.heap.size w w' := by
  obtain ⟨hdg, hdl, he1, he2⟩ := may_bounds hmay
  have hk : chk d = 0 := by simp [chk, hmay]
  have h1 := Lib.hid (DecAt.at w d _ rfl)
  have hbel : Below w.heap.size w (w.alloc (Obj.cells #[Value.bool d.neg, Value.string { data := d.digits.toArray }, Value.int IntKind.i64 d.exp] 24)) := (Below.refl _ _).alloc (Nat.le_refl _) _
  have Ht := Lib.hid ht
  have Hk := Lib.hid hk
  clear ht hk hmay hdg
  have hA : textA d = (d.digits.take 1 ++ 46 :: d.digits.drop 1) ++ 101 :: Lib.itoa (d.digits.length + d.exp - 1) := by
    simp only [textA]; rw [if_neg (by omega), if_neg (by omega), if_neg (by omega), if_neg (by omega), if_pos (by omega)]
  have HA := Lib.hid hA
  have hn2 : ((d.digits.length : Int) == 0) = false := by rw [beq_eq_false_iff_ne]; omega
  have hn3 : (1 : Int) < d.digits.length := by omega
  have hx0 : (⟨d.digits.toArray⟩ : ByteArray).extract 0 1 = ⟨(d.digits.take 1).toArray⟩ := by rw [Lib.extract_eq]; simp
  have hx1 : (⟨d.digits.toArray⟩ : ByteArray).extract 1 d.digits.length = ⟨(d.digits.drop 1).toArray⟩ := by rw [Lib.extract_eq]; rw [List.take_of_length_le (by simp)]
  clear hA
  go_enter Tryz.func27, Tryz.ntmps27
  go_wp2_with fail
  refine (check_calls _ d (by omega)).mono ?_
  rintro e w2 ⟨rfl, hb2⟩
  rw [Hk.out]
  have h2 := h1.out.under hb2
  have hb3 := hbel.trans (hb2.mono hbel.size)
  have Ht2 := Lib.hid ((Ht.out.alloc _).below hb2)
  clear h1 Ht hb2 hbel
  have c0 := h2.c0
  have c1 := h2.c1
  have c2 := h2.c2
  have H2 := Lib.hid h2
  clear h2
  obtain ⟨P, hP⟩ : ∃ P, (d.digits.length : Int) + d.exp = P := ⟨_, rfl⟩
  rw [hP] at hp HA
  have hP5 : -2000 ≤ P ∧ P ≤ 2000 := by omega
  have hP6 : d.exp < P := by omega
  have Hn := Lib.hid hn
  clear hn
  rcases hp with hp | hp <;> rcases Int.lt_or_le d.exp 0 with h0 | h0 <;> (try (exfalso; omega; done))
  all_goals
    go_wp2_with fail
    go_quiet (fail)
    have hb3o := hb3
    go_wp2_with fail
    refine (Tryz.strconv_Itoa (P - 1) (by omega) (by omega) _ (by exact Ht2.out)).mono ?_
    rintro e w4 ⟨rfl, k, os, hw4⟩
    have hb4 := below_grow (w2.drewN nq) k os
    rw [← hw4] at hb4
    have hb4 : Below w2.heap.size w2 w4 := (below_drewN (Below.refl _ _) nq).trans hb4
    have hit := Lib.itoa_length_le (P - 1) (by omega) (by omega)
    have h4 := H2.out.under hb4
    have hb5 := hb3o.trans (hb4.mono hb3o.size)
    have c0 := h4.c0
    clear H2 hb3 hb4 h4 Ht2 hw4
    have hb3 := hb5
    generalize Lib.itoa (P - 1) = it at *
    obtain ⟨dn, dg, de⟩ := d
    simp only at *
    cases dn with
    | true =>
      go_wp2_with fail
      go_ret2
      refine ⟨?_, hb3⟩
      rw [textT, HA.out]
      exact congrArg (fun s => Ending.returned (.tuple #[.string s, .int .i64 0])) (bytes_eq (by simp [ByteArray.data_append]))
    | false =>
      go_wp2_with fail
      go_ret2
      refine ⟨?_, hb3⟩
      rw [textT, HA.out]
      exact congrArg (fun s => Ending.returned (.tuple #[.string s, .int .i64 0])) (bytes_eq (by simp [ByteArray.data_append]))


theorem text_not (w : World) (d : Dec) (hd : d.digits.length ≤ 10000000000) (hm : mayB d = false) :
    Calls Tryz.prog 27 #[.agg #[.bool d.neg, .string ⟨d.digits.toArray⟩, .int .i64 d.exp]] w fun e w' => e = .returned (.tuple #[.string ⟨#[]⟩, .int .i64 2]) ∧ Below w.heap.size w w' := by
  have hbel : Below w.heap.size w (w.alloc (Obj.cells #[Value.bool d.neg, Value.string { data := d.digits.toArray }, Value.int IntKind.i64 d.exp] 24)) := (Below.refl _ _).alloc (Nat.le_refl _) _
  have hk : chk d = 2 := by simp [chk, hm]
  have Hk := Lib.hid hk
  clear hk hm
  go_enter Tryz.func27, Tryz.ntmps27
  go_wp2_with fail
  refine (check_calls _ d (by omega)).mono ?_
  rintro e w2 ⟨rfl, hb2⟩
  rw [Hk.out]
  have hb3 := hbel.trans (hb2.mono hbel.size)
  clear hb2 hbel
  go_wp2_with fail
  go_ret2
  exact ⟨rfl, hb3⟩
theorem text_calls (w : World) (d : Dec) (hd : d.digits.length ≤ 10000000000) (ht : Tab w) :
    Calls Tryz.prog 27 #[.agg #[.bool d.neg, .string ⟨d.digits.toArray⟩, .int .i64 d.exp]] w fun e w' => e = .returned (.tuple #[.string ⟨(textS d).1.toArray⟩, .int .i64 (textS d).2]) ∧ Below w.heap.size w w' := by
  cases hm : mayB d with
  | false =>
    have : textS d = ([], 2) := by simp [textS, hm]
    rw [this]; exact text_not w d hd hm
  | true =>
    have : textS d = (textT d, 0) := by simp [textS, hm]
    rw [this]
    by_cases h0 : d.digits.length = 0
    · exact text_zero w d hm ht h0
    have hn : 0 < d.digits.length := by omega
    by_cases hp : d.digits.length + d.exp ≤ 21
    · by_cases he : 0 ≤ d.exp
      · exact text_whole w d hm ht hn he hp
      · by_cases hp0 : 0 < d.digits.length + d.exp
        · exact text_point w d hm ht hn (by omega) hp0 hp
        · by_cases hp5 : -5 ≤ d.digits.length + d.exp
          · exact text_small w d hm ht hn (by omega) hp5
          · by_cases h1 : d.digits.length = 1
            · exact text_exp1 w d hm ht h1 (.inr (by omega))
            · exact text_expn w d hm ht (by omega) (.inr (by omega))
    · by_cases h1 : d.digits.length = 1
      · exact text_exp1 w d hm ht h1 (.inl (by omega))
      · exact text_expn w d hm ht (by omega) (.inl (by omega))
end Go.Proofs.YtkakmjdfecbhaaaGreatDoor
