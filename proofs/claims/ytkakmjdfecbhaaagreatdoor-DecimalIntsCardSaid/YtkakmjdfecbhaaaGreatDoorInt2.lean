/- The walks of the reference's FromInt and Int: over any world. Printed by gen_ints.py. -/
import Derived.Test.YtkakmjdfecbhaaaGreatDoorInt1
namespace Go.Proofs.YtkakmjdfecbhaaaGreatDoor
open Go.RowKit

theorem dval_take_le (l : List UInt8) (j : Nat) : dval (l.take j) ≤ dval l := by
  have h := dval_append (l.take j) (l.drop j)
  rw [List.take_append_drop] at h
  have h2 : dval (l.take j) * 1 ≤ dval (l.take j) * 10 ^ (l.drop j).length := Nat.mul_le_mul_left _ (Nat.pow_pos (by omega))
  omega
theorem intR_neg {d : Dec} (hm : mayB d = true) (he : 0 ≤ d.exp) (hn : d.neg = true) : intR d = if mag d 0 ≤ 9223372036854775808 then (-(mag d 0 : Int), true) else (0, false) := by
  have hi : ival d 0 = -(mag d 0 : Int) := by unfold ival; rw [hn]; rfl
  unfold intR
  rw [hi]
  by_cases hb : mag d 0 ≤ 9223372036854775808
  · have hc : mayB d = true ∧ 0 ≤ d.exp ∧ -9223372036854775808 ≤ -(mag d 0 : Int) ∧ -(mag d 0 : Int) ≤ 9223372036854775807 := ⟨hm, he, by omega, by omega⟩
    rw [if_pos hc, if_pos hb]
  · rw [if_neg hb, if_neg (by omega)]
theorem intR_pos {d : Dec} (hm : mayB d = true) (he : 0 ≤ d.exp) (hn : d.neg = false) : intR d = if mag d 0 ≤ 9223372036854775807 then ((mag d 0 : Int), true) else (0, false) := by
  have hi : ival d 0 = (mag d 0 : Int) := by unfold ival; rw [hn]; rfl
  unfold intR
  rw [hi]
  by_cases hb : mag d 0 ≤ 9223372036854775807
  · have hc : mayB d = true ∧ 0 ≤ d.exp ∧ -9223372036854775808 ≤ (mag d 0 : Int) ∧ (mag d 0 : Int) ≤ 9223372036854775807 := ⟨hm, he, by omega, by omega⟩
    rw [if_pos hc, if_pos hb]
  · rw [if_neg hb, if_neg (by omega)]
def most7 : List UInt8 := [57, 50, 50, 51, 51, 55, 50, 48, 51, 54, 56, 53, 52, 55, 55, 53, 56, 48, 55]
def most8 : List UInt8 := [57, 50, 50, 51, 51, 55, 50, 48, 51, 54, 56, 53, 52, 55, 55, 53, 56, 48, 56]
theorem most7_dig : Dig most7 ∧ trim0 most7 = most7 ∧ dval most7 = 9223372036854775807 := ⟨(digAll_iff _).1 (by kernel_rfl), by kernel_rfl, by kernel_rfl⟩
theorem most8_dig : Dig most8 ∧ trim0 most8 = most8 ∧ dval most8 = 9223372036854775808 := ⟨(digAll_iff _).1 (by kernel_rfl), by kernel_rfl, by kernel_rfl⟩
theorem cmpN_le {a b : Nat} (h : a ≤ b) : cmpN a b ≤ 0 := by unfold cmpN; split <;> (try split) <;> omega
theorem cmpN_gt {a b : Nat} (h : ¬ a ≤ b) : 0 < cmpN a b := by unfold cmpN; split <;> (try split) <;> omega

set_option maxHeartbeats 2000000 in
set_option maxRecDepth 100000 in
theorem intR_calls (w : World) (d : Dec) (hd : d.digits.length ≤ 10000000000) :
    Calls Tryz.prog 23 #[.agg #[.bool d.neg, .string ⟨d.digits.toArray⟩, .int .i64 d.exp]] w fun e w' => e = .returned (.tuple #[.int .i64 (intR d).1, .bool (intR d).2]) ∧ Below w.heap.size w w' := by
  have h1 := DecAt.at w d _ rfl
  have hbel : Below w.heap.size w (w.alloc (Obj.cells #[Value.bool d.neg, Value.string { data := d.digits.toArray }, Value.int IntKind.i64 d.exp] 24)) := (Below.refl _ _).alloc (Nat.le_refl _) _
  have H1 := Lib.hid h1
  have c0 := h1.c0
  have c1 := h1.c1
  have c2 := h1.c2
  clear h1
  go_enter Tryz.func23, Tryz.ntmps23
  go_wp2_with fail
  generalize w.alloc (Obj.cells #[Value.bool d.neg, Value.string { data := d.digits.toArray }, Value.int IntKind.i64 d.exp] 24) = w1 at *
  clear c0 c1 c2
  refine (mayR_calls _ d (by omega)).mono ?_
  rintro e w2 ⟨rfl, hb2⟩
  have H2 := Lib.hid (H1.out.under hb2)
  have hbel2 := hbel.trans (hb2.mono hbel.size)
  clear hb2 hbel H1
  have c0 := H2.out.c0
  have c1 := H2.out.c1
  have c2 := H2.out.c2
  cases hm : mayB d with
  | false =>
    have HR := Lib.hid (intR_no hm)
    clear hm
    go_wp2_with fail
    go_ret2
    exact ⟨by rw [HR.out]; rfl, hbel2⟩
  | true =>
    by_cases he0 : d.exp < 0
    · have HR := Lib.hid (intR_below he0)
      clear hm
      go_wp2_with fail
      go_ret2
      exact ⟨by rw [HR.out]; rfl, hbel2⟩
    have he : 0 ≤ d.exp := by omega
    by_cases h20 : 20 < d.exp
    · have HR := Lib.hid (intR_big hm he (by omega))
      clear hm
      go_wp2_with fail
      go_ret2
      exact ⟨by rw [HR.out]; rfl, hbel2⟩
    obtain ⟨hdg, hdl, he1, he2⟩ := may_bounds hm
    obtain ⟨t1, t2, t3⟩ := tenS_dig hm
    have T1 := Lib.hid t1
    have T2 := Lib.hid t2
    have T3 := Lib.hid t3
    have htl := tenS_len (d := d)
    have hlen : (tenS d).length ≤ 120 := by omega
    have hst : ¬ 9223372036854775807 < d.digits.length + d.exp.toNat := by omega
    have Hneg : Hid (d.neg = true → intR d = if mag d 0 ≤ 9223372036854775808 then (-(mag d 0 : Int), true) else (0, false)) := intR_neg hm he
    have Hpos : Hid (d.neg = false → intR d = if mag d 0 ≤ 9223372036854775807 then ((mag d 0 : Int), true) else (0, false)) := intR_pos hm he
    clear hm htl t1 t2 t3 hdg
    go_upto_region 3 with fail
    have hS0 : (fun w' => w'.cell? ⟨w.heap.size, 0, none⟩ = some (.bool d.neg) ∧ w'.cell? ⟨w.heap.size, 1, none⟩ = some (.string ⟨d.digits.toArray⟩) ∧ w'.cell? ⟨w.heap.size, 2, none⟩ = some (.int .i64 d.exp)) w2.drew := ⟨H2.out.drew.c0, H2.out.drew.c1, H2.out.drew.c2⟩
    refine wp_region_held_drew (S := (fun w' => w'.cell? ⟨w.heap.size, 0, none⟩ = some (.bool d.neg) ∧ w'.cell? ⟨w.heap.size, 1, none⟩ = some (.string ⟨d.digits.toArray⟩) ∧ w'.cell? ⟨w.heap.size, 2, none⟩ = some (.int .i64 d.exp))) (by kernel_rfl) hS0 (fun hHeld0 => ?_)
    refine held_take (i := 0) (v := ?_) rfl (by kernel_rfl) (by kernel_rfl) (by kernel_rfl) (fun _ _ _ h => h) (by rfl) (fun wq hSq => ?_) hHeld0 ?_
    rotate_left
    · (try dsimp only at hSq); go_simp; try with_reducible rfl
    simp only [Act.put, List.setIfInBounds_toArray, List.set_cons_zero, List.set_cons_succ]
    refine held_take (i := 1) (v := ?_) rfl (by kernel_rfl) (by kernel_rfl) (by kernel_rfl) (fun _ _ _ h => h) (by rfl) (fun wq hSq => ?_) hHeld0 ?_
    rotate_left
    · (try dsimp only at hSq); go_simp; try with_reducible rfl
    simp only [Act.put, List.setIfInBounds_toArray, List.set_cons_zero, List.set_cons_succ]
    refine held_take (i := 2) (v := ?_) rfl (by kernel_rfl) (by kernel_rfl) (by kernel_rfl) (fun _ _ _ h => h) (by rfl) (fun wq hSq => ?_) hHeld0 ?_
    rotate_left
    · (try dsimp only at hSq); go_simp; try with_reducible rfl
    simp only [Act.put, List.setIfInBounds_toArray, List.set_cons_zero, List.set_cons_succ]
    refine held_take (i := 3) (v := ?_) rfl (by kernel_rfl) (by kernel_rfl) (by kernel_rfl) (fun _ _ _ h => h) (by rfl) (fun wq hSq => ?_) hHeld0 ?_
    rotate_left
    · (try dsimp only at hSq); go_simp; try with_reducible rfl
    simp only [Act.put, List.setIfInBounds_toArray, List.set_cons_zero, List.set_cons_succ]
    refine held_step (i := 4) (by kernel_rfl) rfl (by rfl) (fun K hK => ?_)
    go_simp
    refine (noughtsR_calls _ d.exp (by omega) (by omega)).mono ?_
    rintro e w4 ⟨rfl, hb4⟩
    dsimp only
    have H4 := Lib.hid (DecAt.under (d := d) (b := w.heap.size) H2.out.drew hb4)
    have hbel4 := hbel2.drew.trans (hb4.mono hbel2.size)
    clear hb4
    refine hK.out _ _ ⟨H4.out.c0, H4.out.c1, H4.out.c2⟩ (fun hHeld1 => ?_)
    clear hK K hHeld0
    refine held_take (i := 5) (v := ?_) rfl (by kernel_rfl) (by kernel_rfl) (by kernel_rfl) (fun _ _ _ h => h) (by rfl) (fun wq hSq => ?_) hHeld1 ?_
    rotate_left
    · (try dsimp only at hSq); go_simp; try with_reducible rfl
    simp only [Act.put, List.setIfInBounds_toArray, List.set_cons_zero, List.set_cons_succ]
    refine held_take (i := 6) (v := ?_) rfl (by kernel_rfl) (by kernel_rfl) (by kernel_rfl) (fun _ _ _ h => h) (by rfl) (fun wq hSq => ?_) hHeld1 ?_
    rotate_left
    · (try dsimp only at hSq); go_simp; try with_reducible rfl
    simp only [Act.put, List.setIfInBounds_toArray, List.set_cons_zero, List.set_cons_succ]
    refine wpAnyH_done (by kernel_rfl) ?_ _
    clear hHeld1
    clear c0 c1 c2 hS0 H2 hbel2
    rw [bytes_app, Array.toList_replicate, show d.digits ++ List.replicate d.exp.toNat 48 = tenS d from rfl]
    have c0 := H4.out.c0
    clear H4 hst
    generalize tenS d = s at *
    generalize mag d 0 = mg at *
    have hnn : d.neg = true ∨ d.neg = false := by cases d.neg <;> simp
    rcases hnn with hn | hn
    ·
      have Hin := Lib.hid (Hneg.out hn)
      rw [hn] at c0
      clear Hneg Hpos hn
      go_wp2_with fail
      obtain ⟨m1, m2, m3⟩ := most8_dig
      have M3 := Lib.hid m3
      refine (cmpR_calls w4 s most8 T1.out m1 T3.out m2).mono ?_
      rintro e w5 ⟨rfl, rfl⟩
      rw [T2.out, M3.out]
      clear m1 m2 m3 M3 T3
      by_cases hb : mg ≤ 9223372036854775808
      ·
        have hcz := cmpN_le hb
        have HR : Hid (intR d = (-(mg : Int), true)) := by show _ = _; rw [Hin.out, if_pos hb]
        clear Hin
        generalize cmpN mg 9223372036854775808 = cz at *
        have hcz2 : ¬ 0 < cz := by omega
        have hcz3 : decide (0 < cz) = false := by simp; omega
        clear hcz
        go_wp2_with fail
        clear hcz2 hcz3
        go_loopg [6, 7] s.length (fun k n i wr => ∃ j : Nat, k = s.length - j ∧ j ≤ s.length ∧ i = .int .i64 j ∧ n = .int .i64 (-(dval (s.take j) : Int)) ∧ w4 = wr)
        case atStart => exact ⟨0, rfl, by omega, rfl, rfl, rfl⟩
        case round =>
          obtain ⟨j, hk, hj, rfl, rfl, rfl⟩ := hrel
          have Hk := Lib.hid hk
          clear hk
          by_cases hlt : j < s.length
          ·
            have hlt2 : (j : Int) < s.length := by omega
            have hij := may_at s j hlt
            have hts := congrArg dval (take_snoc8 s j hlt)
            rw [dval_snoc] at hts
            have hle := dval_take_le s (j + 1)
            rw [T2.out, hts] at hle
            have hdc := Dig_getD T1.out j hlt
            have Hts := Lib.hid hts
            clear hts
            generalize s.getD j 0 = c at *
            generalize dval (s.take j) = v at *
            obtain ⟨hd1, hd2⟩ := hdc
            have hv1 : (10 * v + c.toNat : Int) ≤ 9223372036854775808 + 48 := by omega
            have hv2 : (v : Int) ≤ 922337203685477580 := by omega
            clear hle
            go_wp2_with fail
            go_roundg (s.length - (j + 1))
            case measure => have := Hk.out; omega
            case rel => exact ⟨j + 1, rfl, by omega, by go_num, by rw [Hts.out]; congr 1; omega, rfl⟩
          ·
            obtain rfl : j = s.length := by omega
            rw [List.take_of_length_le (Nat.le_refl _), T2.out]
            clear hlt hj Hk
            have hmb : (mg : Int) ≤ 9223372036854775808 := by omega
            clear hb
            go_wp2_with fail
            go_ret2
            exact ⟨by rw [HR.out]; first | rfl | (simp; done), hbel4⟩
      ·
        have hcz := cmpN_gt hb
        have HR : Hid (intR d = (0, false)) := by show _ = _; rw [Hin.out, if_neg hb]
        clear Hin
        generalize cmpN mg 9223372036854775808 = cz at *
        have hcz3 : decide (0 < cz) = true := by simp; omega
        go_wp2_with fail
        go_ret2
        exact ⟨by rw [HR.out]; rfl, hbel4⟩
    ·
      have Hin := Lib.hid (Hpos.out hn)
      rw [hn] at c0
      clear Hneg Hpos hn
      go_wp2_with fail
      obtain ⟨m1, m2, m3⟩ := most7_dig
      have M3 := Lib.hid m3
      refine (cmpR_calls w4 s most7 T1.out m1 T3.out m2).mono ?_
      rintro e w5 ⟨rfl, rfl⟩
      rw [T2.out, M3.out]
      clear m1 m2 m3 M3 T3
      by_cases hb : mg ≤ 9223372036854775807
      ·
        have hcz := cmpN_le hb
        have HR : Hid (intR d = ((mg : Int), true)) := by show _ = _; rw [Hin.out, if_pos hb]
        clear Hin
        generalize cmpN mg 9223372036854775807 = cz at *
        have hcz2 : ¬ 0 < cz := by omega
        have hcz3 : decide (0 < cz) = false := by simp; omega
        clear hcz
        go_wp2_with fail
        clear hcz2 hcz3
        go_loopg [6, 7] s.length (fun k n i wr => ∃ j : Nat, k = s.length - j ∧ j ≤ s.length ∧ i = .int .i64 j ∧ n = .int .i64 (-(dval (s.take j) : Int)) ∧ w4 = wr)
        case atStart => exact ⟨0, rfl, by omega, rfl, rfl, rfl⟩
        case round =>
          obtain ⟨j, hk, hj, rfl, rfl, rfl⟩ := hrel
          have Hk := Lib.hid hk
          clear hk
          by_cases hlt : j < s.length
          ·
            have hlt2 : (j : Int) < s.length := by omega
            have hij := may_at s j hlt
            have hts := congrArg dval (take_snoc8 s j hlt)
            rw [dval_snoc] at hts
            have hle := dval_take_le s (j + 1)
            rw [T2.out, hts] at hle
            have hdc := Dig_getD T1.out j hlt
            have Hts := Lib.hid hts
            clear hts
            generalize s.getD j 0 = c at *
            generalize dval (s.take j) = v at *
            obtain ⟨hd1, hd2⟩ := hdc
            have hv1 : (10 * v + c.toNat : Int) ≤ 9223372036854775808 + 48 := by omega
            have hv2 : (v : Int) ≤ 922337203685477580 := by omega
            clear hle
            go_wp2_with fail
            go_roundg (s.length - (j + 1))
            case measure => have := Hk.out; omega
            case rel => exact ⟨j + 1, rfl, by omega, by go_num, by rw [Hts.out]; congr 1; omega, rfl⟩
          ·
            obtain rfl : j = s.length := by omega
            rw [List.take_of_length_le (Nat.le_refl _), T2.out]
            clear hlt hj Hk
            have hmb : (mg : Int) ≤ 9223372036854775807 := by omega
            clear hb
            go_wp2_with fail
            go_ret2
            exact ⟨by rw [HR.out]; first | rfl | (simp; done), hbel4⟩
      ·
        have hcz := cmpN_gt hb
        have HR : Hid (intR d = (0, false)) := by show _ = _; rw [Hin.out, if_neg hb]
        clear Hin
        generalize cmpN mg 9223372036854775807 = cz at *
        have hcz3 : decide (0 < cz) = true := by simp; omega
        go_wp2_with fail
        go_ret2
        exact ⟨by rw [HR.out]; rfl, hbel4⟩

set_option maxHeartbeats 1000000 in
set_option maxRecDepth 100000 in
theorem fromIntR_calls (w : World) (n : Int) (h0 : -9223372036854775808 ≤ n) (h1 : n ≤ 9223372036854775807) (ht : Tab w) :
    Calls Tryz.prog 24 #[.int .i64 n] w fun e w' => e = .returned (DecV (intS n)) ∧ Below w.heap.size w w' := by
  have hr := Lib.hid (Rst.start w)
  have ht1 := Lib.hid (ht.alloc (Obj.cells #[Value.bool false, Value.string { data := #[] }, Value.int IntKind.i64 0] 24))
  go_enter Tryz.func24, Tryz.ntmps24
  go_wp2_with fail
  generalize w.alloc (Obj.cells #[Value.bool false, Value.string { data := #[] }, Value.int IntKind.i64 0] 24) = w1 at *
  refine (Tryz.strconv_FormatInt_10 n h0 h1 w1 ht1.out).mono ?_
  rintro e w2 ⟨rfl, k, os, hw2⟩
  have hr2 := hr.out.under (below_grow w1 k os)
  rw [← hw2] at hr2
  clear hw2 hr ht1 ht
  have hl := Lib.itoa_length_le n h0 h1
  have hS : intS n = (madeS (decide (n < 0)) (Lib.decDigits n.natAbs) 0).1 := rfl
  have HS := Lib.hid hS
  have hok : (madeS (decide (n < 0)) (Lib.decDigits n.natAbs) 0).2 = 0 := by
    rw [(int_back h0 h1).1]
    exact madeZ_ok (by have : (10000000000000000000 : Nat) = 10 ^ 19 := by decide
                       omega)
  have HOK := Lib.hid hok
  clear hS hok
  by_cases hn : n < 0
  ·
    have e : Lib.itoa n = 45 :: Lib.decDigits n.natAbs := by unfold Lib.itoa; rw [if_pos hn]
    rw [e] at hl ⊢
    have HN : Hid (decide (n < 0) = true) := by show _ = _; simp [hn]
    clear e
    generalize Lib.decDigits n.natAbs = dg at *
    simp only [List.length_cons] at hl
    have hext : (⟨(45 :: dg).toArray⟩ : ByteArray).extract 1 (dg.length + 1) = ⟨dg.toArray⟩ := by rw [Lib.extract_eq]; simp
    have hnd := HN.out
    go_wp2_with fail
    clear hnd
    ((with_reducible refine (madeR_calls w2 true dg 0 (by omega) (by omega) (by omega)).mono ?_))
    rintro e w5 ⟨⟨x, bb, rfl, hx⟩, hb5⟩
    have hX : intS n = x := by
      rw [HS.out, HN.out]
      rcases hx with ⟨_, h⟩ | ⟨_, h⟩
      · rw [h]
      · have h9 := HOK.out
        rw [HN.out, h] at h9
        cases h9
    have hr5 := hr2.under hb5
    have HX := Lib.hid hX
    clear hr2 hb5 hx hX
    obtain ⟨mn, md, me⟩ := x
    simp only [DecV]
    have hf0 := hr5.res.c0
    have hf1 := hr5.res.c1
    have hf2 := hr5.res.c2
    have hf3 := hr5.res.f0
    have hf4 := hr5.res.f1
    have hf5 := hr5.res.f2
    have hlt := hr5.res.lt
    have hbel := hr5.bel
    clear HOK
    go_wp2_with fail
    refine bodyPost_ret (v := .agg #[.bool mn, .string ⟨md.toArray⟩, .int .i64 me]) (by simp [results, Tryz.results24, go_sem, hf0, hf1, hf2, hlt]) rfl ?_
    rw [HX.out]
    exact ⟨rfl, by go_grown⟩
  ·
    have e : Lib.itoa n = Lib.decDigits n.natAbs := by unfold Lib.itoa; rw [if_neg hn]; congr 1; omega
    rw [e] at hl ⊢
    have HN : Hid (decide (n < 0) = false) := by show _ = _; simp [hn]
    clear e
    generalize Lib.decDigits n.natAbs = dg at *
    have hnd := HN.out
    go_wp2_with fail
    clear hnd
    ((with_reducible refine (madeR_calls w2 false dg 0 (by omega) (by omega) (by omega)).mono ?_))
    rintro e w5 ⟨⟨x, bb, rfl, hx⟩, hb5⟩
    have hX : intS n = x := by
      rw [HS.out, HN.out]
      rcases hx with ⟨_, h⟩ | ⟨_, h⟩
      · rw [h]
      · have h9 := HOK.out
        rw [HN.out, h] at h9
        cases h9
    have hr5 := hr2.under hb5
    have HX := Lib.hid hX
    clear hr2 hb5 hx hX
    obtain ⟨mn, md, me⟩ := x
    simp only [DecV]
    have hf0 := hr5.res.c0
    have hf1 := hr5.res.c1
    have hf2 := hr5.res.c2
    have hf3 := hr5.res.f0
    have hf4 := hr5.res.f1
    have hf5 := hr5.res.f2
    have hlt := hr5.res.lt
    have hbel := hr5.bel
    clear HOK
    go_wp2_with fail
    refine bodyPost_ret (v := .agg #[.bool mn, .string ⟨md.toArray⟩, .int .i64 me]) (by simp [results, Tryz.results24, go_sem, hf0, hf1, hf2, hlt]) rfl ?_
    rw [HX.out]
    exact ⟨rfl, by go_grown⟩
end Go.Proofs.YtkakmjdfecbhaaaGreatDoor
