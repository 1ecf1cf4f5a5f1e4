/- The walk of DecimalBack: it returns true, at every text and every decimal, over any world with the library's table of powers of ten. -/
import Derived.Test.YtkakmjdfecbhaaaDoorLaw1
import Derived.Test.YtkakmjdfecbhaaaDoorPla2
namespace Go.Proofs.YtkakmjdfecbhaaaDoor
open Go.RowKit

theorem may_len {d : Dec} (h : mayB d = true) : d.digits.length ≤ 1000 := by
  by_cases hne : d.digits = []
  · simp [hne]
  · obtain ⟨c, t, hd, hdig, hl, hc, hlast, h1, h2⟩ := may_cons h hne
    rw [hd]; simp at hl ⊢; omega
theorem longB_one (d : Dec) : longB [d] = decide (1000 < d.digits.length) := by simp [longB]

set_option maxHeartbeats 2000000 in
set_option maxRecDepth 100000 in
theorem back_long (w : World) (l : List UInt8) (d : Dec) (hl : l.length ≤ maxLen) (hd : d.digits.length ≤ maxLen) (ht : Tab w) (h : 3000 < l.length ∨ 1000 < d.digits.length) :
    Calls Tryd.prog 4 #[.string ⟨l.toArray⟩, .agg #[.bool d.neg, .string ⟨d.digits.toArray⟩, .int .i64 d.exp]] w fun e w' => e = .returned (.bool true) ∧ Below w.heap.size w w' := by
  have hb1 : Below w.heap.size w (w.alloc (Obj.cells #[Value.bool d.neg, Value.string { data := d.digits.toArray }, Value.int IntKind.i64 d.exp] 23)) := (Below.refl _ _).alloc (Nat.le_refl _) _
  have Ht1 := Lib.hid (ht.below hb1)
  unfold maxLen at hl
  by_cases hll : 3000 < l.length
  · have hll' : (3000 : Int) < l.length := by omega
    clear h ht hd
    go_enter Tryd.func4, Tryd.ntmps4
    go_wp2_with fail
    refine (works_calls _ Ht1.out).mono ?_
    rintro e w2 ⟨rfl, hb2⟩
    have hb3 := hb1.trans (hb2.mono (by simp))
    go_wp2_with fail
    go_ret
    exact ⟨rfl, hb3⟩
  · have hll' : ¬ (3000 : Int) < l.length := by omega
    have hlb : longB [d] = true := by rw [longB_one]; simp; omega
    have Hlb := Lib.hid hlb
    have hd2 := Lib.hid hd
    have hr := Lib.hid (DecsRaw.one (w.alloc (Obj.cells #[Value.bool d.neg, Value.string { data := d.digits.toArray }, Value.int IntKind.i64 d.exp] 23)) d hd)
    have hb1' : Below w.heap.size w ((w.alloc (Obj.cells #[Value.bool d.neg, Value.string { data := d.digits.toArray }, Value.int IntKind.i64 d.exp] 23)).alloc (Obj.cells #[Value.bool d.neg, Value.string { data := d.digits.toArray }, Value.int IntKind.i64 d.exp] 23)) := hb1.alloc (by simp) _
    have Ht2 := Lib.hid (ht.below hb1')
    clear h ht hd hlb
    go_enter Tryd.func4, Tryd.ntmps4
    go_wp2_with fail
    have hr2 := hr.out
    rw [World.size_alloc] at hr2
    refine (long_calls _ _ [d] hr2).mono ?_
    rintro e w2 ⟨rfl, rfl⟩
    rw [Hlb.out]
    clear hr2 hr
    go_wp2_with fail
    refine (works_calls _ Ht2.out).mono ?_
    rintro e w2 ⟨rfl, hb2⟩
    have hb3 := hb1'.trans (hb2.mono (by simp; omega))
    clear Ht2 Ht1 hb1 hb1' hb2
    go_wp2_with fail
    go_ret
    exact ⟨rfl, hb3⟩

set_option maxHeartbeats 4000000 in
set_option maxRecDepth 100000 in
theorem back_short (w : World) (l : List UInt8) (d : Dec) (hl : l.length ≤ 3000) (hd : d.digits.length ≤ 1000) (ht : Tab w) :
    Calls Tryd.prog 4 #[.string ⟨l.toArray⟩, .agg #[.bool d.neg, .string ⟨d.digits.toArray⟩, .int .i64 d.exp]] w fun e w' => e = .returned (.bool true) ∧ Below w.heap.size w w' := by
  have hb1 : Below w.heap.size w (w.alloc (Obj.cells #[Value.bool d.neg, Value.string { data := d.digits.toArray }, Value.int IntKind.i64 d.exp] 23)) := (Below.refl _ _).alloc (Nat.le_refl _) _
  have hll' : ¬ (3000 : Int) < l.length := by omega
  have hlb : longB [d] = false := by rw [longB_one]; simp; omega
  have Hlb := Lib.hid hlb
  have hr := Lib.hid (DecsRaw.one (w.alloc (Obj.cells #[Value.bool d.neg, Value.string { data := d.digits.toArray }, Value.int IntKind.i64 d.exp] 23)) d (by unfold maxLen; omega))
  have hb1' : Below w.heap.size w ((w.alloc (Obj.cells #[Value.bool d.neg, Value.string { data := d.digits.toArray }, Value.int IntKind.i64 d.exp] 23)).alloc (Obj.cells #[Value.bool d.neg, Value.string { data := d.digits.toArray }, Value.int IntKind.i64 d.exp] 23)) := hb1.alloc (by simp) _
  have Ht2 := Lib.hid (ht.below hb1')
  have Hd := Lib.hid ((DecAt.at w d _ rfl).alloc (Obj.cells #[Value.bool d.neg, Value.string { data := d.digits.toArray }, Value.int IntKind.i64 d.exp] 23))
  clear ht hlb hb1
  go_enter Tryd.func4, Tryd.ntmps4
  go_wp2_with fail
  have hr2 := hr.out
  rw [World.size_alloc] at hr2
  refine (long_calls _ _ [d] hr2).mono ?_
  rintro e w2 ⟨rfl, rfl⟩
  rw [Hlb.out]
  clear hr2 hr Hlb
  generalize (w.alloc (Obj.cells #[Value.bool d.neg, Value.string { data := d.digits.toArray }, Value.int IntKind.i64 d.exp] 23)).alloc (Obj.cells #[Value.bool d.neg, Value.string { data := d.digits.toArray }, Value.int IntKind.i64 d.exp] 23) = w1 at *
  have c0 := Hd.out.c0
  have c1 := Hd.out.c1
  have c2 := Hd.out.c2
  go_wp2_with fail
  refine (text_calls w1 d (by omega) Ht2.out).mono ?_
  rintro e w2 ⟨rfl, hb2⟩
  have hd2 := Hd.out.under hb2
  have Ht3 := Lib.hid (Ht2.out.below hb2)
  have hbel := hb1'.trans (hb2.mono hb1'.size)
  clear c0 c1 c2 Hd Ht2 hb1' hb2
  have Hq : Hid ((textS d = (textT d, 0) ∧ mayB d = true) ∨ textS d = ([], 2)) := by
    cases hm : mayB d with
    | false => exact .inr (by simp [textS, hm])
    | true => exact .inl ⟨by simp [textS, hm], rfl⟩
  generalize textS d = q at *
  obtain ⟨s, n⟩ := q
  go_upto_if 33 with (go_at_call 13; refine (num_calls _ _).mono ?_; rintro e w8 ⟨rfl, rfl⟩)
  go_cut [0] (fun u wc => u = .string ⟨l.toArray⟩ ∧ Tab wc ∧ Below w.heap.size w wc)
  case first =>
    rcases Hq.out with ⟨hq, hm⟩ | hq
    · obtain ⟨rfl, rfl⟩ := Prod.mk.inj hq
      obtain ⟨htb, htl⟩ := text_back hm
      have Htb := Lib.hid htb
      have Hchk : Hid (chk d = 0) := by have : chk d = 0 := by simp [chk, hm]
                                        exact this
      clear hq hm htb Hq
      go_wp2_with fail
      refine (parse_calls w2 (textT d) (by omega)).mono ?_
      rintro e w3 ⟨rfl, hb3⟩
      rw [Htb.out]
      simp only [DecV]
      have hd3 := (hd2.under hb3).alloc (Obj.cells #[Value.bool d.neg, Value.string { data := d.digits.toArray }, Value.int IntKind.i64 d.exp] 23)
      have hx := DecAt.at w3 d _ rfl
      have hbel := hbel.trans (hb3.mono hbel.size)
      have hbel := hbel.alloc hbel.size (Obj.cells #[Value.bool d.neg, Value.string { data := d.digits.toArray }, Value.int IntKind.i64 d.exp] 23)
      have Ht4 := Lib.hid ((Ht3.out.below hb3).alloc (Obj.cells #[Value.bool d.neg, Value.string { data := d.digits.toArray }, Value.int IntKind.i64 d.exp] 23))
      have c0 := hd3.c0
      have c1 := hd3.c1
      have c2 := hd3.c2
      have x0 := hx.c0
      have x1 := hx.c1
      have x2 := hx.c2
      clear hd3 hx hd2 hb3 Ht3
      go_wp2_with (go_at_call 13; refine (num_calls _ _).mono ?_; rintro e w8 ⟨rfl, rfl⟩)
      refine (check_calls _ d (by omega)).mono ?_
      rintro e w5 ⟨rfl, hb5⟩
      rw [Hchk.out]
      have hbel := hbel.trans (hb5.mono hbel.size)
      have Ht5 := Lib.hid (Ht4.out.below hb5)
      clear hb5 Ht4
      go_wp2_with (go_at_call 13; refine (num_calls _ _).mono ?_; rintro e w8 ⟨rfl, rfl⟩)
      go_meet
      exact ⟨rfl, Ht5.out, hbel⟩
    · obtain ⟨rfl, rfl⟩ := Prod.mk.inj hq
      clear hq Hq
      go_wp2_with fail
      go_meet
      exact ⟨rfl, Ht3.out, hbel⟩
  case rest =>
    obtain ⟨rfl, htc, hbc⟩ := hcut
    have Htc := Lib.hid htc
    clear htc Ht3 hd2 hbel Hq
    go_wp2_with fail
    refine (parse_calls wc l (by omega)).mono ?_
    rintro e w3 ⟨rfl, hb3⟩
    simp only [DecV]
    have Hmay : Hid ((parseS l).2 = 0 → mayB (parseS l).1 = true) := by
      have := fun h => parse_may l h
      exact this
    generalize parseS l = q at *
    obtain ⟨x, f⟩ := q
    simp only
    have hd3 := DecAt.at w3 x _ rfl
    have hbel := hbc.trans (hb3.mono hbc.size)
    have hbel := hbel.alloc hbel.size (Obj.cells #[Value.bool x.neg, Value.string { data := x.digits.toArray }, Value.int IntKind.i64 x.exp] 23)
    have Ht4 := Lib.hid ((Htc.out.below hb3).alloc (Obj.cells #[Value.bool x.neg, Value.string { data := x.digits.toArray }, Value.int IntKind.i64 x.exp] 23))
    have c0 := hd3.c0
    have c1 := hd3.c1
    have c2 := hd3.c2
    clear hb3 Htc hbc
    by_cases hf : f = 0
    · subst hf
      have hm := Hmay.out rfl
      obtain ⟨htb, htl⟩ := text_back hm
      have hxl : x.digits.length ≤ 1000 := may_len hm
      have Htb := Lib.hid htb
      have Hchk : Hid (chk x = 0) := by have : chk x = 0 := by simp [chk, hm]
                                        exact this
      have Htx : Hid (textS x = (textT x, 0)) := by have : textS x = (textT x, 0) := by simp [textS, hm]
                                                    exact this
      have Hd3 := Lib.hid hd3
      clear hm htb hd3 Hmay
      go_wp2_with (go_at_call 13; refine (num_calls _ _).mono ?_; rintro e w8 ⟨rfl, rfl⟩)
      refine (text_calls _ x (by omega) Ht4.out).mono ?_
      rintro e w5 ⟨rfl, hb5⟩
      rw [Htx.out]
      have hbel := hbel.trans (hb5.mono hbel.size)
      have Ht5 := Lib.hid (Ht4.out.below hb5)
      have hd5 := Hd3.out.under hb5
      clear hb5 Ht4 c0 c1 c2 Hd3
      simp only
      go_wp2_with fail
      refine (parse_calls _ (textT x) (by omega)).mono ?_
      rintro e w6 ⟨rfl, hb6⟩
      rw [Htb.out]
      simp only [DecV]
      have hd6 := Lib.hid ((hd5.under hb6).alloc (Obj.cells #[Value.bool x.neg, Value.string { data := x.digits.toArray }, Value.int IntKind.i64 x.exp] 23))
      have hy6 := Lib.hid (DecAt.at w6 x _ rfl)
      have hbel := hbel.trans (hb6.mono hbel.size)
      have hbel := hbel.alloc hbel.size (Obj.cells #[Value.bool x.neg, Value.string { data := x.digits.toArray }, Value.int IntKind.i64 x.exp] 23)
      have Ht6 := Lib.hid ((Ht5.out.below hb6).alloc (Obj.cells #[Value.bool x.neg, Value.string { data := x.digits.toArray }, Value.int IntKind.i64 x.exp] 23))
      have c0 := hy6.out.c0
      have c1 := hy6.out.c1
      have c2 := hy6.out.c2
      clear hb6 Ht5 hd5
      go_wp2_with fail
      refine (text_calls _ x (by omega) Ht6.out).mono ?_
      rintro e w7 ⟨rfl, hb7⟩
      rw [Htx.out]
      simp only
      have hd7 := Lib.hid (hd6.out.under hb7)
      have hy7 := Lib.hid (hy6.out.under hb7)
      have hbel := hbel.trans (hb7.mono hbel.size)
      have Ht7 := Lib.hid (Ht6.out.below hb7)
      clear hb7 Ht6 c0 c1 c2 hd6 hy6
      have c0 := hd7.out.c0
      have c1 := hd7.out.c1
      have c2 := hd7.out.c2
      have y0 := hy7.out.c0
      have y1 := hy7.out.c1
      have y2 := hy7.out.c2
      go_wp2_with fail
      refine (check_calls _ x (by omega)).mono ?_
      rintro e w9 ⟨rfl, hb9⟩
      rw [Hchk.out]
      have hbel := hbel.trans (hb9.mono hbel.size)
      have Ht9 := Lib.hid (Ht7.out.below hb9)
      have hd9 := Lib.hid (hd7.out.under hb9)
      have hy9 := Lib.hid (hy7.out.under hb9)
      clear hb9 Ht7 c0 c1 c2 y0 y1 y2 hd7 hy7
      have c0 := hd9.out.c0
      have c1 := hd9.out.c1
      have c2 := hd9.out.c2
      have y0 := hy9.out.c0
      have y1 := hy9.out.c1
      have y2 := hy9.out.c2
      go_wp2_with (go_at_call 13; refine (num_calls _ _).mono ?_; rintro e w8 ⟨rfl, rfl⟩)
      refine (works_calls _ Ht9.out).mono ?_
      rintro e w2 ⟨rfl, hb2⟩
      have hbf := hbel.trans (hb2.mono hbel.size)
      clear Ht9 hb2 hbel c0 c1 c2 y0 y1 y2
      go_wp2_with fail
      go_ret
      exact ⟨rfl, hbf⟩
    · clear Hmay hd3 c0 c1 c2
      go_wp2_with (go_at_call 13; refine (num_calls _ _).mono ?_; rintro e w8 ⟨rfl, rfl⟩)
      refine (works_calls _ Ht4.out).mono ?_
      rintro e w2 ⟨rfl, hb2⟩
      have hbf := hbel.trans (hb2.mono hbel.size)
      clear Ht4 hb2 hbel
      go_wp2_with fail
      go_ret
      exact ⟨rfl, hbf⟩
theorem back_calls (w : World) (l : List UInt8) (d : Dec) (hl : l.length ≤ maxLen) (hd : d.digits.length ≤ maxLen) (ht : Tab w) :
    Calls Tryd.prog 4 #[.string ⟨l.toArray⟩, .agg #[.bool d.neg, .string ⟨d.digits.toArray⟩, .int .i64 d.exp]] w fun e w' => e = .returned (.bool true) ∧ Below w.heap.size w w' := by
  by_cases h : 3000 < l.length ∨ 1000 < d.digits.length
  · exact back_long w l d hl hd ht h
  · exact back_short w l d (by omega) (by omega) ht
end Go.Proofs.YtkakmjdfecbhaaaDoor
