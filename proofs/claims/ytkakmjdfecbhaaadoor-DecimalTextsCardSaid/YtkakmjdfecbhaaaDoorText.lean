/- The walk of DecimalTexts: it returns true, at every text and every decimal, over any world with the library's table of powers of ten. Printed by gen_text.py. -/
import Derived.Test.YtkakmjdfecbhaaaDoorRef3
import Derived.Test.YtkakmjdfecbhaaaDoorRef4
import Derived.Test.YtkakmjdfecbhaaaDoorLaw2
import Derived.Test.YtkakmjdfecbhaaaDoorBack
namespace Go.Proofs.YtkakmjdfecbhaaaDoor
open Go.RowKit

theorem allOne (w : World) (d : Dec) : AllAt ((w.alloc (.cells #[.bool d.neg, .string ⟨d.digits.toArray⟩, .int .i64 d.exp] 23)).alloc (.cells #[.bool d.neg, .string ⟨d.digits.toArray⟩, .int .i64 d.exp] 23)) [(w.heap.size, d)] := by
  intro p hp
  simp only [List.mem_cons, List.not_mem_nil, or_false] at hp
  subst hp
  exact (DecAt.at w d _ rfl).alloc _
theorem parse_len (l : List UInt8) : (parseS l).1.digits.length ≤ 1000 := by
  have hz : Dec.zero.digits.length ≤ 1000 := by simp [Dec.zero]
  have he : ∀ n a e r, (parseEnd n a e r).1.digits.length ≤ 1000 := fun n a e r => by
    unfold parseEnd; split
    · exact madeS_len _ _ _
    · exact hz
  unfold parseS parseA parseP parseE
  repeat' split
  all_goals first | exact hz | exact he _ _ _ _

set_option maxHeartbeats 2000000 in
set_option maxRecDepth 100000 in
theorem texts_long (w : World) (l : List UInt8) (d : Dec) (hl : l.length ≤ maxLen) (hd : d.digits.length ≤ maxLen) (ht : Tab w) (h : 3000 < l.length ∨ 1000 < d.digits.length) :
    Calls Tryd.prog 3 #[.string ⟨l.toArray⟩, .agg #[.bool d.neg, .string ⟨d.digits.toArray⟩, .int .i64 d.exp]] w fun e w' => e = .returned (.bool true) ∧ Below w.heap.size w w' := by
  have hb1 : Below w.heap.size w (w.alloc (Obj.cells #[Value.bool d.neg, Value.string { data := d.digits.toArray }, Value.int IntKind.i64 d.exp] 23)) := (Below.refl _ _).alloc (Nat.le_refl _) _
  have Ht1 := Lib.hid (ht.below hb1)
  unfold maxLen at hl
  by_cases hll : 3000 < l.length
  · have hll' : (3000 : Int) < l.length := by omega
    clear h ht hd
    go_enter Tryd.func3, Tryd.ntmps3
    go_wp2_with fail
    refine (works_calls _ Ht1.out).mono ?_
    rintro e w2 ⟨rfl, hb2⟩
    have hb3 := hb1.trans (hb2.mono (by simp))
    go_wp2_with fail
    go_ret
    exact ⟨rfl, hb3⟩
  · have hll' : ¬ (3000 : Int) < l.length := by omega
    have hlb : longB [d] = true := by rw [longB_one]; simp; omega
    have Hlb := Lib.hid hlb
    have hd2 := Lib.hid hd
    have hr := Lib.hid (DecsRaw.one (w.alloc (Obj.cells #[Value.bool d.neg, Value.string { data := d.digits.toArray }, Value.int IntKind.i64 d.exp] 23)) d hd)
    have hb1' : Below w.heap.size w ((w.alloc (Obj.cells #[Value.bool d.neg, Value.string { data := d.digits.toArray }, Value.int IntKind.i64 d.exp] 23)).alloc (Obj.cells #[Value.bool d.neg, Value.string { data := d.digits.toArray }, Value.int IntKind.i64 d.exp] 23)) := hb1.alloc (by simp) _
    have Ht2 := Lib.hid (ht.below hb1')
    clear h ht hd hlb
    go_enter Tryd.func3, Tryd.ntmps3
    go_wp2_with fail
    have hr2 := hr.out
    rw [World.size_alloc] at hr2
    refine (long_calls _ _ [d] hr2).mono ?_
    rintro e w2 ⟨rfl, rfl⟩
    rw [Hlb.out]
    clear hr2 hr
    go_wp2_with fail
    refine (works_calls _ Ht2.out).mono ?_
    rintro e w2 ⟨rfl, hb2⟩
    have hb3 := hb1'.trans (hb2.mono (by simp; omega))
    clear Ht2 Ht1 hb1 hb1' hb2
    go_wp2_with fail
    go_ret
    exact ⟨rfl, hb3⟩
set_option maxHeartbeats 4000000 in
set_option maxRecDepth 100000 in
theorem texts_short (w : World) (l : List UInt8) (d : Dec) (hl : l.length ≤ 3000) (hd : d.digits.length ≤ 1000) (ht : Tab w)  :
    Calls Tryd.prog 3 #[.string ⟨l.toArray⟩, .agg #[.bool d.neg, .string ⟨d.digits.toArray⟩, .int .i64 d.exp]] w fun e w' => e = .returned (.bool true) ∧ Below w.heap.size w w' := by
  have hb1 : Below w.heap.size w ((w.alloc (Obj.cells #[Value.bool d.neg, Value.string { data := d.digits.toArray }, Value.int IntKind.i64 d.exp] 23)).alloc (Obj.cells #[Value.bool d.neg, Value.string { data := d.digits.toArray }, Value.int IntKind.i64 d.exp] 23)) := ((Below.refl _ _).alloc (Nat.le_refl _) _).alloc (by simp) _
  have hll' : ¬ (3000 : Int) < l.length := by omega
  have hlb : longB [d] = false := by rw [longB_one]; simp; omega
  have Hlb := Lib.hid hlb
  have hr := Lib.hid (DecsRaw.one (w.alloc (Obj.cells #[Value.bool d.neg, Value.string { data := d.digits.toArray }, Value.int IntKind.i64 d.exp] 23)) d (by unfold maxLen; omega))
  have H1 := Lib.hid (allOne w d)
  have Ht1 := Lib.hid (ht.below hb1)
  have hbel1 := hb1
  clear ht hlb hb1
  go_enter Tryd.func3, Tryd.ntmps3
  go_wp2_with fail
  have hr2 := hr.out
  rw [World.size_alloc] at hr2
  refine (long_calls _ _ [d] hr2).mono ?_
  rintro e w2 ⟨rfl, rfl⟩
  rw [Hlb.out]
  clear hr2 hr Hlb
  generalize ((w.alloc (Obj.cells #[Value.bool d.neg, Value.string { data := d.digits.toArray }, Value.int IntKind.i64 d.exp] 23)).alloc (Obj.cells #[Value.bool d.neg, Value.string { data := d.digits.toArray }, Value.int IntKind.i64 d.exp] 23)) = w1 at *
  go_wp2_with fail
  refine (parse_calls _ l (by omega)).mono ?_
  rintro e w2 ⟨rfl, hb2⟩
  have hc2 := hb2
  have H2 := Lib.hid (H1.out.under hc2)
  have Ht2 := Lib.hid (Ht1.out.below hc2)
  have hbel2 := hbel1.trans (hc2.mono hbel1.size)
  clear hb2 hc2 H1 Ht1 hbel1 
  simp only [DecV]
  have Hr : Hid (∀ W : World, Calls Tryd.prog 11 #[.string ⟨l.toArray⟩] W fun e w' => e = .returned (.tuple #[DecV (parseS l).1, .int .i64 (parseS l).2]) ∧ Below W.heap.size W w') := fun W => parseR_calls W l (by omega)
  have hlx := parse_len l
  generalize parseS l = q at *
  obtain ⟨x, ex⟩ := q
  simp only at *
  simp only [DecV] at Hr
  have H3 := Lib.hid ((H2.out.alloc (Obj.cells #[Value.bool x.neg, Value.string { data := x.digits.toArray }, Value.int IntKind.i64 x.exp] 23)).push (DecAt.at w2 x _ rfl))
  have Ht3 := Lib.hid (Ht2.out.alloc (Obj.cells #[Value.bool x.neg, Value.string { data := x.digits.toArray }, Value.int IntKind.i64 x.exp] 23))
  have hbel3 := hbel2.alloc hbel2.size (Obj.cells #[Value.bool x.neg, Value.string { data := x.digits.toArray }, Value.int IntKind.i64 x.exp] 23)
  clear H2 Ht2 hbel2
  go_wp2_with fail
  refine (Hr.out _).mono ?_
  rintro e w4 ⟨rfl, hb4⟩
  have hc4 := hb4
  have H4 := Lib.hid (H3.out.under hc4)
  have Ht4 := Lib.hid (Ht3.out.below hc4)
  have hbel4 := hbel3.trans (hc4.mono hbel3.size)
  clear hb4 hc4 H3 Ht3 hbel3 
  have H5 := Lib.hid ((H4.out.alloc (Obj.cells #[Value.bool x.neg, Value.string { data := x.digits.toArray }, Value.int IntKind.i64 x.exp] 23)).push (DecAt.at w4 x _ rfl))
  have Ht5 := Lib.hid (Ht4.out.alloc (Obj.cells #[Value.bool x.neg, Value.string { data := x.digits.toArray }, Value.int IntKind.i64 x.exp] 23))
  have hbel5 := hbel4.alloc hbel4.size (Obj.cells #[Value.bool x.neg, Value.string { data := x.digits.toArray }, Value.int IntKind.i64 x.exp] 23)
  clear H4 Ht4 hbel4
  clear Hr
  have kd0 : (w4.alloc (Obj.cells #[Value.bool x.neg, Value.string { data := x.digits.toArray }, Value.int IntKind.i64 x.exp] 23)).cell? ⟨w.heap.size, 0, none⟩ = some (.bool d.neg) := (H5.out (w.heap.size, d) (by simp)).c0
  have kd1 : (w4.alloc (Obj.cells #[Value.bool x.neg, Value.string { data := x.digits.toArray }, Value.int IntKind.i64 x.exp] 23)).cell? ⟨w.heap.size, 1, none⟩ = some (.string ⟨d.digits.toArray⟩) := (H5.out (w.heap.size, d) (by simp)).c1
  have kd2 : (w4.alloc (Obj.cells #[Value.bool x.neg, Value.string { data := x.digits.toArray }, Value.int IntKind.i64 x.exp] 23)).cell? ⟨w.heap.size, 2, none⟩ = some (.int .i64 d.exp) := (H5.out (w.heap.size, d) (by simp)).c2
  go_wp2_with fail
  refine (text_calls _ d (by omega) Ht5.out).mono ?_
  rintro e w6 ⟨rfl, hb6⟩
  have hc6 := hb6
  have H6 := Lib.hid (H5.out.under hc6)
  have Ht6 := Lib.hid (Ht5.out.below hc6)
  have hbel6 := hbel5.trans (hc6.mono hbel5.size)
  clear hb6 hc6 H5 Ht5 hbel5 kd0 kd1 kd2
  have kx0 : w6.cell? ⟨w2.heap.size, 0, none⟩ = some (.bool x.neg) := (H6.out (w2.heap.size, x) (by simp)).c0
  have kx1 : w6.cell? ⟨w2.heap.size, 1, none⟩ = some (.string ⟨x.digits.toArray⟩) := (H6.out (w2.heap.size, x) (by simp)).c1
  have kx2 : w6.cell? ⟨w2.heap.size, 2, none⟩ = some (.int .i64 x.exp) := (H6.out (w2.heap.size, x) (by simp)).c2
  have ky0 : w6.cell? ⟨w4.heap.size, 0, none⟩ = some (.bool x.neg) := (H6.out (w4.heap.size, x) (by simp)).c0
  have ky1 : w6.cell? ⟨w4.heap.size, 1, none⟩ = some (.string ⟨x.digits.toArray⟩) := (H6.out (w4.heap.size, x) (by simp)).c1
  have ky2 : w6.cell? ⟨w4.heap.size, 2, none⟩ = some (.int .i64 x.exp) := (H6.out (w4.heap.size, x) (by simp)).c2
  have kd0 : w6.cell? ⟨w.heap.size, 0, none⟩ = some (.bool d.neg) := (H6.out (w.heap.size, d) (by simp)).c0
  have kd1 : w6.cell? ⟨w.heap.size, 1, none⟩ = some (.string ⟨d.digits.toArray⟩) := (H6.out (w.heap.size, d) (by simp)).c1
  have kd2 : w6.cell? ⟨w.heap.size, 2, none⟩ = some (.int .i64 d.exp) := (H6.out (w.heap.size, d) (by simp)).c2
  cases hm : mayB d with
  | false =>
    have hts : textS d = ([], 2) := by simp [textS, hm]
    rw [hts]
    have hk : chk d = 2 := by simp [chk, hm]
    have Hk := Lib.hid hk
    have Hm := Lib.hid hm
    clear hts hk hm
    dsimp only
    go_wp2_with (go_at_call 13; refine (num_calls _ _).mono ?_; rintro e w88 ⟨rfl, rfl⟩)
    refine (mayR_calls _ d (by omega)).mono ?_
    rintro e w7 ⟨rfl, hb7⟩
    have hc7 := hb7
    have H7 := Lib.hid (H6.out.under hc7)
    have Ht7 := Lib.hid (Ht6.out.below hc7)
    have hbel7 := hbel6.trans (hc7.mono hbel6.size)
    clear hb7 hc7 H6 Ht6 hbel6 kx0 kx1 kx2 ky0 ky1 ky2 kd0 kd1 kd2
    rw [Hm.out]
    have kd0 : w7.cell? ⟨w.heap.size, 0, none⟩ = some (.bool d.neg) := (H7.out (w.heap.size, d) (by simp)).c0
    have kd1 : w7.cell? ⟨w.heap.size, 1, none⟩ = some (.string ⟨d.digits.toArray⟩) := (H7.out (w.heap.size, d) (by simp)).c1
    have kd2 : w7.cell? ⟨w.heap.size, 2, none⟩ = some (.int .i64 d.exp) := (H7.out (w.heap.size, d) (by simp)).c2
    go_wp2_with fail
    refine (check_calls _ d (by omega)).mono ?_
    rintro e w8 ⟨rfl, hb8⟩
    have hc8 := hb8
    have H8 := Lib.hid (H7.out.under hc8)
    have Ht8 := Lib.hid (Ht7.out.below hc8)
    have hbel8 := hbel7.trans (hc8.mono hbel7.size)
    clear hb8 hc8 H7 Ht7 hbel7 kd0 kd1 kd2
    rw [Hk.out]
    go_wp2_with (go_at_call 13; refine (num_calls _ _).mono ?_; rintro e w88 ⟨rfl, rfl⟩)
    refine (works_calls _ Ht8.out).mono ?_
    rintro e wz ⟨rfl, hbz⟩
    have hbf := hbel8.trans (hbz.mono hbel8.size)
    clear hbz H8 Ht8 hbel8 
    go_wp2_with fail
    go_ret
    exact ⟨rfl, hbf⟩
  | true =>
    have hts : textS d = (textT d, 0) := by simp [textS, hm]
    rw [hts]
    have hk : chk d = 0 := by simp [chk, hm]
    have Hk := Lib.hid hk
    have Hm := Lib.hid hm
    clear hts hk hm
    dsimp only
    go_wp2_with (go_at_call 13; refine (num_calls _ _).mono ?_; rintro e w88 ⟨rfl, rfl⟩)
    refine (mayR_calls _ d (by omega)).mono ?_
    rintro e w7 ⟨rfl, hb7⟩
    have hc7 := hb7
    have H7 := Lib.hid (H6.out.under hc7)
    have Ht7 := Lib.hid (Ht6.out.below hc7)
    have hbel7 := hbel6.trans (hc7.mono hbel6.size)
    clear hb7 hc7 H6 Ht6 hbel6 kx0 kx1 kx2 ky0 ky1 ky2 kd0 kd1 kd2
    rw [Hm.out]
    have kd0 : w7.cell? ⟨w.heap.size, 0, none⟩ = some (.bool d.neg) := (H7.out (w.heap.size, d) (by simp)).c0
    have kd1 : w7.cell? ⟨w.heap.size, 1, none⟩ = some (.string ⟨d.digits.toArray⟩) := (H7.out (w.heap.size, d) (by simp)).c1
    have kd2 : w7.cell? ⟨w.heap.size, 2, none⟩ = some (.int .i64 d.exp) := (H7.out (w.heap.size, d) (by simp)).c2
    go_wp2_with fail
    refine (check_calls _ d (by omega)).mono ?_
    rintro e w8 ⟨rfl, hb8⟩
    have hc8 := hb8
    have H8 := Lib.hid (H7.out.under hc8)
    have Ht8 := Lib.hid (Ht7.out.below hc8)
    have hbel8 := hbel7.trans (hc8.mono hbel7.size)
    clear hb8 hc8 H7 Ht7 hbel7 kd0 kd1 kd2
    rw [Hk.out]
    have kd0 : w8.cell? ⟨w.heap.size, 0, none⟩ = some (.bool d.neg) := (H8.out (w.heap.size, d) (by simp)).c0
    have kd1 : w8.cell? ⟨w.heap.size, 1, none⟩ = some (.string ⟨d.digits.toArray⟩) := (H8.out (w.heap.size, d) (by simp)).c1
    have kd2 : w8.cell? ⟨w.heap.size, 2, none⟩ = some (.int .i64 d.exp) := (H8.out (w.heap.size, d) (by simp)).c2
    go_wp2_with (go_at_call 13; refine (num_calls _ _).mono ?_; rintro e w88 ⟨rfl, rfl⟩)
    refine (textR_calls _ d Hm.out Ht8.out).mono ?_
    rintro e w9 ⟨rfl, hb9⟩
    have hc9 := hb9
    have H9 := Lib.hid (H8.out.under hc9)
    have Ht9 := Lib.hid (Ht8.out.below hc9)
    have hbel9 := hbel8.trans (hc9.mono hbel8.size)
    clear hb9 hc9 H8 Ht8 hbel8 kd0 kd1 kd2
    generalize textT d = tt at *
    go_wp2_with (go_at_call 13; refine (num_calls _ _).mono ?_; rintro e w88 ⟨rfl, rfl⟩)
    refine (works_calls _ Ht9.out).mono ?_
    rintro e wz ⟨rfl, hbz⟩
    have hbf := hbel9.trans (hbz.mono hbel9.size)
    clear hbz H9 Ht9 hbel9 
    go_wp2_with fail
    go_ret
    exact ⟨rfl, hbf⟩
theorem texts_calls (w : World) (l : List UInt8) (d : Dec) (hl : l.length ≤ maxLen) (hd : d.digits.length ≤ maxLen) (ht : Tab w) :
    Calls Tryd.prog 3 #[.string ⟨l.toArray⟩, .agg #[.bool d.neg, .string ⟨d.digits.toArray⟩, .int .i64 d.exp]] w fun e w' => e = .returned (.bool true) ∧ Below w.heap.size w w' := by
  by_cases h : 3000 < l.length ∨ 1000 < d.digits.length
  · exact texts_long w l d hl hd ht h
  · exact texts_short w l d (by omega) (by omega) ht
end Go.Proofs.YtkakmjdfecbhaaaDoor
