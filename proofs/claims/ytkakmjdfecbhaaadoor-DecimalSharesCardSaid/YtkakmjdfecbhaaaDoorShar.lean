/- The walk of DecimalShares: it returns true, at any three decimals, over any world with the library's table of powers of ten. Printed by gen_law.py. -/
import Derived.Test.YtkakmjdfecbhaaaDoorDec10
import Derived.Test.YtkakmjdfecbhaaaDoorLaw2
import Derived.Test.YtkakmjdfecbhaaaDoorPla5
namespace Go.Proofs.YtkakmjdfecbhaaaDoor
open Go.RowKit

set_option maxHeartbeats 8000000 in
set_option maxRecDepth 100000 in
theorem shares_calls (w : World) (x a b : Dec) (hlx : x.digits.length ≤ maxLen) (hla : a.digits.length ≤ maxLen) (hlb : b.digits.length ≤ maxLen) (ht : Tab w) :
    Calls Tryd.prog 7 #[.agg #[.bool x.neg, .string ⟨x.digits.toArray⟩, .int .i64 x.exp], .agg #[.bool a.neg, .string ⟨a.digits.toArray⟩, .int .i64 a.exp], .agg #[.bool b.neg, .string ⟨b.digits.toArray⟩, .int .i64 b.exp]] w fun e w' => e = .returned (.bool true) ∧ Below w.heap.size w w' := by
  have h1 := all3 w x a b
  have hb3 := below3 w x a b
  have hsz := size3 w x a b
  have hr := DecsRaw.three (((w.alloc (Obj.cells #[Value.bool x.neg, Value.string { data := x.digits.toArray }, Value.int IntKind.i64 x.exp] 23)).alloc (Obj.cells #[Value.bool a.neg, Value.string { data := a.digits.toArray }, Value.int IntKind.i64 a.exp] 23)).alloc (Obj.cells #[Value.bool b.neg, Value.string { data := b.digits.toArray }, Value.int IntKind.i64 b.exp] 23)) x a b hlx hla hlb
  rw [hsz] at hr
  have H0 := Lib.hid h1
  have Ht0 := Lib.hid (ht.below hb3)
  have Hr := Lib.hid hr
  have Hsz := Lib.hid hsz
  clear h1 hr hsz ht
  go_enter Tryd.func7, Tryd.ntmps7
  go_wp2_with fail
  have hr := Hr.out
  clear Hr Hsz
  generalize (((w.alloc (Obj.cells #[Value.bool x.neg, Value.string { data := x.digits.toArray }, Value.int IntKind.i64 x.exp] 23)).alloc (Obj.cells #[Value.bool a.neg, Value.string { data := a.digits.toArray }, Value.int IntKind.i64 a.exp] 23)).alloc (Obj.cells #[Value.bool b.neg, Value.string { data := b.digits.toArray }, Value.int IntKind.i64 b.exp] 23)) = w1 at *
  refine (long_calls _ _ [x, a, b] hr).mono ?_
  rintro e w2 ⟨rfl, rfl⟩
  have hc2 : Below w1.heap.size w1 (w1.alloc (Obj.cells #[Value.bool x.neg, Value.string { data := x.digits.toArray }, Value.int IntKind.i64 x.exp, Value.bool a.neg, Value.string { data := a.digits.toArray }, Value.int IntKind.i64 a.exp, Value.bool b.neg, Value.string { data := b.digits.toArray }, Value.int IntKind.i64 b.exp] 23)) := (Below.refl _ _).alloc (Nat.le_refl _) _
  have H1 := Lib.hid (H0.out.under hc2)
  have Ht1 := Lib.hid (Ht0.out.below hc2)
  have hbel1 := hb3.trans (hc2.mono hb3.size)
  clear hc2 H0 Ht0 hb3 hr
  generalize (w1.alloc (Obj.cells #[Value.bool x.neg, Value.string { data := x.digits.toArray }, Value.int IntKind.i64 x.exp, Value.bool a.neg, Value.string { data := a.digits.toArray }, Value.int IntKind.i64 a.exp, Value.bool b.neg, Value.string { data := b.digits.toArray }, Value.int IntKind.i64 b.exp] 23)) = w2 at *
  cases hL : longB [x, a, b] with
  | true =>
    clear hL
    go_wp2_with fail
    refine (works_calls _ Ht1.out).mono ?_
    rintro e wz ⟨rfl, hbz⟩
    have hbf := hbel1.trans (hbz.mono hbel1.size)
    clear hbz H1 Ht1 hbel1 
    go_wp2_with fail
    go_ret
    exact ⟨rfl, hbf⟩
  | false =>
    obtain ⟨lx, la, lb⟩ := longB_three hL
    clear hL hlx hla hlb
    have ka0 : w2.cell? ⟨w.heap.size + 1, 0, none⟩ = some (.bool a.neg) := (H1.out (w.heap.size + 1, a) (by simp)).c0
    have ka1 : w2.cell? ⟨w.heap.size + 1, 1, none⟩ = some (.string ⟨a.digits.toArray⟩) := (H1.out (w.heap.size + 1, a) (by simp)).c1
    have ka2 : w2.cell? ⟨w.heap.size + 1, 2, none⟩ = some (.int .i64 a.exp) := (H1.out (w.heap.size + 1, a) (by simp)).c2
    have kb0 : w2.cell? ⟨w.heap.size + 1 + 1, 0, none⟩ = some (.bool b.neg) := (H1.out (w.heap.size + 1 + 1, b) (by simp)).c0
    have kb1 : w2.cell? ⟨w.heap.size + 1 + 1, 1, none⟩ = some (.string ⟨b.digits.toArray⟩) := (H1.out (w.heap.size + 1 + 1, b) (by simp)).c1
    have kb2 : w2.cell? ⟨w.heap.size + 1 + 1, 2, none⟩ = some (.int .i64 b.exp) := (H1.out (w.heap.size + 1 + 1, b) (by simp)).c2
    go_wp2_with fail
    refine (commond_calls _ a b (by omega) (by omega)).mono ?_
    rintro e w2 ⟨rfl, hb2⟩
    have hc2 := hb2
    have H2 := Lib.hid (H1.out.under hc2)
    have Ht2 := Lib.hid (Ht1.out.below hc2)
    have hbel2 := hbel1.trans (hc2.mono hbel1.size)
    clear hb2 hc2 H1 Ht1 hbel1 ka0 ka1 ka2 kb0 kb1 kb2
    simp only [DecV]
    have Hc : Hid ((commonS a b).2 = 0 → (posB (commonS a b).1 = true ∧ commonS b a = ((commonS a b).1, 0) ∧ multipleS (commonS a b).1 a = (true, 0) ∧ multipleS (commonS a b).1 b = (true, 0) ∧ (mayB x = true → ∃ p q, multipleS x a = (p, 0) ∧ multipleS x b = (q, 0) ∧ multipleS x (commonS a b).1 = (p && q, 0) ∧ (0 ≤ x.exp → (mulS x (commonS a b).1).2 = 0 → multipleS (mulS x (commonS a b).1).1 a = (true, 0))))) := shares_all x a b
    have Hlc : Hid ((commonS a b).1.digits.length ≤ 1000) := common_len a b
    generalize commonS a b = q at *
    obtain ⟨c, ec⟩ := q
    simp only at *
    have H3 := Lib.hid ((H2.out.alloc (Obj.cells #[Value.bool c.neg, Value.string { data := c.digits.toArray }, Value.int IntKind.i64 c.exp] 23)).push (DecAt.at w2 c _ rfl))
    have Ht3 := Lib.hid (Ht2.out.alloc (Obj.cells #[Value.bool c.neg, Value.string { data := c.digits.toArray }, Value.int IntKind.i64 c.exp] 23))
    have hbel3 := hbel2.alloc hbel2.size (Obj.cells #[Value.bool c.neg, Value.string { data := c.digits.toArray }, Value.int IntKind.i64 c.exp] 23)
    clear H2 Ht2 hbel2
    by_cases hec : ec = 0
    · subst hec
      obtain ⟨hpc, hfl, hca, hcb, hx⟩ := Hc.out rfl
      have hlc := Hlc.out
      have Hfl := Lib.hid hfl
      have Hca := Lib.hid hca
      have Hcb := Lib.hid hcb
      have Hx := Lib.hid hx
      clear hpc hfl hca hcb hx Hc Hlc
      have ka0 : (w2.alloc (Obj.cells #[Value.bool c.neg, Value.string { data := c.digits.toArray }, Value.int IntKind.i64 c.exp] 23)).cell? ⟨w.heap.size + 1, 0, none⟩ = some (.bool a.neg) := (H3.out (w.heap.size + 1, a) (by simp)).c0
      have ka1 : (w2.alloc (Obj.cells #[Value.bool c.neg, Value.string { data := c.digits.toArray }, Value.int IntKind.i64 c.exp] 23)).cell? ⟨w.heap.size + 1, 1, none⟩ = some (.string ⟨a.digits.toArray⟩) := (H3.out (w.heap.size + 1, a) (by simp)).c1
      have ka2 : (w2.alloc (Obj.cells #[Value.bool c.neg, Value.string { data := c.digits.toArray }, Value.int IntKind.i64 c.exp] 23)).cell? ⟨w.heap.size + 1, 2, none⟩ = some (.int .i64 a.exp) := (H3.out (w.heap.size + 1, a) (by simp)).c2
      have kb0 : (w2.alloc (Obj.cells #[Value.bool c.neg, Value.string { data := c.digits.toArray }, Value.int IntKind.i64 c.exp] 23)).cell? ⟨w.heap.size + 1 + 1, 0, none⟩ = some (.bool b.neg) := (H3.out (w.heap.size + 1 + 1, b) (by simp)).c0
      have kb1 : (w2.alloc (Obj.cells #[Value.bool c.neg, Value.string { data := c.digits.toArray }, Value.int IntKind.i64 c.exp] 23)).cell? ⟨w.heap.size + 1 + 1, 1, none⟩ = some (.string ⟨b.digits.toArray⟩) := (H3.out (w.heap.size + 1 + 1, b) (by simp)).c1
      have kb2 : (w2.alloc (Obj.cells #[Value.bool c.neg, Value.string { data := c.digits.toArray }, Value.int IntKind.i64 c.exp] 23)).cell? ⟨w.heap.size + 1 + 1, 2, none⟩ = some (.int .i64 b.exp) := (H3.out (w.heap.size + 1 + 1, b) (by simp)).c2
      have kc0 : (w2.alloc (Obj.cells #[Value.bool c.neg, Value.string { data := c.digits.toArray }, Value.int IntKind.i64 c.exp] 23)).cell? ⟨w2.heap.size, 0, none⟩ = some (.bool c.neg) := (H3.out (w2.heap.size, c) (by simp)).c0
      have kc1 : (w2.alloc (Obj.cells #[Value.bool c.neg, Value.string { data := c.digits.toArray }, Value.int IntKind.i64 c.exp] 23)).cell? ⟨w2.heap.size, 1, none⟩ = some (.string ⟨c.digits.toArray⟩) := (H3.out (w2.heap.size, c) (by simp)).c1
      have kc2 : (w2.alloc (Obj.cells #[Value.bool c.neg, Value.string { data := c.digits.toArray }, Value.int IntKind.i64 c.exp] 23)).cell? ⟨w2.heap.size, 2, none⟩ = some (.int .i64 c.exp) := (H3.out (w2.heap.size, c) (by simp)).c2
      go_wp2_with (go_at_call 13; refine (num_calls _ _).mono ?_; rintro e w88 ⟨rfl, rfl⟩)
      refine (commond_calls _ b a (by omega) (by omega)).mono ?_
      rintro e w4 ⟨rfl, hb4⟩
      have hc4 := hb4
      have H4 := Lib.hid (H3.out.under hc4)
      have Ht4 := Lib.hid (Ht3.out.below hc4)
      have hbel4 := hbel3.trans (hc4.mono hbel3.size)
      clear hb4 hc4 H3 Ht3 hbel3 ka0 ka1 ka2 kb0 kb1 kb2 kc0 kc1 kc2
      rw [Hfl.out]
      simp only [DecV]
      have H5 := Lib.hid ((H4.out.alloc (Obj.cells #[Value.bool c.neg, Value.string { data := c.digits.toArray }, Value.int IntKind.i64 c.exp] 23)).push (DecAt.at w4 c _ rfl))
      have Ht5 := Lib.hid (Ht4.out.alloc (Obj.cells #[Value.bool c.neg, Value.string { data := c.digits.toArray }, Value.int IntKind.i64 c.exp] 23))
      have hbel5 := hbel4.alloc hbel4.size (Obj.cells #[Value.bool c.neg, Value.string { data := c.digits.toArray }, Value.int IntKind.i64 c.exp] 23)
      clear H4 Ht4 hbel4
      have ka0 : (w4.alloc (Obj.cells #[Value.bool c.neg, Value.string { data := c.digits.toArray }, Value.int IntKind.i64 c.exp] 23)).cell? ⟨w.heap.size + 1, 0, none⟩ = some (.bool a.neg) := (H5.out (w.heap.size + 1, a) (by simp)).c0
      have ka1 : (w4.alloc (Obj.cells #[Value.bool c.neg, Value.string { data := c.digits.toArray }, Value.int IntKind.i64 c.exp] 23)).cell? ⟨w.heap.size + 1, 1, none⟩ = some (.string ⟨a.digits.toArray⟩) := (H5.out (w.heap.size + 1, a) (by simp)).c1
      have ka2 : (w4.alloc (Obj.cells #[Value.bool c.neg, Value.string { data := c.digits.toArray }, Value.int IntKind.i64 c.exp] 23)).cell? ⟨w.heap.size + 1, 2, none⟩ = some (.int .i64 a.exp) := (H5.out (w.heap.size + 1, a) (by simp)).c2
      have kb0 : (w4.alloc (Obj.cells #[Value.bool c.neg, Value.string { data := c.digits.toArray }, Value.int IntKind.i64 c.exp] 23)).cell? ⟨w.heap.size + 1 + 1, 0, none⟩ = some (.bool b.neg) := (H5.out (w.heap.size + 1 + 1, b) (by simp)).c0
      have kb1 : (w4.alloc (Obj.cells #[Value.bool c.neg, Value.string { data := c.digits.toArray }, Value.int IntKind.i64 c.exp] 23)).cell? ⟨w.heap.size + 1 + 1, 1, none⟩ = some (.string ⟨b.digits.toArray⟩) := (H5.out (w.heap.size + 1 + 1, b) (by simp)).c1
      have kb2 : (w4.alloc (Obj.cells #[Value.bool c.neg, Value.string { data := c.digits.toArray }, Value.int IntKind.i64 c.exp] 23)).cell? ⟨w.heap.size + 1 + 1, 2, none⟩ = some (.int .i64 b.exp) := (H5.out (w.heap.size + 1 + 1, b) (by simp)).c2
      have kc0 : (w4.alloc (Obj.cells #[Value.bool c.neg, Value.string { data := c.digits.toArray }, Value.int IntKind.i64 c.exp] 23)).cell? ⟨w2.heap.size, 0, none⟩ = some (.bool c.neg) := (H5.out (w2.heap.size, c) (by simp)).c0
      have kc1 : (w4.alloc (Obj.cells #[Value.bool c.neg, Value.string { data := c.digits.toArray }, Value.int IntKind.i64 c.exp] 23)).cell? ⟨w2.heap.size, 1, none⟩ = some (.string ⟨c.digits.toArray⟩) := (H5.out (w2.heap.size, c) (by simp)).c1
      have kc2 : (w4.alloc (Obj.cells #[Value.bool c.neg, Value.string { data := c.digits.toArray }, Value.int IntKind.i64 c.exp] 23)).cell? ⟨w2.heap.size, 2, none⟩ = some (.int .i64 c.exp) := (H5.out (w2.heap.size, c) (by simp)).c2
      go_wp2_with fail
      refine (multiple_calls _ c a (by omega) (by omega)).mono ?_
      rintro e w6 ⟨rfl, hb6⟩
      have hc6 := hb6
      have H6 := Lib.hid (H5.out.under hc6)
      have Ht6 := Lib.hid (Ht5.out.below hc6)
      have hbel6 := hbel5.trans (hc6.mono hbel5.size)
      clear hb6 hc6 H5 Ht5 hbel5 ka0 ka1 ka2 kb0 kb1 kb2 kc0 kc1 kc2
      rw [Hca.out]
      have kb0 : w6.cell? ⟨w.heap.size + 1 + 1, 0, none⟩ = some (.bool b.neg) := (H6.out (w.heap.size + 1 + 1, b) (by simp)).c0
      have kb1 : w6.cell? ⟨w.heap.size + 1 + 1, 1, none⟩ = some (.string ⟨b.digits.toArray⟩) := (H6.out (w.heap.size + 1 + 1, b) (by simp)).c1
      have kb2 : w6.cell? ⟨w.heap.size + 1 + 1, 2, none⟩ = some (.int .i64 b.exp) := (H6.out (w.heap.size + 1 + 1, b) (by simp)).c2
      have kc0 : w6.cell? ⟨w2.heap.size, 0, none⟩ = some (.bool c.neg) := (H6.out (w2.heap.size, c) (by simp)).c0
      have kc1 : w6.cell? ⟨w2.heap.size, 1, none⟩ = some (.string ⟨c.digits.toArray⟩) := (H6.out (w2.heap.size, c) (by simp)).c1
      have kc2 : w6.cell? ⟨w2.heap.size, 2, none⟩ = some (.int .i64 c.exp) := (H6.out (w2.heap.size, c) (by simp)).c2
      go_wp2_with fail
      refine (multiple_calls _ c b (by omega) (by omega)).mono ?_
      rintro e w7 ⟨rfl, hb7⟩
      have hc7 := hb7
      have H7 := Lib.hid (H6.out.under hc7)
      have Ht7 := Lib.hid (Ht6.out.below hc7)
      have hbel7 := hbel6.trans (hc7.mono hbel6.size)
      clear hb7 hc7 H6 Ht6 hbel6 kb0 kb1 kb2 kc0 kc1 kc2
      rw [Hcb.out]
      have kx0 : w7.cell? ⟨w.heap.size, 0, none⟩ = some (.bool x.neg) := (H7.out (w.heap.size, x) (by simp)).c0
      have kx1 : w7.cell? ⟨w.heap.size, 1, none⟩ = some (.string ⟨x.digits.toArray⟩) := (H7.out (w.heap.size, x) (by simp)).c1
      have kx2 : w7.cell? ⟨w.heap.size, 2, none⟩ = some (.int .i64 x.exp) := (H7.out (w.heap.size, x) (by simp)).c2
      have kc0 : w7.cell? ⟨w2.heap.size, 0, none⟩ = some (.bool c.neg) := (H7.out (w2.heap.size, c) (by simp)).c0
      have kc1 : w7.cell? ⟨w2.heap.size, 1, none⟩ = some (.string ⟨c.digits.toArray⟩) := (H7.out (w2.heap.size, c) (by simp)).c1
      have kc2 : w7.cell? ⟨w2.heap.size, 2, none⟩ = some (.int .i64 c.exp) := (H7.out (w2.heap.size, c) (by simp)).c2
      have kd0 : w7.cell? ⟨w4.heap.size, 0, none⟩ = some (.bool c.neg) := (H7.out (w4.heap.size, c) (by simp)).c0
      have kd1 : w7.cell? ⟨w4.heap.size, 1, none⟩ = some (.string ⟨c.digits.toArray⟩) := (H7.out (w4.heap.size, c) (by simp)).c1
      have kd2 : w7.cell? ⟨w4.heap.size, 2, none⟩ = some (.int .i64 c.exp) := (H7.out (w4.heap.size, c) (by simp)).c2
      go_wp2_with (go_at_call 13; refine (num_calls _ _).mono ?_; rintro e w88 ⟨rfl, rfl⟩)
      refine (check_calls _ x (by omega)).mono ?_
      rintro e w8 ⟨rfl, hb8⟩
      have hc8 := hb8
      have H8 := Lib.hid (H7.out.under hc8)
      have Ht8 := Lib.hid (Ht7.out.below hc8)
      have hbel8 := hbel7.trans (hc8.mono hbel7.size)
      clear hb8 hc8 H7 Ht7 hbel7 kx0 kx1 kx2 kc0 kc1 kc2 kd0 kd1 kd2
      cases hm : mayB x with
      | false =>
        have hk : chk x = 2 := by simp [chk, hm]
        rw [hk]
        clear hk hm
        have kc0 : w8.cell? ⟨w2.heap.size, 0, none⟩ = some (.bool c.neg) := (H8.out (w2.heap.size, c) (by simp)).c0
        have kc1 : w8.cell? ⟨w2.heap.size, 1, none⟩ = some (.string ⟨c.digits.toArray⟩) := (H8.out (w2.heap.size, c) (by simp)).c1
        have kc2 : w8.cell? ⟨w2.heap.size, 2, none⟩ = some (.int .i64 c.exp) := (H8.out (w2.heap.size, c) (by simp)).c2
        have kd0 : w8.cell? ⟨w4.heap.size, 0, none⟩ = some (.bool c.neg) := (H8.out (w4.heap.size, c) (by simp)).c0
        have kd1 : w8.cell? ⟨w4.heap.size, 1, none⟩ = some (.string ⟨c.digits.toArray⟩) := (H8.out (w4.heap.size, c) (by simp)).c1
        have kd2 : w8.cell? ⟨w4.heap.size, 2, none⟩ = some (.int .i64 c.exp) := (H8.out (w4.heap.size, c) (by simp)).c2
        go_wp2_with (go_at_call 13; refine (num_calls _ _).mono ?_; rintro e w88 ⟨rfl, rfl⟩)
        refine (works_calls _ Ht8.out).mono ?_
        rintro e wz ⟨rfl, hbz⟩
        have hbf := hbel8.trans (hbz.mono hbel8.size)
        clear hbz H8 Ht8 hbel8 kc0 kc1 kc2 kd0 kd1 kd2
        go_wp2_with fail
        go_ret
        exact ⟨rfl, hbf⟩
      | true =>
        have hk : chk x = 0 := by simp [chk, hm]
        obtain ⟨p, q, hp, hq, hr, hz⟩ := Hx.out hm
        have Hp := Lib.hid hp
        have Hq := Lib.hid hq
        have Hr := Lib.hid hr
        have Hz := Lib.hid hz
        have Hm := Lib.hid hm
        rw [hk]
        clear hk hm hp hq hr hz Hx
        have kx0 : w8.cell? ⟨w.heap.size, 0, none⟩ = some (.bool x.neg) := (H8.out (w.heap.size, x) (by simp)).c0
        have kx1 : w8.cell? ⟨w.heap.size, 1, none⟩ = some (.string ⟨x.digits.toArray⟩) := (H8.out (w.heap.size, x) (by simp)).c1
        have kx2 : w8.cell? ⟨w.heap.size, 2, none⟩ = some (.int .i64 x.exp) := (H8.out (w.heap.size, x) (by simp)).c2
        have ka0 : w8.cell? ⟨w.heap.size + 1, 0, none⟩ = some (.bool a.neg) := (H8.out (w.heap.size + 1, a) (by simp)).c0
        have ka1 : w8.cell? ⟨w.heap.size + 1, 1, none⟩ = some (.string ⟨a.digits.toArray⟩) := (H8.out (w.heap.size + 1, a) (by simp)).c1
        have ka2 : w8.cell? ⟨w.heap.size + 1, 2, none⟩ = some (.int .i64 a.exp) := (H8.out (w.heap.size + 1, a) (by simp)).c2
        go_wp2_with (go_at_call 13; refine (num_calls _ _).mono ?_; rintro e w88 ⟨rfl, rfl⟩)
        refine (multiple_calls _ x a (by omega) (by omega)).mono ?_
        rintro e w9 ⟨rfl, hb9⟩
        have hc9 := hb9
        have H9 := Lib.hid (H8.out.under hc9)
        have Ht9 := Lib.hid (Ht8.out.below hc9)
        have hbel9 := hbel8.trans (hc9.mono hbel8.size)
        clear hb9 hc9 H8 Ht8 hbel8 kx0 kx1 kx2 ka0 ka1 ka2
        rw [Hp.out]
        have kx0 : w9.cell? ⟨w.heap.size, 0, none⟩ = some (.bool x.neg) := (H9.out (w.heap.size, x) (by simp)).c0
        have kx1 : w9.cell? ⟨w.heap.size, 1, none⟩ = some (.string ⟨x.digits.toArray⟩) := (H9.out (w.heap.size, x) (by simp)).c1
        have kx2 : w9.cell? ⟨w.heap.size, 2, none⟩ = some (.int .i64 x.exp) := (H9.out (w.heap.size, x) (by simp)).c2
        have kb0 : w9.cell? ⟨w.heap.size + 1 + 1, 0, none⟩ = some (.bool b.neg) := (H9.out (w.heap.size + 1 + 1, b) (by simp)).c0
        have kb1 : w9.cell? ⟨w.heap.size + 1 + 1, 1, none⟩ = some (.string ⟨b.digits.toArray⟩) := (H9.out (w.heap.size + 1 + 1, b) (by simp)).c1
        have kb2 : w9.cell? ⟨w.heap.size + 1 + 1, 2, none⟩ = some (.int .i64 b.exp) := (H9.out (w.heap.size + 1 + 1, b) (by simp)).c2
        go_wp2_with fail
        refine (multiple_calls _ x b (by omega) (by omega)).mono ?_
        rintro e w10 ⟨rfl, hb10⟩
        have hc10 := hb10
        have H10 := Lib.hid (H9.out.under hc10)
        have Ht10 := Lib.hid (Ht9.out.below hc10)
        have hbel10 := hbel9.trans (hc10.mono hbel9.size)
        clear hb10 hc10 H9 Ht9 hbel9 kx0 kx1 kx2 kb0 kb1 kb2
        rw [Hq.out]
        have kx0 : w10.cell? ⟨w.heap.size, 0, none⟩ = some (.bool x.neg) := (H10.out (w.heap.size, x) (by simp)).c0
        have kx1 : w10.cell? ⟨w.heap.size, 1, none⟩ = some (.string ⟨x.digits.toArray⟩) := (H10.out (w.heap.size, x) (by simp)).c1
        have kx2 : w10.cell? ⟨w.heap.size, 2, none⟩ = some (.int .i64 x.exp) := (H10.out (w.heap.size, x) (by simp)).c2
        have kc0 : w10.cell? ⟨w2.heap.size, 0, none⟩ = some (.bool c.neg) := (H10.out (w2.heap.size, c) (by simp)).c0
        have kc1 : w10.cell? ⟨w2.heap.size, 1, none⟩ = some (.string ⟨c.digits.toArray⟩) := (H10.out (w2.heap.size, c) (by simp)).c1
        have kc2 : w10.cell? ⟨w2.heap.size, 2, none⟩ = some (.int .i64 c.exp) := (H10.out (w2.heap.size, c) (by simp)).c2
        go_wp2_with fail
        refine (multiple_calls _ x c (by omega) (by omega)).mono ?_
        rintro e w11 ⟨rfl, hb11⟩
        have hc11 := hb11
        have H11 := Lib.hid (H10.out.under hc11)
        have Ht11 := Lib.hid (Ht10.out.below hc11)
        have hbel11 := hbel10.trans (hc11.mono hbel10.size)
        clear hb11 hc11 H10 Ht10 hbel10 kx0 kx1 kx2 kc0 kc1 kc2
        rw [Hr.out]
        have kx0 : w11.cell? ⟨w.heap.size, 0, none⟩ = some (.bool x.neg) := (H11.out (w.heap.size, x) (by simp)).c0
        have kx1 : w11.cell? ⟨w.heap.size, 1, none⟩ = some (.string ⟨x.digits.toArray⟩) := (H11.out (w.heap.size, x) (by simp)).c1
        have kx2 : w11.cell? ⟨w.heap.size, 2, none⟩ = some (.int .i64 x.exp) := (H11.out (w.heap.size, x) (by simp)).c2
        have kc0 : w11.cell? ⟨w2.heap.size, 0, none⟩ = some (.bool c.neg) := (H11.out (w2.heap.size, c) (by simp)).c0
        have kc1 : w11.cell? ⟨w2.heap.size, 1, none⟩ = some (.string ⟨c.digits.toArray⟩) := (H11.out (w2.heap.size, c) (by simp)).c1
        have kc2 : w11.cell? ⟨w2.heap.size, 2, none⟩ = some (.int .i64 c.exp) := (H11.out (w2.heap.size, c) (by simp)).c2
        have Hmul : Hid (∃ z l, mulS x c = (z, l) ∧ z.digits.length ≤ 1000 ∧ (l = 0 ∨ l ≠ 0)) := mul_some x c
        go_upto_region 16 with (go_at_call 13; refine (num_calls _ _).mono ?_; rintro e w88 ⟨rfl, rfl⟩)
        all_goals
          obtain ⟨z, l, hml, hzl, _⟩ := Hmul.out
          have Hml := Lib.hid hml
          have hz := Hz.out
          rw [hml] at hz
          have Hz2 := Lib.hid hz
          clear hml hz Hmul
          go_wp2_with fail
          refine (prod_calls _ x c (by omega) (by omega)).mono ?_
          rintro e w12 ⟨rfl, hb12⟩
          have hc12 := hb12
          have H12 := Lib.hid (H11.out.under hc12)
          have Ht12 := Lib.hid (Ht11.out.below hc12)
          have hbel12 := hbel11.trans (hc12.mono hbel11.size)
          clear hb12 hc12 H11 Ht11 hbel11 kx0 kx1 kx2 kc0 kc1 kc2
          rw [Hml.out]
          simp only [DecV]
          have H13 := Lib.hid ((H12.out.alloc (Obj.cells #[Value.bool z.neg, Value.string { data := z.digits.toArray }, Value.int IntKind.i64 z.exp] 23)).push (DecAt.at w12 z _ rfl))
          have Ht13 := Lib.hid (Ht12.out.alloc (Obj.cells #[Value.bool z.neg, Value.string { data := z.digits.toArray }, Value.int IntKind.i64 z.exp] 23))
          have hbel13 := hbel12.alloc hbel12.size (Obj.cells #[Value.bool z.neg, Value.string { data := z.digits.toArray }, Value.int IntKind.i64 z.exp] 23)
          clear H12 Ht12 hbel12
          by_cases hl : l = 0
          · subst hl
            have kx0 : (w12.alloc (Obj.cells #[Value.bool z.neg, Value.string { data := z.digits.toArray }, Value.int IntKind.i64 z.exp] 23)).cell? ⟨w.heap.size, 0, none⟩ = some (.bool x.neg) := (H13.out (w.heap.size, x) (by simp)).c0
            have kx1 : (w12.alloc (Obj.cells #[Value.bool z.neg, Value.string { data := z.digits.toArray }, Value.int IntKind.i64 z.exp] 23)).cell? ⟨w.heap.size, 1, none⟩ = some (.string ⟨x.digits.toArray⟩) := (H13.out (w.heap.size, x) (by simp)).c1
            have kx2 : (w12.alloc (Obj.cells #[Value.bool z.neg, Value.string { data := z.digits.toArray }, Value.int IntKind.i64 z.exp] 23)).cell? ⟨w.heap.size, 2, none⟩ = some (.int .i64 x.exp) := (H13.out (w.heap.size, x) (by simp)).c2
            go_wp2_with (go_at_call 13; refine (num_calls _ _).mono ?_; rintro e w88 ⟨rfl, rfl⟩)
            refine (whole_calls _ x (by omega)).mono ?_
            rintro e w14 ⟨rfl, hb14⟩
            have hc14 := hb14
            have H14 := Lib.hid (H13.out.under hc14)
            have Ht14 := Lib.hid (Ht13.out.below hc14)
            have hbel14 := hbel13.trans (hc14.mono hbel13.size)
            clear hb14 hc14 H13 Ht13 hbel13 kx0 kx1 kx2
            rw [Hm.out]
            by_cases hw : 0 ≤ x.exp
            · have hwt : (true && decide (0 ≤ x.exp)) = true := by simp [hw]
              have hzt := Hz2.out hw (by first | trivial | rfl)
              have Hzt := Lib.hid hzt
              rw [hwt]
              clear hzt hwt Hz2 Hz hw
              have kz0 : w14.cell? ⟨w12.heap.size, 0, none⟩ = some (.bool z.neg) := (H14.out (w12.heap.size, z) (by simp)).c0
              have kz1 : w14.cell? ⟨w12.heap.size, 1, none⟩ = some (.string ⟨z.digits.toArray⟩) := (H14.out (w12.heap.size, z) (by simp)).c1
              have kz2 : w14.cell? ⟨w12.heap.size, 2, none⟩ = some (.int .i64 z.exp) := (H14.out (w12.heap.size, z) (by simp)).c2
              have ka0 : w14.cell? ⟨w.heap.size + 1, 0, none⟩ = some (.bool a.neg) := (H14.out (w.heap.size + 1, a) (by simp)).c0
              have ka1 : w14.cell? ⟨w.heap.size + 1, 1, none⟩ = some (.string ⟨a.digits.toArray⟩) := (H14.out (w.heap.size + 1, a) (by simp)).c1
              have ka2 : w14.cell? ⟨w.heap.size + 1, 2, none⟩ = some (.int .i64 a.exp) := (H14.out (w.heap.size + 1, a) (by simp)).c2
              go_wp2_with fail
              refine (multiple_calls _ z a (by omega) (by omega)).mono ?_
              rintro e w15 ⟨rfl, hb15⟩
              have hc15 := hb15
              have H15 := Lib.hid (H14.out.under hc15)
              have Ht15 := Lib.hid (Ht14.out.below hc15)
              have hbel15 := hbel14.trans (hc15.mono hbel14.size)
              clear hb15 hc15 H14 Ht14 hbel14 kz0 kz1 kz2 ka0 ka1 ka2
              rw [Hzt.out]
              go_wp2_with (go_at_call 13; refine (num_calls _ _).mono ?_; rintro e w88 ⟨rfl, rfl⟩)
              refine (works_calls _ Ht15.out).mono ?_
              rintro e wz ⟨rfl, hbz⟩
              have hbf := hbel15.trans (hbz.mono hbel15.size)
              clear hbz H15 Ht15 hbel15 
              go_wp2_with fail
              go_ret
              exact ⟨rfl, hbf⟩
            · have hwt : (true && decide (0 ≤ x.exp)) = false := by simp [hw]
              rw [hwt]
              clear hwt Hz2 Hz hw
              go_wp2_with fail
              refine (works_calls _ Ht14.out).mono ?_
              rintro e wz ⟨rfl, hbz⟩
              have hbf := hbel14.trans (hbz.mono hbel14.size)
              clear hbz H14 Ht14 hbel14 
              go_wp2_with fail
              go_ret
              exact ⟨rfl, hbf⟩
          · skip
            go_wp2_with (go_at_call 13; refine (num_calls _ _).mono ?_; rintro e w88 ⟨rfl, rfl⟩)
            refine (works_calls _ Ht13.out).mono ?_
            rintro e wz ⟨rfl, hbz⟩
            have hbf := hbel13.trans (hbz.mono hbel13.size)
            clear hbz H13 Ht13 hbel13 
            go_wp2_with fail
            go_ret
            exact ⟨rfl, hbf⟩
    · clear Hc Hlc
      go_wp2_with (go_at_call 13; refine (num_calls _ _).mono ?_; rintro e w88 ⟨rfl, rfl⟩)
      refine (works_calls _ Ht3.out).mono ?_
      rintro e wz ⟨rfl, hbz⟩
      have hbf := hbel3.trans (hbz.mono hbel3.size)
      clear hbz H3 Ht3 hbel3 
      go_wp2_with fail
      go_ret
      exact ⟨rfl, hbf⟩
end Go.Proofs.YtkakmjdfecbhaaaDoor
