/- The walks of times: they return true, at any three decimals, over any world with the library's table of powers of ten. Printed by gen_walk.py. -/
import Derived.Test.YtkakmjdfecbhaaaDoorDec10
import Derived.Test.YtkakmjdfecbhaaaDoorLaw2
import Derived.Test.YtkakmjdfecbhaaaDoorPla5
namespace Go.Proofs.YtkakmjdfecbhaaaDoor
open Go.RowKit

set_option maxHeartbeats 8000000 in
set_option maxRecDepth 100000 in
theorem times_calls (w : World) (a b c : Dec) (hla : a.digits.length ≤ 1000) (hlb : b.digits.length ≤ 1000) (hlc : c.digits.length ≤ 1000) (ht : Tab w) :
    Calls Tryd.prog 21 #[.agg #[.bool a.neg, .string ⟨a.digits.toArray⟩, .int .i64 a.exp], .agg #[.bool b.neg, .string ⟨b.digits.toArray⟩, .int .i64 b.exp], .agg #[.bool c.neg, .string ⟨c.digits.toArray⟩, .int .i64 c.exp]] w fun e w' => e = .returned (.bool true) ∧ Below w.heap.size w w' := by
  have h1 := all3 w a b c
  have hb3 := below3 w a b c
  have hsz := size3 w a b c
  have H0 := Lib.hid h1
  have Ht0 := Lib.hid (ht.below hb3)
  have Hsz := Lib.hid hsz
  clear h1 hsz ht
  go_enter Tryd.func21, Tryd.ntmps21
  have H1 := Lib.hid H0.out
  have Ht1 := Lib.hid Ht0.out
  have hbel1 := hb3
  clear H0 Ht0 hb3
  have ka0 : (((w.alloc (Obj.cells #[Value.bool a.neg, Value.string { data := a.digits.toArray }, Value.int IntKind.i64 a.exp] 23)).alloc (Obj.cells #[Value.bool b.neg, Value.string { data := b.digits.toArray }, Value.int IntKind.i64 b.exp] 23)).alloc (Obj.cells #[Value.bool c.neg, Value.string { data := c.digits.toArray }, Value.int IntKind.i64 c.exp] 23)).cell? ⟨w.heap.size, 0, none⟩ = some (.bool a.neg) := (H1.out (w.heap.size, a) (by simp)).c0
  have ka1 : (((w.alloc (Obj.cells #[Value.bool a.neg, Value.string { data := a.digits.toArray }, Value.int IntKind.i64 a.exp] 23)).alloc (Obj.cells #[Value.bool b.neg, Value.string { data := b.digits.toArray }, Value.int IntKind.i64 b.exp] 23)).alloc (Obj.cells #[Value.bool c.neg, Value.string { data := c.digits.toArray }, Value.int IntKind.i64 c.exp] 23)).cell? ⟨w.heap.size, 1, none⟩ = some (.string ⟨a.digits.toArray⟩) := (H1.out (w.heap.size, a) (by simp)).c1
  have ka2 : (((w.alloc (Obj.cells #[Value.bool a.neg, Value.string { data := a.digits.toArray }, Value.int IntKind.i64 a.exp] 23)).alloc (Obj.cells #[Value.bool b.neg, Value.string { data := b.digits.toArray }, Value.int IntKind.i64 b.exp] 23)).alloc (Obj.cells #[Value.bool c.neg, Value.string { data := c.digits.toArray }, Value.int IntKind.i64 c.exp] 23)).cell? ⟨w.heap.size, 2, none⟩ = some (.int .i64 a.exp) := (H1.out (w.heap.size, a) (by simp)).c2
  have kb0 : (((w.alloc (Obj.cells #[Value.bool a.neg, Value.string { data := a.digits.toArray }, Value.int IntKind.i64 a.exp] 23)).alloc (Obj.cells #[Value.bool b.neg, Value.string { data := b.digits.toArray }, Value.int IntKind.i64 b.exp] 23)).alloc (Obj.cells #[Value.bool c.neg, Value.string { data := c.digits.toArray }, Value.int IntKind.i64 c.exp] 23)).cell? ⟨w.heap.size + 1, 0, none⟩ = some (.bool b.neg) := (H1.out (w.heap.size + 1, b) (by simp)).c0
  have kb1 : (((w.alloc (Obj.cells #[Value.bool a.neg, Value.string { data := a.digits.toArray }, Value.int IntKind.i64 a.exp] 23)).alloc (Obj.cells #[Value.bool b.neg, Value.string { data := b.digits.toArray }, Value.int IntKind.i64 b.exp] 23)).alloc (Obj.cells #[Value.bool c.neg, Value.string { data := c.digits.toArray }, Value.int IntKind.i64 c.exp] 23)).cell? ⟨w.heap.size + 1, 1, none⟩ = some (.string ⟨b.digits.toArray⟩) := (H1.out (w.heap.size + 1, b) (by simp)).c1
  have kb2 : (((w.alloc (Obj.cells #[Value.bool a.neg, Value.string { data := a.digits.toArray }, Value.int IntKind.i64 a.exp] 23)).alloc (Obj.cells #[Value.bool b.neg, Value.string { data := b.digits.toArray }, Value.int IntKind.i64 b.exp] 23)).alloc (Obj.cells #[Value.bool c.neg, Value.string { data := c.digits.toArray }, Value.int IntKind.i64 c.exp] 23)).cell? ⟨w.heap.size + 1, 2, none⟩ = some (.int .i64 b.exp) := (H1.out (w.heap.size + 1, b) (by simp)).c2
  clear Hsz
  go_wp2_with fail
  refine (prod_calls _ a b (by omega) (by omega)).mono ?_
  rintro e w2 ⟨rfl, hb2⟩
  have hc2 := hb2
  have H2 := Lib.hid (H1.out.under hc2)
  have Ht2 := Lib.hid (Ht1.out.below hc2)
  have hbel2 := hbel1.trans (hc2.mono hbel1.size)
  clear hb2 hc2 H1 Ht1 hbel1 ka0 ka1 ka2 kb0 kb1 kb2
  simp only [DecV]
  have Hx : Hid (mulS b a = mulS a b ∧ ((mulS a b).2 = 0 → (mulS a c).2 = 0 → (sumS [b, c]).2 = 0 → mulS a (sumS [b, c]).1 = sumS [(mulS a b).1, (mulS a c).1])) := ⟨mul_flip b a, fun h1 h2 h3 => mul_sum (mul_not h1).1 (mul_not h1).2 (mul_not h2).2 h1 h2 h3⟩
  have hlp := mul_len a b
  generalize mulS a b = q at *
  obtain ⟨p, ep⟩ := q
  simp only at *
  have H3 := Lib.hid ((H2.out.alloc (Obj.cells #[Value.bool p.neg, Value.string { data := p.digits.toArray }, Value.int IntKind.i64 p.exp] 23)).push (DecAt.at w2 p _ rfl))
  have Ht3 := Lib.hid (Ht2.out.alloc (Obj.cells #[Value.bool p.neg, Value.string { data := p.digits.toArray }, Value.int IntKind.i64 p.exp] 23))
  have hbel3 := hbel2.alloc hbel2.size (Obj.cells #[Value.bool p.neg, Value.string { data := p.digits.toArray }, Value.int IntKind.i64 p.exp] 23)
  clear H2 Ht2 hbel2
  have ka0 : (w2.alloc (Obj.cells #[Value.bool p.neg, Value.string { data := p.digits.toArray }, Value.int IntKind.i64 p.exp] 23)).cell? ⟨w.heap.size, 0, none⟩ = some (.bool a.neg) := (H3.out (w.heap.size, a) (by simp)).c0
  have ka1 : (w2.alloc (Obj.cells #[Value.bool p.neg, Value.string { data := p.digits.toArray }, Value.int IntKind.i64 p.exp] 23)).cell? ⟨w.heap.size, 1, none⟩ = some (.string ⟨a.digits.toArray⟩) := (H3.out (w.heap.size, a) (by simp)).c1
  have ka2 : (w2.alloc (Obj.cells #[Value.bool p.neg, Value.string { data := p.digits.toArray }, Value.int IntKind.i64 p.exp] 23)).cell? ⟨w.heap.size, 2, none⟩ = some (.int .i64 a.exp) := (H3.out (w.heap.size, a) (by simp)).c2
  have kb0 : (w2.alloc (Obj.cells #[Value.bool p.neg, Value.string { data := p.digits.toArray }, Value.int IntKind.i64 p.exp] 23)).cell? ⟨w.heap.size + 1, 0, none⟩ = some (.bool b.neg) := (H3.out (w.heap.size + 1, b) (by simp)).c0
  have kb1 : (w2.alloc (Obj.cells #[Value.bool p.neg, Value.string { data := p.digits.toArray }, Value.int IntKind.i64 p.exp] 23)).cell? ⟨w.heap.size + 1, 1, none⟩ = some (.string ⟨b.digits.toArray⟩) := (H3.out (w.heap.size + 1, b) (by simp)).c1
  have kb2 : (w2.alloc (Obj.cells #[Value.bool p.neg, Value.string { data := p.digits.toArray }, Value.int IntKind.i64 p.exp] 23)).cell? ⟨w.heap.size + 1, 2, none⟩ = some (.int .i64 b.exp) := (H3.out (w.heap.size + 1, b) (by simp)).c2
  go_wp2_with fail
  refine (prod_calls _ b a (by omega) (by omega)).mono ?_
  rintro e w4 ⟨rfl, hb4⟩
  have hc4 := hb4
  have H4 := Lib.hid (H3.out.under hc4)
  have Ht4 := Lib.hid (Ht3.out.below hc4)
  have hbel4 := hbel3.trans (hc4.mono hbel3.size)
  clear hb4 hc4 H3 Ht3 hbel3 ka0 ka1 ka2 kb0 kb1 kb2
  rw [Hx.out.1]
  simp only [DecV]
  have H5 := Lib.hid ((H4.out.alloc (Obj.cells #[Value.bool p.neg, Value.string { data := p.digits.toArray }, Value.int IntKind.i64 p.exp] 23)).push (DecAt.at w4 p _ rfl))
  have Ht5 := Lib.hid (Ht4.out.alloc (Obj.cells #[Value.bool p.neg, Value.string { data := p.digits.toArray }, Value.int IntKind.i64 p.exp] 23))
  have hbel5 := hbel4.alloc hbel4.size (Obj.cells #[Value.bool p.neg, Value.string { data := p.digits.toArray }, Value.int IntKind.i64 p.exp] 23)
  clear H4 Ht4 hbel4
  have ka0 : (w4.alloc (Obj.cells #[Value.bool p.neg, Value.string { data := p.digits.toArray }, Value.int IntKind.i64 p.exp] 23)).cell? ⟨w.heap.size, 0, none⟩ = some (.bool a.neg) := (H5.out (w.heap.size, a) (by simp)).c0
  have ka1 : (w4.alloc (Obj.cells #[Value.bool p.neg, Value.string { data := p.digits.toArray }, Value.int IntKind.i64 p.exp] 23)).cell? ⟨w.heap.size, 1, none⟩ = some (.string ⟨a.digits.toArray⟩) := (H5.out (w.heap.size, a) (by simp)).c1
  have ka2 : (w4.alloc (Obj.cells #[Value.bool p.neg, Value.string { data := p.digits.toArray }, Value.int IntKind.i64 p.exp] 23)).cell? ⟨w.heap.size, 2, none⟩ = some (.int .i64 a.exp) := (H5.out (w.heap.size, a) (by simp)).c2
  have kc0 : (w4.alloc (Obj.cells #[Value.bool p.neg, Value.string { data := p.digits.toArray }, Value.int IntKind.i64 p.exp] 23)).cell? ⟨w.heap.size + 1 + 1, 0, none⟩ = some (.bool c.neg) := (H5.out (w.heap.size + 1 + 1, c) (by simp)).c0
  have kc1 : (w4.alloc (Obj.cells #[Value.bool p.neg, Value.string { data := p.digits.toArray }, Value.int IntKind.i64 p.exp] 23)).cell? ⟨w.heap.size + 1 + 1, 1, none⟩ = some (.string ⟨c.digits.toArray⟩) := (H5.out (w.heap.size + 1 + 1, c) (by simp)).c1
  have kc2 : (w4.alloc (Obj.cells #[Value.bool p.neg, Value.string { data := p.digits.toArray }, Value.int IntKind.i64 p.exp] 23)).cell? ⟨w.heap.size + 1 + 1, 2, none⟩ = some (.int .i64 c.exp) := (H5.out (w.heap.size + 1 + 1, c) (by simp)).c2
  have kp0 : (w4.alloc (Obj.cells #[Value.bool p.neg, Value.string { data := p.digits.toArray }, Value.int IntKind.i64 p.exp] 23)).cell? ⟨w2.heap.size, 0, none⟩ = some (.bool p.neg) := (H5.out (w2.heap.size, p) (by simp)).c0
  have kp1 : (w4.alloc (Obj.cells #[Value.bool p.neg, Value.string { data := p.digits.toArray }, Value.int IntKind.i64 p.exp] 23)).cell? ⟨w2.heap.size, 1, none⟩ = some (.string ⟨p.digits.toArray⟩) := (H5.out (w2.heap.size, p) (by simp)).c1
  have kp2 : (w4.alloc (Obj.cells #[Value.bool p.neg, Value.string { data := p.digits.toArray }, Value.int IntKind.i64 p.exp] 23)).cell? ⟨w2.heap.size, 2, none⟩ = some (.int .i64 p.exp) := (H5.out (w2.heap.size, p) (by simp)).c2
  have kp20 : (w4.alloc (Obj.cells #[Value.bool p.neg, Value.string { data := p.digits.toArray }, Value.int IntKind.i64 p.exp] 23)).cell? ⟨w4.heap.size, 0, none⟩ = some (.bool p.neg) := (H5.out (w4.heap.size, p) (by simp)).c0
  have kp21 : (w4.alloc (Obj.cells #[Value.bool p.neg, Value.string { data := p.digits.toArray }, Value.int IntKind.i64 p.exp] 23)).cell? ⟨w4.heap.size, 1, none⟩ = some (.string ⟨p.digits.toArray⟩) := (H5.out (w4.heap.size, p) (by simp)).c1
  have kp22 : (w4.alloc (Obj.cells #[Value.bool p.neg, Value.string { data := p.digits.toArray }, Value.int IntKind.i64 p.exp] 23)).cell? ⟨w4.heap.size, 2, none⟩ = some (.int .i64 p.exp) := (H5.out (w4.heap.size, p) (by simp)).c2
  go_wp2_with (go_at_call 13; refine (num_calls _ _).mono ?_; rintro e w88 ⟨rfl, rfl⟩)
  refine (prod_calls _ a c (by omega) (by omega)).mono ?_
  rintro e w6 ⟨rfl, hb6⟩
  have hc6 := hb6
  have H6 := Lib.hid (H5.out.under hc6)
  have Ht6 := Lib.hid (Ht5.out.below hc6)
  have hbel6 := hbel5.trans (hc6.mono hbel5.size)
  clear hb6 hc6 H5 Ht5 hbel5 ka0 ka1 ka2 kc0 kc1 kc2 kp0 kp1 kp2 kp20 kp21 kp22
  simp only [DecV]
  have hlr := mul_len a c
  generalize mulS a c = q at *
  obtain ⟨r, er⟩ := q
  simp only at *
  have H7 := Lib.hid ((H6.out.alloc (Obj.cells #[Value.bool r.neg, Value.string { data := r.digits.toArray }, Value.int IntKind.i64 r.exp] 23)).push (DecAt.at w6 r _ rfl))
  have Ht7 := Lib.hid (Ht6.out.alloc (Obj.cells #[Value.bool r.neg, Value.string { data := r.digits.toArray }, Value.int IntKind.i64 r.exp] 23))
  have hbel7 := hbel6.alloc hbel6.size (Obj.cells #[Value.bool r.neg, Value.string { data := r.digits.toArray }, Value.int IntKind.i64 r.exp] 23)
  clear H6 Ht6 hbel6
  have kb0 : (w6.alloc (Obj.cells #[Value.bool r.neg, Value.string { data := r.digits.toArray }, Value.int IntKind.i64 r.exp] 23)).cell? ⟨w.heap.size + 1, 0, none⟩ = some (.bool b.neg) := (H7.out (w.heap.size + 1, b) (by simp)).c0
  have kb1 : (w6.alloc (Obj.cells #[Value.bool r.neg, Value.string { data := r.digits.toArray }, Value.int IntKind.i64 r.exp] 23)).cell? ⟨w.heap.size + 1, 1, none⟩ = some (.string ⟨b.digits.toArray⟩) := (H7.out (w.heap.size + 1, b) (by simp)).c1
  have kb2 : (w6.alloc (Obj.cells #[Value.bool r.neg, Value.string { data := r.digits.toArray }, Value.int IntKind.i64 r.exp] 23)).cell? ⟨w.heap.size + 1, 2, none⟩ = some (.int .i64 b.exp) := (H7.out (w.heap.size + 1, b) (by simp)).c2
  have kc0 : (w6.alloc (Obj.cells #[Value.bool r.neg, Value.string { data := r.digits.toArray }, Value.int IntKind.i64 r.exp] 23)).cell? ⟨w.heap.size + 1 + 1, 0, none⟩ = some (.bool c.neg) := (H7.out (w.heap.size + 1 + 1, c) (by simp)).c0
  have kc1 : (w6.alloc (Obj.cells #[Value.bool r.neg, Value.string { data := r.digits.toArray }, Value.int IntKind.i64 r.exp] 23)).cell? ⟨w.heap.size + 1 + 1, 1, none⟩ = some (.string ⟨c.digits.toArray⟩) := (H7.out (w.heap.size + 1 + 1, c) (by simp)).c1
  have kc2 : (w6.alloc (Obj.cells #[Value.bool r.neg, Value.string { data := r.digits.toArray }, Value.int IntKind.i64 r.exp] 23)).cell? ⟨w.heap.size + 1 + 1, 2, none⟩ = some (.int .i64 c.exp) := (H7.out (w.heap.size + 1 + 1, c) (by simp)).c2
  go_wp2_with fail
  refine (sum_calls _ _ [b, c] (DecsAt.two1 _ _ b c (by omega) (by omega)) (by simp)).mono ?_
  rintro e w8 ⟨rfl, hb8⟩
  have hc8 : Below (w6.alloc (Obj.cells #[Value.bool r.neg, Value.string { data := r.digits.toArray }, Value.int IntKind.i64 r.exp] 23)).heap.size (w6.alloc (Obj.cells #[Value.bool r.neg, Value.string { data := r.digits.toArray }, Value.int IntKind.i64 r.exp] 23)) w8 := ((Below.refl _ _).alloc (Nat.le_refl _) (Obj.cells #[Value.bool b.neg, Value.string { data := b.digits.toArray }, Value.int IntKind.i64 b.exp, Value.bool c.neg, Value.string { data := c.digits.toArray }, Value.int IntKind.i64 c.exp] 23)).trans (hb8.mono (by simp))
  have H8 := Lib.hid (H7.out.under hc8)
  have Ht8 := Lib.hid (Ht7.out.below hc8)
  have hbel8 := hbel7.trans (hc8.mono hbel7.size)
  clear hb8 hc8 H7 Ht7 hbel7 kb0 kb1 kb2 kc0 kc1 kc2
  simp only [DecV]
  have hls := sum_len [b, c]
  generalize sumS [b, c] = q at *
  obtain ⟨u, eu⟩ := q
  simp only at *
  have H9 := Lib.hid ((H8.out.alloc (Obj.cells #[Value.bool u.neg, Value.string { data := u.digits.toArray }, Value.int IntKind.i64 u.exp] 23)).push (DecAt.at w8 u _ rfl))
  have Ht9 := Lib.hid (Ht8.out.alloc (Obj.cells #[Value.bool u.neg, Value.string { data := u.digits.toArray }, Value.int IntKind.i64 u.exp] 23))
  have hbel9 := hbel8.alloc hbel8.size (Obj.cells #[Value.bool u.neg, Value.string { data := u.digits.toArray }, Value.int IntKind.i64 u.exp] 23)
  clear H8 Ht8 hbel8
  by_cases hep : ep = 0
  · subst hep
    by_cases her : er = 0
    · subst her
      by_cases heu : eu = 0
      · subst heu
        have hx := Hx.out.2 rfl rfl rfl
        have Hx2 := Lib.hid hx
        clear hx Hx
        have ka0 : (w8.alloc (Obj.cells #[Value.bool u.neg, Value.string { data := u.digits.toArray }, Value.int IntKind.i64 u.exp] 23)).cell? ⟨w.heap.size, 0, none⟩ = some (.bool a.neg) := (H9.out (w.heap.size, a) (by simp)).c0
        have ka1 : (w8.alloc (Obj.cells #[Value.bool u.neg, Value.string { data := u.digits.toArray }, Value.int IntKind.i64 u.exp] 23)).cell? ⟨w.heap.size, 1, none⟩ = some (.string ⟨a.digits.toArray⟩) := (H9.out (w.heap.size, a) (by simp)).c1
        have ka2 : (w8.alloc (Obj.cells #[Value.bool u.neg, Value.string { data := u.digits.toArray }, Value.int IntKind.i64 u.exp] 23)).cell? ⟨w.heap.size, 2, none⟩ = some (.int .i64 a.exp) := (H9.out (w.heap.size, a) (by simp)).c2
        have ku0 : (w8.alloc (Obj.cells #[Value.bool u.neg, Value.string { data := u.digits.toArray }, Value.int IntKind.i64 u.exp] 23)).cell? ⟨w8.heap.size, 0, none⟩ = some (.bool u.neg) := (H9.out (w8.heap.size, u) (by simp)).c0
        have ku1 : (w8.alloc (Obj.cells #[Value.bool u.neg, Value.string { data := u.digits.toArray }, Value.int IntKind.i64 u.exp] 23)).cell? ⟨w8.heap.size, 1, none⟩ = some (.string ⟨u.digits.toArray⟩) := (H9.out (w8.heap.size, u) (by simp)).c1
        have ku2 : (w8.alloc (Obj.cells #[Value.bool u.neg, Value.string { data := u.digits.toArray }, Value.int IntKind.i64 u.exp] 23)).cell? ⟨w8.heap.size, 2, none⟩ = some (.int .i64 u.exp) := (H9.out (w8.heap.size, u) (by simp)).c2
        go_wp2_with (go_at_call 13; refine (num_calls _ _).mono ?_; rintro e w88 ⟨rfl, rfl⟩)
        refine (prod_calls _ a u (by omega) (by omega)).mono ?_
        rintro e w10 ⟨rfl, hb10⟩
        have hc10 := hb10
        have H10 := Lib.hid (H9.out.under hc10)
        have Ht10 := Lib.hid (Ht9.out.below hc10)
        have hbel10 := hbel9.trans (hc10.mono hbel9.size)
        clear hb10 hc10 H9 Ht9 hbel9 ka0 ka1 ka2 ku0 ku1 ku2
        rw [Hx2.out]
        simp only [DecV]
        have Hq : Hid (∃ z ez, sumS [p, r] = (z, ez)) := ⟨_, _, rfl⟩
        obtain ⟨z, ez, hq⟩ := Hq.out
        rw [hq]
        have Hq2 := Lib.hid hq
        clear hq Hq Hx2
        simp only
        have H11 := Lib.hid ((H10.out.alloc (Obj.cells #[Value.bool z.neg, Value.string { data := z.digits.toArray }, Value.int IntKind.i64 z.exp] 23)).push (DecAt.at w10 z _ rfl))
        have Ht11 := Lib.hid (Ht10.out.alloc (Obj.cells #[Value.bool z.neg, Value.string { data := z.digits.toArray }, Value.int IntKind.i64 z.exp] 23))
        have hbel11 := hbel10.alloc hbel10.size (Obj.cells #[Value.bool z.neg, Value.string { data := z.digits.toArray }, Value.int IntKind.i64 z.exp] 23)
        clear H10 Ht10 hbel10
        have kp0 : (w10.alloc (Obj.cells #[Value.bool z.neg, Value.string { data := z.digits.toArray }, Value.int IntKind.i64 z.exp] 23)).cell? ⟨w2.heap.size, 0, none⟩ = some (.bool p.neg) := (H11.out (w2.heap.size, p) (by simp)).c0
        have kp1 : (w10.alloc (Obj.cells #[Value.bool z.neg, Value.string { data := z.digits.toArray }, Value.int IntKind.i64 z.exp] 23)).cell? ⟨w2.heap.size, 1, none⟩ = some (.string ⟨p.digits.toArray⟩) := (H11.out (w2.heap.size, p) (by simp)).c1
        have kp2 : (w10.alloc (Obj.cells #[Value.bool z.neg, Value.string { data := z.digits.toArray }, Value.int IntKind.i64 z.exp] 23)).cell? ⟨w2.heap.size, 2, none⟩ = some (.int .i64 p.exp) := (H11.out (w2.heap.size, p) (by simp)).c2
        have kr0 : (w10.alloc (Obj.cells #[Value.bool z.neg, Value.string { data := z.digits.toArray }, Value.int IntKind.i64 z.exp] 23)).cell? ⟨w6.heap.size, 0, none⟩ = some (.bool r.neg) := (H11.out (w6.heap.size, r) (by simp)).c0
        have kr1 : (w10.alloc (Obj.cells #[Value.bool z.neg, Value.string { data := z.digits.toArray }, Value.int IntKind.i64 z.exp] 23)).cell? ⟨w6.heap.size, 1, none⟩ = some (.string ⟨r.digits.toArray⟩) := (H11.out (w6.heap.size, r) (by simp)).c1
        have kr2 : (w10.alloc (Obj.cells #[Value.bool z.neg, Value.string { data := z.digits.toArray }, Value.int IntKind.i64 z.exp] 23)).cell? ⟨w6.heap.size, 2, none⟩ = some (.int .i64 r.exp) := (H11.out (w6.heap.size, r) (by simp)).c2
        go_wp2_with fail
        refine (sum_calls _ _ [p, r] (DecsAt.two1 _ _ p r (by omega) (by omega)) (by simp)).mono ?_
        rintro e w12 ⟨rfl, hb12⟩
        have hc12 : Below (w10.alloc (Obj.cells #[Value.bool z.neg, Value.string { data := z.digits.toArray }, Value.int IntKind.i64 z.exp] 23)).heap.size (w10.alloc (Obj.cells #[Value.bool z.neg, Value.string { data := z.digits.toArray }, Value.int IntKind.i64 z.exp] 23)) w12 := ((Below.refl _ _).alloc (Nat.le_refl _) (Obj.cells #[Value.bool p.neg, Value.string { data := p.digits.toArray }, Value.int IntKind.i64 p.exp, Value.bool r.neg, Value.string { data := r.digits.toArray }, Value.int IntKind.i64 r.exp] 23)).trans (hb12.mono (by simp))
        have H12 := Lib.hid (H11.out.under hc12)
        have Ht12 := Lib.hid (Ht11.out.below hc12)
        have hbel12 := hbel11.trans (hc12.mono hbel11.size)
        clear hb12 hc12 H11 Ht11 hbel11 kp0 kp1 kp2 kr0 kr1 kr2
        rw [Hq2.out]
        simp only [DecV]
        have H13 := Lib.hid ((H12.out.alloc (Obj.cells #[Value.bool z.neg, Value.string { data := z.digits.toArray }, Value.int IntKind.i64 z.exp] 23)).push (DecAt.at w12 z _ rfl))
        have Ht13 := Lib.hid (Ht12.out.alloc (Obj.cells #[Value.bool z.neg, Value.string { data := z.digits.toArray }, Value.int IntKind.i64 z.exp] 23))
        have hbel13 := hbel12.alloc hbel12.size (Obj.cells #[Value.bool z.neg, Value.string { data := z.digits.toArray }, Value.int IntKind.i64 z.exp] 23)
        clear H12 Ht12 hbel12
        have kz0 : (w12.alloc (Obj.cells #[Value.bool z.neg, Value.string { data := z.digits.toArray }, Value.int IntKind.i64 z.exp] 23)).cell? ⟨w10.heap.size, 0, none⟩ = some (.bool z.neg) := (H13.out (w10.heap.size, z) (by simp)).c0
        have kz1 : (w12.alloc (Obj.cells #[Value.bool z.neg, Value.string { data := z.digits.toArray }, Value.int IntKind.i64 z.exp] 23)).cell? ⟨w10.heap.size, 1, none⟩ = some (.string ⟨z.digits.toArray⟩) := (H13.out (w10.heap.size, z) (by simp)).c1
        have kz2 : (w12.alloc (Obj.cells #[Value.bool z.neg, Value.string { data := z.digits.toArray }, Value.int IntKind.i64 z.exp] 23)).cell? ⟨w10.heap.size, 2, none⟩ = some (.int .i64 z.exp) := (H13.out (w10.heap.size, z) (by simp)).c2
        have kz20 : (w12.alloc (Obj.cells #[Value.bool z.neg, Value.string { data := z.digits.toArray }, Value.int IntKind.i64 z.exp] 23)).cell? ⟨w12.heap.size, 0, none⟩ = some (.bool z.neg) := (H13.out (w12.heap.size, z) (by simp)).c0
        have kz21 : (w12.alloc (Obj.cells #[Value.bool z.neg, Value.string { data := z.digits.toArray }, Value.int IntKind.i64 z.exp] 23)).cell? ⟨w12.heap.size, 1, none⟩ = some (.string ⟨z.digits.toArray⟩) := (H13.out (w12.heap.size, z) (by simp)).c1
        have kz22 : (w12.alloc (Obj.cells #[Value.bool z.neg, Value.string { data := z.digits.toArray }, Value.int IntKind.i64 z.exp] 23)).cell? ⟨w12.heap.size, 2, none⟩ = some (.int .i64 z.exp) := (H13.out (w12.heap.size, z) (by simp)).c2
        have hbf := hbel13
        clear H13 Ht13 hbel13
        go_wp2_with (go_at_call 13; refine (num_calls _ _).mono ?_; rintro e w88 ⟨rfl, rfl⟩)
        go_ret
        exact ⟨rfl, hbf⟩
      · clear Hx
        have hbf := hbel9
        clear H9 Ht9 hbel9
        go_wp2_with (go_at_call 13; refine (num_calls _ _).mono ?_; rintro e w88 ⟨rfl, rfl⟩)
        go_ret
        exact ⟨rfl, hbf⟩
    · clear Hx
      have hbf := hbel9
      clear H9 Ht9 hbel9
      go_wp2_with (go_at_call 13; refine (num_calls _ _).mono ?_; rintro e w88 ⟨rfl, rfl⟩)
      go_ret
      exact ⟨rfl, hbf⟩
  · clear Hx
    have hbf := hbel9
    clear H9 Ht9 hbel9
    go_wp2_with (go_at_call 13; refine (num_calls _ _).mono ?_; rintro e w88 ⟨rfl, rfl⟩)
    go_ret
    exact ⟨rfl, hbf⟩
end Go.Proofs.YtkakmjdfecbhaaaDoor
