/- Texts of this claim, joined: Jp15. -/
import Derived.Test.YtfclfaidmipjpaaGreatDoorCo26
import Derived.Test.YtfclfaidmipjpaaGreatDoorCo27
namespace Go.Proofs.YtfclfaidmipjpaaGreatDoor
set_option maxRecDepth 100000
set_option maxHeartbeats 20000000
open Go.Lib (hid)
open Go.RowKit
structure PvI (w wr : World) (R g2 : Nat) (s : List UInt8) (f : Fl) : Prop where
 rd : PdAt wr R s f.alone f.twice f.great
 on : OnlyR R w wr
 res : RowAt wr g2 jz
theorem PvI.only {w wr w' : World} {R g2 : Nat} {s s' : List UInt8} {f f' : Fl} (h : PvI w wr R g2 s f) (hg : R < g2) (ho : OnlyR R wr w') (hr : PdAt w' R s' f'.alone f'.twice f'.great) : PvI w w' R g2 s' f' := ⟨hr, h.on.trans ho, h.res.apart ho (by omega)⟩
theorem PvI.below {w wr w' : World} {R g2 : Nat} {s : List UInt8} {f : Fl} (h : PvI w wr R g2 s f) (hb : Below wr.heap.size wr w') : PvI w w' R g2 s f := ⟨h.rd.below hb, h.on.trans (.ofBelow hb), h.res.below hb⟩
theorem PvI.ret {w wr : World} {R g2 : Nat} {s : List UInt8} {f : Fl} (h : PvI w wr R g2 s f) (hg : R < g2 ∧ w.heap.size = g2) {v : J} {lv nv : Value} {x0 x1 x2 x3 x4 x5 x6 x7 : Value} (hj : JV wr (fun k => g2 < k) (v, lv, nv)) :
  OnlyR R w (set8 wr g2 x0 x1 x2 x3 x4 x5 x6 x7) ∧ PdAt (set8 wr g2 x0 x1 x2 x3 x4 x5 x6 x7) R s f.alone f.twice f.great ∧ JV (set8 wr g2 x0 x1 x2 x3 x4 x5 x6 x7) (fun k => w.heap.size ≤ k) (v, lv, nv) := by
 have ha := set8_apart wr g2 x0 x1 x2 x3 x4 x5 x6 x7
 refine ⟨h.on.trans' ha (fun i hi e => by omega), h.rd.apart ha (by omega), ?_⟩
 exact (hj.apart ha (fun k hk _ e => by omega)).mono (fun k _ hk => by omega)
theorem val_cases {k1 d : Nat} {s : List UInt8} {f f2 : Fl} {v : J} {r : List UInt8} (h : valS [0] (k1 + 1) d s f = some (v, r, f2)) : ∃ c t, skipS s = c :: t ∧
  ((∃ obj : Bool, c = (if obj then 123 else 91) ∧ inS [0] k1 (d + 1) obj t { f with deep := f.deep || decide (64 < d + 1) } = some (v, r, f2)) ∨
  (c = 34 ∧ ∃ u a, qtS [0] t = some (u, r, a) ∧ v = .mk 3 false Dec.zero u [] [] ∧ f2 = { f with alone := f.alone || a }) ∨
  (c = 116 ∧ 4 ≤ (c :: t).length ∧ r = (c :: t).drop 4 ∧ v = .mk 1 true Dec.zero [] [] [] ∧ f2 = f) ∨
  (c = 102 ∧ 5 ≤ (c :: t).length ∧ r = (c :: t).drop 5 ∧ v = .mk 1 false Dec.zero [] [] [] ∧ f2 = f) ∨
  (c = 110 ∧ 4 ≤ (c :: t).length ∧ r = (c :: t).drop 4 ∧ v = J.zero ∧ f2 = f) ∨
  ((c = 45 ∨ digB c = true) ∧ numS (c :: t) f = some (v, r, f2))) := by
 cases hs : skipS s with
 | nil => rw [valS_end hs] at h; cases h
 | cons c t =>
  refine ⟨c, t, rfl, ?_⟩
  rw [valS_at hs rfl] at h
  by_cases h1 : c = 123
  ·rw [if_pos h1] at h; exact .inl ⟨true, h1, h⟩
  rw [if_neg h1] at h
  by_cases h2 : c = 91
  ·rw [if_pos h2] at h; exact .inl ⟨false, h2, h⟩
  rw [if_neg h2] at h
  by_cases h3 : c = 34
  ·rw [if_pos h3] at h
   cases hq : qtS [0] t with
   | none => rw [hq] at h; cases h
   | some x =>
    obtain ⟨u, r1, a⟩ := x
    rw [hq] at h
    simp only [Option.some.injEq, Prod.mk.injEq] at h
    obtain ⟨rfl, rfl, rfl⟩ := h
    exact .inr (.inl ⟨h3, u, a, rfl, rfl, rfl⟩)
  rw [if_neg h3] at h
  by_cases h4 : c = 45 ∨ digB c = true
  ·rw [if_pos h4] at h; exact .inr (.inr (.inr (.inr (.inr ⟨h4, h⟩))))
  rw [if_neg h4] at h
  by_cases h5 : (c :: t).take 4 = wNull
  ·rw [if_pos h5] at h
   simp only [Option.some.injEq, Prod.mk.injEq] at h
   have hc : c = 110 := by simp only [wNull, List.take_succ_cons, List.cons.injEq] at h5; exact h5.1
   exact .inr (.inr (.inr (.inr (.inl ⟨hc, take_le (p := wNull) h5, h.2.1.symm, h.1.symm, h.2.2.symm⟩))))
  rw [if_neg h5] at h
  by_cases h6 : (c :: t).take 4 = wTrue
  ·rw [if_pos h6] at h
   simp only [Option.some.injEq, Prod.mk.injEq] at h
   have hc : c = 116 := by simp only [wTrue, List.take_succ_cons, List.cons.injEq] at h6; exact h6.1
   exact .inr (.inr (.inl ⟨hc, take_le (p := wTrue) h6, h.2.1.symm, h.1.symm, h.2.2.symm⟩))
  rw [if_neg h6] at h
  by_cases h7 : (c :: t).take 5 = wFalse
  ·rw [if_pos h7] at h
   simp only [Option.some.injEq, Prod.mk.injEq] at h
   have hc : c = 102 := by simp only [wFalse, List.take_succ_cons, List.cons.injEq] at h7; exact h7.1
   exact .inr (.inr (.inr (.inl ⟨hc, take_le (p := wFalse) h7, h.2.1.symm, h.1.symm, h.2.2.symm⟩)))
  rw [if_neg h7] at h
  cases h
theorem num_p {w w' : World} {l r : List UInt8} {e : Ending} (h : NumP w l e w') (hr : numR l = some r) : ∃ n : Nat, n = l.length - r.length ∧ n ≤ l.length ∧ r = l.drop n ∧ e = .returned (.int .i64 (n : Int)) ∧ w = w' := by
 obtain ⟨h1, n, h2, h3⟩ := h
 rcases h3 with ⟨_, h4⟩ | ⟨_, h4, h5⟩
 ·rw [hr] at h4; cases h4
 rw [hr] at h5
 have h6 := Option.some.inj h5
 refine ⟨n, ?_, h4, h6, h2, h1⟩
 rw [h6, List.length_drop]; omega
theorem num_take {s : List UInt8} {f f2 : Fl} {v : J} {r : List UInt8} (h : numS s f = some (v, r, f2)) : s.take (s.length - r.length) = s.takeWhile numB ∧ r.length ≤ s.length := by
 obtain ⟨_, _, h3, _, _⟩ := num_some h
 have hl : s.length = (s.takeWhile numB).length + r.length := by rw [← List.length_append]; exact congrArg List.length h3
 refine ⟨?_, by omega⟩
 rw [show s.length - r.length = (s.takeWhile numB).length from by omega]
 have h4 := congrArg (List.take (s.takeWhile numB).length) h3
 rw [List.take_left] at h4
 exact h4
theorem valueP_step (k : Nat) (HV : ∀ j, j < k → ValPAll j) : ValPAll k := by
 intro w R s d f v r f2 h hl hs
 obtain ⟨k1, rfl⟩ : ∃ k1, k = k1 + 1 := by
  cases k with
  | zero => simp [valS] at hs
  | succ k1 => exact ⟨k1, rfl⟩
 obtain ⟨c, t, hsk, hvc⟩ := val_cases hs
 have HVC := hid hvc
 have HSK := hid hsk
 have hctl : (c :: t).length ≤ 100000000 := by rw [← hsk]; have := skip_len s; omega
 have HVV := hid HV
 have hRw := h.lt
 have hr0 := RowAt.new w jz.toArray 30
 have hb0 : Below w.heap.size w (w.alloc (Obj.cells #[Value.int IntKind.i64 0, Value.bool false, Value.bool false, Value.string { data := #[] }, Value.int IntKind.i64 0, Value.string { data := #[] }, Value.slice none 0 0, Value.slice none 0 0] 30)) := (Below.refl _ _).alloc (Nat.le_refl _) _
 have HI0 : Hid (PvI w (w.alloc (Obj.cells #[Value.int IntKind.i64 0, Value.bool false, Value.bool false, Value.string { data := #[] }, Value.int IntKind.i64 0, Value.string { data := #[] }, Value.slice none 0 0, Value.slice none 0 0] 30)) R w.heap.size s f) := hid ⟨h.below hb0, OnlyR.ofBelow hb0, hr0⟩
 have HGx : Hid (R < w.heap.size ∧ w.heap.size = w.heap.size) := hid ⟨hRw, rfl⟩
 clear h hs hsk hvc HV hr0 hb0 hRw
 go_enter Tryz.func48, Tryz.ntmps48
 go_upto_region 1 with fail
 have HG2 : Hid (∃ g, w.heap.size = g ∧ R < g ∧ w.heap.size = g) := hid ⟨_, rfl, HGx.out⟩
 obtain ⟨g2, hg2, hg3⟩ := HG2.out
 have HG := hid hg3
 rw [hg2] at HI0 ⊢
 generalize (w.alloc (Obj.cells #[Value.int IntKind.i64 0, Value.bool false, Value.bool false, Value.string { data := #[] }, Value.int IntKind.i64 0, Value.string { data := #[] }, Value.slice none 0 0, Value.slice none 0 0] 30)) = w1 at *
 clear HG2 HGx hg2 hg3 hl
 go_wp2_with fail
 refine (nextP_calls w1 HI0.out.rd [91, 123] HSK.out).mono ?_
 rintro e w2 ⟨rfl, ho2, hr2⟩
 have HI2 := hid (HI0.out.only (f' := f) HG.out.1 ho2 hr2)
 clear ho2 hr2 HI0 HSK
 have hcl := c.toNat_lt
 rcases HVC.out with ⟨obj, hc, hin⟩ | ⟨hc, u, a, hq, rfl, rfl⟩ | ⟨hc, h4, rfl, rfl, rfl⟩ | ⟨hc, h4, rfl, rfl, rfl⟩ | ⟨hc, h4, rfl, rfl, rfl⟩ | ⟨hc, hnum⟩
 ·
  have HIN := hid hin
  have HC := hid hc
  clear hin hc HVC
  have hct : [91, 123].contains c = true := by rw [HC.out]; cases obj <;> rfl
  rw [hct] at HI2
  simp only [if_true] at HI2
  clear hct
  rw [List.length_cons] at hctl
  cases obj with
  | false =>
   obtain rfl : c = 91 := HC.out
   clear HC
   rw [show ((91 : UInt8).toNat : Int) = 91 from rfl]
   go_upto_region 5 with fail
   have hz := RowAt.new w2 #[Value.int IntKind.i64 0, Value.bool false, Value.bool false, Value.string { data := #[] }, Value.int IntKind.i64 0, Value.string { data := #[] }, Value.slice none 0 0, Value.slice none 0 0] 30
   have hbz : Below w2.heap.size w2 (w2.alloc (Obj.cells #[Value.int IntKind.i64 0, Value.bool false, Value.bool false, Value.string { data := #[] }, Value.int IntKind.i64 0, Value.string { data := #[] }, Value.slice none 0 0, Value.slice none 0 0] 30)) := (Below.refl _ _).alloc (Nat.le_refl _) _
   have HI3 := hid (HI2.out.below hbz)
   have HZ := hid hz
   have HGZ : Hid (g2 < w2.heap.size) := hid HI2.out.res.lt
   clear hz hbz HI2
   go_upto_region 6 with (refine wpList_store8 rfl _ _ rfl rfl HZ.out rfl _ _ _ _ _ _ _ _ rfl rfl rfl ?_)
   obtain ⟨g4, hg4⟩ : ∃ g, w2.heap.size = g := ⟨_, rfl⟩
   rw [hg4] at HZ HGZ ⊢
   generalize (w2.alloc (Obj.cells #[Value.int IntKind.i64 0, Value.bool false, Value.bool false, Value.string { data := #[] }, Value.int IntKind.i64 0, Value.string { data := #[] }, Value.slice none 0 0, Value.slice none 0 0] 30)) = w3 at *
   clear hg4
   have hs8 := set8_apart w3 g4 (.int .i64 4) (.bool false) (.bool false) (.string ⟨#[]⟩) (.int .i64 0) (.string ⟨#[]⟩) (.slice none 0 0) (.slice none 0 0)
   have hrow4 := set8_row HZ.out rfl (.int .i64 4) (.bool false) (.bool false) (.string ⟨#[]⟩) (.int .i64 0) (.string ⟨#[]⟩) (.slice none 0 0) (.slice none 0 0)
   have HI4 : Hid (PvI w (set8 w3 g4 (.int .i64 4) (.bool false) (.bool false) (.string ⟨#[]⟩) (.int .i64 0) (.string ⟨#[]⟩) (.slice none 0 0) (.slice none 0 0)) R g2 t f) := hid ⟨HI3.out.rd.apart hs8 (by have := HGZ.out; have := HG.out.1; omega), HI3.out.on.trans' hs8 (fun i hi e => by have := HGZ.out; have := HG.out.2; omega), HI3.out.res.apart hs8 (by have := HGZ.out; omega)⟩
   have HR4 := hid hrow4
   generalize hw4 : set8 w3 g4 (.int .i64 4) (.bool false) (.bool false) (.string ⟨#[]⟩) (.int .i64 0) (.string ⟨#[]⟩) (.slice none 0 0) (.slice none 0 0) = w4 at *
   clear hs8 hrow4 hw4 HI3 HZ
   go_wp2_with fail
   refine (inP_calls k1 (fun j hj => HVV.out j (by omega)) w4 false (f := { f with deep := f.deep || decide (64 < d + 1) }) HI4.out.rd HR4.out (by have := HGZ.out; have := HG.out.1; omega) (by omega) HIN.out).mono ?_
   rintro e w6 ⟨rfl, ha6, hr6, lv, nv, hv6, hj6⟩
   have hon6 : OnlyR R w w6 := Apart.trans HI4.out.on ha6 (fun i hi e => by
    rcases e with e | e
    ·exact e
    exfalso; have := HGZ.out; have := HG.out.2; omega)
   have HI6 : Hid (PvI w w6 R g2 r f2) := hid ⟨hr6, hon6, HI4.out.res.apart ha6 (fun e => by have := HGZ.out; have := HG.out.1; omega)⟩
   have HV6 := hid hv6
   have hsz6 : g2 < w4.heap.size := HI4.out.res.lt
   have HJ6 := hid (hj6.mono (S' := fun k => g2 < k) (fun k _ hk => by omega))
   clear ha6 hr6 hv6 hj6 hon6 hsz6
   obtain ⟨kd, bb, ⟨ng, dg, ex⟩, tx, l2, ns2⟩ := v
   obtain ⟨p1, c1, p2, c2e, e1, e2⟩ := HJ6.out.slices
   simp only at e1 e2
   subst e1 e2
   have HV7 : Hid (RowAt w6 g4 [.int .i64 kd, .bool bb, .bool ng, .string ⟨dg.toArray⟩, .int .i64 ex, .string ⟨tx.toArray⟩, (.slice p1 (J.mk kd bb ⟨ng, dg, ex⟩ tx l2 ns2).l.length c1), (.slice p2 (J.mk kd bb ⟨ng, dg, ex⟩ tx l2 ns2).ns.length c2e)]) := HV6
   clear HV6
   go_wp2_with (first | with_reducible refine stop_ret ?_ | refine wpList_load8 rfl _ rfl HV7.out rfl ?_ | refine wpList_store8 rfl _ _ rfl rfl HI6.out.res rfl _ _ _ _ _ _ _ _ rfl rfl rfl ?_)
   refine hid ?_
   obtain ⟨ho, hr, hj⟩ := HI6.out.ret HG.out HJ6.out
   have hrow := set8_row HI6.out.res rfl (.int .i64 kd) (.bool bb) (.bool ng) (.string ⟨dg.toArray⟩) (.int .i64 ex) (.string ⟨tx.toArray⟩) (.slice p1 (J.mk kd bb ⟨ng, dg, ex⟩ tx l2 ns2).l.length c1) (.slice p2 (J.mk kd bb ⟨ng, dg, ex⟩ tx l2 ns2).ns.length c2e)
   change bodyPost _ _ _ _ _ (set8 w6 g2 (.int .i64 kd) (.bool bb) (.bool ng) (.string ⟨dg.toArray⟩) (.int .i64 ex) (.string ⟨tx.toArray⟩) (.slice p1 (J.mk kd bb ⟨ng, dg, ex⟩ tx l2 ns2).l.length c1) (.slice p2 (J.mk kd bb ⟨ng, dg, ex⟩ tx l2 ns2).ns.length c2e))
   generalize set8 w6 g2 (.int .i64 kd) (.bool bb) (.bool ng) (.string ⟨dg.toArray⟩) (.int .i64 ex) (.string ⟨tx.toArray⟩) (.slice p1 (J.mk kd bb ⟨ng, dg, ex⟩ tx l2 ns2).l.length c1) (.slice p2 (J.mk kd bb ⟨ng, dg, ex⟩ tx l2 ns2).ns.length c2e) = W8 at *
   refine bodyPost_ret8 rfl rfl rfl hrow ?_
   exact ⟨ho, hr, _, _, rfl, hj⟩
  | true =>
   obtain rfl : c = 123 := HC.out
   clear HC
   rw [show ((123 : UInt8).toNat : Int) = 123 from rfl]
   go_upto_region 5 with fail
   have hz := RowAt.new w2 #[Value.int IntKind.i64 0, Value.bool false, Value.bool false, Value.string { data := #[] }, Value.int IntKind.i64 0, Value.string { data := #[] }, Value.slice none 0 0, Value.slice none 0 0] 30
   have hbz : Below w2.heap.size w2 (w2.alloc (Obj.cells #[Value.int IntKind.i64 0, Value.bool false, Value.bool false, Value.string { data := #[] }, Value.int IntKind.i64 0, Value.string { data := #[] }, Value.slice none 0 0, Value.slice none 0 0] 30)) := (Below.refl _ _).alloc (Nat.le_refl _) _
   have HI3 := hid (HI2.out.below hbz)
   have HZ := hid hz
   have HGZ : Hid (g2 < w2.heap.size) := hid HI2.out.res.lt
   clear hz hbz HI2
   go_upto_region 6 with (refine wpList_store8 rfl _ _ rfl rfl HZ.out rfl _ _ _ _ _ _ _ _ rfl rfl rfl ?_)
   obtain ⟨g4, hg4⟩ : ∃ g, w2.heap.size = g := ⟨_, rfl⟩
   rw [hg4] at HZ HGZ ⊢
   generalize (w2.alloc (Obj.cells #[Value.int IntKind.i64 0, Value.bool false, Value.bool false, Value.string { data := #[] }, Value.int IntKind.i64 0, Value.string { data := #[] }, Value.slice none 0 0, Value.slice none 0 0] 30)) = w3 at *
   clear hg4
   have hs8 := set8_apart w3 g4 (.int .i64 4) (.bool false) (.bool false) (.string ⟨#[]⟩) (.int .i64 0) (.string ⟨#[]⟩) (.slice none 0 0) (.slice none 0 0)
   have hrow4 := set8_row HZ.out rfl (.int .i64 4) (.bool false) (.bool false) (.string ⟨#[]⟩) (.int .i64 0) (.string ⟨#[]⟩) (.slice none 0 0) (.slice none 0 0)
   have HI4 : Hid (PvI w (set8 w3 g4 (.int .i64 4) (.bool false) (.bool false) (.string ⟨#[]⟩) (.int .i64 0) (.string ⟨#[]⟩) (.slice none 0 0) (.slice none 0 0)) R g2 t f) := hid ⟨HI3.out.rd.apart hs8 (by have := HGZ.out; have := HG.out.1; omega), HI3.out.on.trans' hs8 (fun i hi e => by have := HGZ.out; have := HG.out.2; omega), HI3.out.res.apart hs8 (by have := HGZ.out; omega)⟩
   have HR4 := hid hrow4
   generalize hw4 : set8 w3 g4 (.int .i64 4) (.bool false) (.bool false) (.string ⟨#[]⟩) (.int .i64 0) (.string ⟨#[]⟩) (.slice none 0 0) (.slice none 0 0) = w4 at *
   clear hs8 hrow4 hw4 HI3 HZ
   have k0 := HR4.out.cell 0 _ rfl
   have k1f := HR4.out.free 0
   have HI5 := hid (show PvI w (w4.setCell ⟨g4, 0, none⟩ (.int .i64 5)) R g2 t f from ⟨HI4.out.rd.far (p := ⟨g4, 0, none⟩) (by show g4 ≠ R; have := HGZ.out; have := HG.out.1; omega) _, HI4.out.on.trans' (Apart.set (S := fun k => k = g4) w4 (a := ⟨g4, 0, none⟩) rfl _) (fun i hi e => by have := HGZ.out; have := HG.out.2; omega), HI4.out.res.far (p := ⟨g4, 0, none⟩) (by show g4 ≠ g2; have := HGZ.out; omega) _⟩)
   have HR5 := hid (HR4.out.set 0 (.int .i64 5) (by simp))
   go_upto_region 8 with fail
   generalize w4.setCell ⟨g4, 0, none⟩ (.int .i64 5) = w5 at *
   clear k0 k1f HI4 HR4
   go_wp2_with fail
   refine (inP_calls k1 (fun j hj => HVV.out j (by omega)) w5 true (f := { f with deep := f.deep || decide (64 < d + 1) }) HI5.out.rd HR5.out (by have := HGZ.out; have := HG.out.1; omega) (by omega) HIN.out).mono ?_
   rintro e w6 ⟨rfl, ha6, hr6, lv, nv, hv6, hj6⟩
   have hon6 : OnlyR R w w6 := Apart.trans HI5.out.on ha6 (fun i hi e => by
    rcases e with e | e
    ·exact e
    exfalso; have := HGZ.out; have := HG.out.2; omega)
   have HI6 : Hid (PvI w w6 R g2 r f2) := hid ⟨hr6, hon6, HI5.out.res.apart ha6 (fun e => by have := HGZ.out; have := HG.out.1; omega)⟩
   have HV6 := hid hv6
   have hsz6 : g2 < w5.heap.size := HI5.out.res.lt
   have HJ6 := hid (hj6.mono (S' := fun k => g2 < k) (fun k _ hk => by omega))
   clear ha6 hr6 hv6 hj6 hon6 hsz6
   obtain ⟨kd, bb, ⟨ng, dg, ex⟩, tx, l2, ns2⟩ := v
   obtain ⟨p1, c1, p2, c2e, e1, e2⟩ := HJ6.out.slices
   simp only at e1 e2
   subst e1 e2
   have HV7 : Hid (RowAt w6 g4 [.int .i64 kd, .bool bb, .bool ng, .string ⟨dg.toArray⟩, .int .i64 ex, .string ⟨tx.toArray⟩, (.slice p1 (J.mk kd bb ⟨ng, dg, ex⟩ tx l2 ns2).l.length c1), (.slice p2 (J.mk kd bb ⟨ng, dg, ex⟩ tx l2 ns2).ns.length c2e)]) := HV6
   clear HV6
   go_wp2_with (first | with_reducible refine stop_ret ?_ | refine wpList_load8 rfl _ rfl HV7.out rfl ?_ | refine wpList_store8 rfl _ _ rfl rfl HI6.out.res rfl _ _ _ _ _ _ _ _ rfl rfl rfl ?_)
   refine hid ?_
   obtain ⟨ho, hr, hj⟩ := HI6.out.ret HG.out HJ6.out
   have hrow := set8_row HI6.out.res rfl (.int .i64 kd) (.bool bb) (.bool ng) (.string ⟨dg.toArray⟩) (.int .i64 ex) (.string ⟨tx.toArray⟩) (.slice p1 (J.mk kd bb ⟨ng, dg, ex⟩ tx l2 ns2).l.length c1) (.slice p2 (J.mk kd bb ⟨ng, dg, ex⟩ tx l2 ns2).ns.length c2e)
   change bodyPost _ _ _ _ _ (set8 w6 g2 (.int .i64 kd) (.bool bb) (.bool ng) (.string ⟨dg.toArray⟩) (.int .i64 ex) (.string ⟨tx.toArray⟩) (.slice p1 (J.mk kd bb ⟨ng, dg, ex⟩ tx l2 ns2).l.length c1) (.slice p2 (J.mk kd bb ⟨ng, dg, ex⟩ tx l2 ns2).ns.length c2e))
   generalize set8 w6 g2 (.int .i64 kd) (.bool bb) (.bool ng) (.string ⟨dg.toArray⟩) (.int .i64 ex) (.string ⟨tx.toArray⟩) (.slice p1 (J.mk kd bb ⟨ng, dg, ex⟩ tx l2 ns2).l.length c1) (.slice p2 (J.mk kd bb ⟨ng, dg, ex⟩ tx l2 ns2).ns.length c2e) = W8 at *
   refine bodyPost_ret8 rfl rfl rfl hrow ?_
   exact ⟨ho, hr, _, _, rfl, hj⟩
 ·
  subst hc
  have HQ := hid hq
  clear hq HVC
  rw [List.length_cons] at hctl
  have hct : [91, 123].contains (34 : UInt8) = false := rfl
  rw [hct] at HI2
  simp only [Bool.false_eq_true, if_false] at HI2
  clear hct
  rw [show ((34 : UInt8).toNat : Int) = 34 from rfl]
  go_wp2_with fail
  refine (textP_calls w2 HI2.out.rd (by omega) HQ.out).mono ?_
  rintro e w3 ⟨rfl, ho3, hr3⟩
  have HI3 := hid (HI2.out.only (f' := { f with alone := f.alone || a }) HG.out.1 ho3 hr3)
  clear ho3 hr3 HI2
  go_wp2_with (first | with_reducible refine stop_ret ?_ | refine wpList_store8 rfl _ _ rfl rfl HI3.out.res rfl _ _ _ _ _ _ _ _ rfl rfl rfl ?_)
  refine hid ?_
  obtain ⟨ho, hr, hj⟩ := HI3.out.ret HG.out (x0 := .int .i64 3) (x1 := .bool false) (x2 := .bool false) (x3 := .string ⟨#[]⟩) (x4 := .int .i64 0) (x5 := .string ⟨u.toArray⟩) (x6 := (.slice none 0 0)) (x7 := (.slice none 0 0)) (JV.leaf w3 (fun k => g2 < k) 3 false Dec.zero u)
  have hrow := set8_row HI3.out.res rfl (.int .i64 3) (.bool false) (.bool false) (.string ⟨#[]⟩) (.int .i64 0) (.string ⟨u.toArray⟩) (.slice none 0 0) (.slice none 0 0)
  change bodyPost _ _ _ _ _ (set8 w3 g2 (.int .i64 3) (.bool false) (.bool false) (.string ⟨#[]⟩) (.int .i64 0) (.string ⟨u.toArray⟩) (.slice none 0 0) (.slice none 0 0))
  generalize set8 w3 g2 (.int .i64 3) (.bool false) (.bool false) (.string ⟨#[]⟩) (.int .i64 0) (.string ⟨u.toArray⟩) (.slice none 0 0) (.slice none 0 0) = W8 at *
  refine bodyPost_ret8 rfl rfl rfl hrow ?_
  exact ⟨ho, hr, _, _, rfl, hj⟩
 ·
  subst hc
  clear HVC
  have hct : [91, 123].contains (116 : UInt8) = false := rfl
  rw [hct] at HI2
  simp only [Bool.false_eq_true, if_false] at HI2
  clear hct
  rw [show ((116 : UInt8).toNat : Int) = 116 from rfl]
  obtain ⟨ct, hct⟩ : ∃ ct, (116 : UInt8) :: t = ct := ⟨_, rfl⟩
  rw [hct] at HI2 h4 hctl
  have hx := ext_drop ct 4
  have h4i : (4 : Int) ≤ (ct.length : Int) := by omega
  have c0 := HI2.out.rd.cell 0 _ rfl
  have f0 := HI2.out.rd.free 0
  have HI3 := hid (HI2.out.only (s' := ct.drop 4) (f' := f2) HG.out.1 ((OnlyR.refl R w2).set 0 (.string ⟨(ct.drop 4).toArray⟩)) (HI2.out.rd.text (ct.drop 4)))
  have HCT := hid hct
  clear hct
  go_upto_region 14 with fail
  generalize w2.setCell ⟨R, 0, none⟩ (.string ⟨(ct.drop 4).toArray⟩) = w3 at *
  clear c0 f0 HI2
  go_wp2_with (first | with_reducible refine stop_ret ?_ | refine wpList_store8 rfl _ _ rfl rfl HI3.out.res rfl _ _ _ _ _ _ _ _ rfl rfl rfl ?_)
  refine hid ?_
  obtain ⟨ho, hr, hj⟩ := HI3.out.ret HG.out (x0 := .int .i64 1) (x1 := .bool true) (x2 := .bool false) (x3 := .string ⟨#[]⟩) (x4 := .int .i64 0) (x5 := .string ⟨#[]⟩) (x6 := (.slice none 0 0)) (x7 := (.slice none 0 0)) (JV.leaf w3 (fun k => g2 < k) 1 true Dec.zero [])
  have hrow := set8_row HI3.out.res rfl (.int .i64 1) (.bool true) (.bool false) (.string ⟨#[]⟩) (.int .i64 0) (.string ⟨#[]⟩) (.slice none 0 0) (.slice none 0 0)
  change bodyPost _ _ _ _ _ (set8 w3 g2 (.int .i64 1) (.bool true) (.bool false) (.string ⟨#[]⟩) (.int .i64 0) (.string ⟨#[]⟩) (.slice none 0 0) (.slice none 0 0))
  generalize set8 w3 g2 (.int .i64 1) (.bool true) (.bool false) (.string ⟨#[]⟩) (.int .i64 0) (.string ⟨#[]⟩) (.slice none 0 0) (.slice none 0 0) = W8 at *
  refine bodyPost_ret8 rfl rfl rfl hrow ?_
  exact ⟨ho, by rw [HCT.out]; exact hr, _, _, rfl, hj⟩
 ·
  subst hc
  clear HVC
  have hct : [91, 123].contains (102 : UInt8) = false := rfl
  rw [hct] at HI2
  simp only [Bool.false_eq_true, if_false] at HI2
  clear hct
  rw [show ((102 : UInt8).toNat : Int) = 102 from rfl]
  obtain ⟨ct, hct⟩ : ∃ ct, (102 : UInt8) :: t = ct := ⟨_, rfl⟩
  rw [hct] at HI2 h4 hctl
  have hx := ext_drop ct 5
  have h4i : (5 : Int) ≤ (ct.length : Int) := by omega
  have c0 := HI2.out.rd.cell 0 _ rfl
  have f0 := HI2.out.rd.free 0
  have HI3 := hid (HI2.out.only (s' := ct.drop 5) (f' := f2) HG.out.1 ((OnlyR.refl R w2).set 0 (.string ⟨(ct.drop 5).toArray⟩)) (HI2.out.rd.text (ct.drop 5)))
  have HCT := hid hct
  clear hct
  go_upto_region 17 with fail
  generalize w2.setCell ⟨R, 0, none⟩ (.string ⟨(ct.drop 5).toArray⟩) = w3 at *
  clear c0 f0 HI2
  go_wp2_with (first | with_reducible refine stop_ret ?_ | refine wpList_store8 rfl _ _ rfl rfl HI3.out.res rfl _ _ _ _ _ _ _ _ rfl rfl rfl ?_)
  refine hid ?_
  obtain ⟨ho, hr, hj⟩ := HI3.out.ret HG.out (x0 := .int .i64 1) (x1 := .bool false) (x2 := .bool false) (x3 := .string ⟨#[]⟩) (x4 := .int .i64 0) (x5 := .string ⟨#[]⟩) (x6 := (.slice none 0 0)) (x7 := (.slice none 0 0)) (JV.leaf w3 (fun k => g2 < k) 1 false Dec.zero [])
  have hrow := set8_row HI3.out.res rfl (.int .i64 1) (.bool false) (.bool false) (.string ⟨#[]⟩) (.int .i64 0) (.string ⟨#[]⟩) (.slice none 0 0) (.slice none 0 0)
  change bodyPost _ _ _ _ _ (set8 w3 g2 (.int .i64 1) (.bool false) (.bool false) (.string ⟨#[]⟩) (.int .i64 0) (.string ⟨#[]⟩) (.slice none 0 0) (.slice none 0 0))
  generalize set8 w3 g2 (.int .i64 1) (.bool false) (.bool false) (.string ⟨#[]⟩) (.int .i64 0) (.string ⟨#[]⟩) (.slice none 0 0) (.slice none 0 0) = W8 at *
  refine bodyPost_ret8 rfl rfl rfl hrow ?_
  exact ⟨ho, by rw [HCT.out]; exact hr, _, _, rfl, hj⟩
 ·
  subst hc
  clear HVC
  have hct : [91, 123].contains (110 : UInt8) = false := rfl
  rw [hct] at HI2
  simp only [Bool.false_eq_true, if_false] at HI2
  clear hct
  rw [show ((110 : UInt8).toNat : Int) = 110 from rfl]
  obtain ⟨ct, hct⟩ : ∃ ct, (110 : UInt8) :: t = ct := ⟨_, rfl⟩
  rw [hct] at HI2 h4 hctl
  have hx := ext_drop ct 4
  have h4i : (4 : Int) ≤ (ct.length : Int) := by omega
  have c0 := HI2.out.rd.cell 0 _ rfl
  have f0 := HI2.out.rd.free 0
  have HI3 := hid (HI2.out.only (s' := ct.drop 4) (f' := f2) HG.out.1 ((OnlyR.refl R w2).set 0 (.string ⟨(ct.drop 4).toArray⟩)) (HI2.out.rd.text (ct.drop 4)))
  have HCT := hid hct
  clear hct
  go_upto_region 20 with fail
  generalize w2.setCell ⟨R, 0, none⟩ (.string ⟨(ct.drop 4).toArray⟩) = w3 at *
  clear c0 f0 HI2
  go_wp2_with (first | with_reducible refine stop_ret ?_ | refine wpList_store8 rfl _ _ rfl rfl HI3.out.res rfl _ _ _ _ _ _ _ _ rfl rfl rfl ?_)
  refine hid ?_
  obtain ⟨ho, hr, hj⟩ := HI3.out.ret HG.out (x0 := .int .i64 0) (x1 := .bool false) (x2 := .bool false) (x3 := .string ⟨#[]⟩) (x4 := .int .i64 0) (x5 := .string ⟨#[]⟩) (x6 := (.slice none 0 0)) (x7 := (.slice none 0 0)) (JV.leaf w3 (fun k => g2 < k) 0 false Dec.zero [])
  have hrow := set8_row HI3.out.res rfl (.int .i64 0) (.bool false) (.bool false) (.string ⟨#[]⟩) (.int .i64 0) (.string ⟨#[]⟩) (.slice none 0 0) (.slice none 0 0)
  change bodyPost _ _ _ _ _ (set8 w3 g2 (.int .i64 0) (.bool false) (.bool false) (.string ⟨#[]⟩) (.int .i64 0) (.string ⟨#[]⟩) (.slice none 0 0) (.slice none 0 0))
  generalize set8 w3 g2 (.int .i64 0) (.bool false) (.bool false) (.string ⟨#[]⟩) (.int .i64 0) (.string ⟨#[]⟩) (.slice none 0 0) (.slice none 0 0) = W8 at *
  refine bodyPost_ret8 rfl rfl rfl hrow ?_
  exact ⟨ho, by rw [HCT.out]; exact hr, _, _, rfl, hj⟩
 obtain ⟨hnr, _, _, hv, hf2⟩ := num_some hnum
 obtain ⟨hnt, hnl⟩ := num_take hnum
 have hcs : c.toNat = 45 ∨ (48 ≤ c.toNat ∧ c.toNat ≤ 57) := by
  rcases hc with rfl | h9
  ·exact .inl rfl
  obtain ⟨d1, d2⟩ := (digB_iff c).1 h9; exact .inr ⟨d1, d2⟩
 have hct : [91, 123].contains c = false := by
  have h1 : (c == 91) = false := by rw [beq_eq_false_iff_ne]; intro e; rw [e] at hcs; simp at hcs
  have h2 : (c == 123) = false := by rw [beq_eq_false_iff_ne]; intro e; rw [e] at hcs; simp at hcs
  rw [List.contains_cons, List.contains_cons, h1, h2]; rfl
 rw [hct] at HI2
 simp only [Bool.false_eq_true, if_false] at HI2
 have h91 : ((c.toNat : Int) == 91) = false := by rw [beq_eq_false_iff_ne]; omega
 have h123 : ((c.toNat : Int) == 123) = false := by rw [beq_eq_false_iff_ne]; omega
 have h34 : ((c.toNat : Int) == 34) = false := by rw [beq_eq_false_iff_ne]; omega
 have h116 : ((c.toNat : Int) == 116) = false := by rw [beq_eq_false_iff_ne]; omega
 have h102 : ((c.toNat : Int) == 102) = false := by rw [beq_eq_false_iff_ne]; omega
 have h110 : ((c.toNat : Int) == 110) = false := by rw [beq_eq_false_iff_ne]; omega
 obtain ⟨ct, hct2⟩ : ∃ ct, c :: t = ct := ⟨_, rfl⟩
 rw [hct2] at HI2 hctl hnum hnr hnt hnl hv hf2
 have HNR := hid hnr
 have HNT := hid hnt
 have HV := hid hv
 have HF2 := hid hf2
 clear hct hct2 hc hcs hnum hnr hnt hv hf2 HVC
 have c0 := HI2.out.rd.cell 0 _ rfl
 go_wp2_with fail
 refine (numberP_calls w2 ct (by omega)).mono ?_
 rintro e w3 hnp
 obtain ⟨n, hn1, hn2, hn3, rfl, rfl⟩ : ∃ n : Nat, n = ct.length - r.length ∧ n ≤ ct.length ∧ r = ct.drop n ∧ e = .returned (.int .i64 (n : Int)) ∧ w2 = w3 := num_p hnp HNR.out
 have HN3 := hid hn3
 have HNT2 : Hid (ct.take n = ct.takeWhile numB) := hid (by rw [hn1]; exact HNT.out)
 have hx1 := ext_take ct n
 have hx2 := ext_drop ct n
 have hni : (n : Int) ≤ (ct.length : Int) := by omega
 clear hn1 hn3 hnp HNT HNR
 go_wp2_with fail
 refine (parse_calls w2 (ct.take n) (by rw [List.length_take]; omega)).mono ?_
 rintro e w3 ⟨rfl, hb3⟩
 rw [HNT2.out]
 have HI3 := hid (HI2.out.below hb3)
 clear hb3 HI2 c0
 have HP : Hid (∃ ng dg ex er, parseS (ct.takeWhile numB) = (⟨ng, dg, ex⟩, er)) := hid ⟨_, _, _, _, rfl⟩
 obtain ⟨ng, dg, ex, er, hp⟩ := HP.out
 have HP2 := hid hp
 rw [hp]
 simp only [DecV]
 clear HP hp
 go_upto_region 23 with fail
 have hd3 := RowAt.new w3 #[Value.bool ng, Value.string { data := dg.toArray }, Value.int IntKind.i64 ex] 26
 have hbd : Below w3.heap.size w3 (w3.alloc (Obj.cells #[Value.bool ng, Value.string { data := dg.toArray }, Value.int IntKind.i64 ex] 26)) := (Below.refl _ _).alloc (Nat.le_refl _) _
 have HI4 := hid (HI3.out.below hbd)
 have HGD : Hid (g2 < w3.heap.size) := hid HI3.out.res.lt
 obtain ⟨g6, hg6⟩ : ∃ g, w3.heap.size = g := ⟨_, rfl⟩
 rw [hg6] at hd3 HGD ⊢
 have HD3 := hid hd3
 generalize (w3.alloc (Obj.cells #[Value.bool ng, Value.string { data := dg.toArray }, Value.int IntKind.i64 ex] 26)) = w4 at *
 clear hd3 hbd hg6 HI3
 have hv2 : v = .mk 2 false ⟨ng, dg, ex⟩ [] [] [] := by rw [HV.out, HP2.out]
 obtain ⟨gg, hgg⟩ : ∃ gg, (er != 0) = gg := ⟨_, rfl⟩
 have hf3 : f2 = { f with great := f.great || gg } := by rw [HF2.out, HP2.out, ← hgg]
 have HGG := hid hgg
 clear hgg
 subst hv2
 subst hf3
 clear HV HF2 HP2 HNT2
 have c3 := HI4.out.rd.cell 3 _ rfl
 have f3 := HI4.out.rd.free 3
 rcases Bool.eq_false_or_eq_true f.great with hgr | hgr
 ·
  rw [hgr] at c3
  have HGR : Hid ((f.great || gg) = true) := hid (by rw [hgr]; rfl)
  clear hgr
  have HI5 := hid (HI4.out.only (s' := ct) (f' := { f with great := f.great || gg }) HG.out.1 ((OnlyR.refl R w4).set 3 (.bool true)) (by rw [show ({ f with great := f.great || gg } : Fl).great = true from HGR.out]; exact HI4.out.rd.set 3 (.bool true) (by simp)))
  have HD5 := hid (HD3.out.far (p := ⟨R, 3, none⟩) (by show R ≠ g6; have := HGD.out; have := HG.out.1; omega) (.bool true))
  go_upto_region 24 with fail
  generalize w4.setCell ⟨R, 3, none⟩ (.bool true) = w5 at *
  clear c3 f3 HI4 HD3
  have c0 := HI5.out.rd.cell 0 _ rfl
  have f0 := HI5.out.rd.free 0
  have HI6 := hid (HI5.out.only (s' := ct.drop n) (f' := { f with great := f.great || gg }) HG.out.1 ((OnlyR.refl R w5).set 0 (.string ⟨(ct.drop n).toArray⟩)) (HI5.out.rd.text (ct.drop n)))
  have HD6 := hid (HD5.out.far (p := ⟨R, 0, none⟩) (by show R ≠ g6; have := HGD.out; have := HG.out.1; omega) (.string ⟨(ct.drop n).toArray⟩))
  go_upto_region 25 with fail
  generalize w5.setCell ⟨R, 0, none⟩ (.string ⟨(ct.drop n).toArray⟩) = w6 at *
  clear c0 f0 HI5 HD5 hx1 hx2
  have d0 := HD6.out.cell 0 _ rfl
  have d1 := HD6.out.cell 1 _ rfl
  have d2 := HD6.out.cell 2 _ rfl
  go_wp2_with (first | with_reducible refine stop_ret ?_ | refine wpList_store8 rfl _ _ rfl rfl HI6.out.res rfl _ _ _ _ _ _ _ _ rfl rfl rfl ?_)
  refine hid ?_
  obtain ⟨ho, hr, hj⟩ := HI6.out.ret HG.out (x0 := .int .i64 2) (x1 := .bool false) (x2 := .bool ng) (x3 := .string ⟨dg.toArray⟩) (x4 := .int .i64 ex) (x5 := .string ⟨#[]⟩) (x6 := (.slice none 0 0)) (x7 := (.slice none 0 0)) (JV.leaf w6 (fun k => g2 < k) 2 false ⟨ng, dg, ex⟩ [])
  have hrow := set8_row HI6.out.res rfl (.int .i64 2) (.bool false) (.bool ng) (.string ⟨dg.toArray⟩) (.int .i64 ex) (.string ⟨#[]⟩) (.slice none 0 0) (.slice none 0 0)
  change bodyPost _ _ _ _ _ (set8 w6 g2 (.int .i64 2) (.bool false) (.bool ng) (.string ⟨dg.toArray⟩) (.int .i64 ex) (.string ⟨#[]⟩) (.slice none 0 0) (.slice none 0 0))
  generalize set8 w6 g2 (.int .i64 2) (.bool false) (.bool ng) (.string ⟨dg.toArray⟩) (.int .i64 ex) (.string ⟨#[]⟩) (.slice none 0 0) (.slice none 0 0) = W8 at *
  refine bodyPost_ret8 rfl rfl rfl hrow ?_
  exact ⟨ho, by rw [HN3.out]; exact hr, _, _, rfl, hj⟩
 rw [hgr] at c3
 by_cases her : er = 0
 ·
  have HGR : Hid ((f.great || gg) = false) := hid (by rw [hgr, ← HGG.out, her]; rfl)
  have e1 : (er == 0) = true := by rw [beq_iff_eq]; exact her
  have e2 : (er != 0) = false := by rw [bne_eq_false_iff_eq]; exact her
  clear hgr her
  have HI5 := hid (HI4.out.only (s' := ct) (f' := { f with great := f.great || gg }) HG.out.1 ((OnlyR.refl R w4).set 3 (.bool false)) (by rw [show ({ f with great := f.great || gg } : Fl).great = false from HGR.out]; exact HI4.out.rd.set 3 (.bool false) (by simp)))
  have HD5 := hid (HD3.out.far (p := ⟨R, 3, none⟩) (by show R ≠ g6; have := HGD.out; have := HG.out.1; omega) (.bool false))
  go_upto_region 24 with fail
  generalize w4.setCell ⟨R, 3, none⟩ (.bool false) = w5 at *
  clear c3 f3 HI4 HD3
  have c0 := HI5.out.rd.cell 0 _ rfl
  have f0 := HI5.out.rd.free 0
  have HI6 := hid (HI5.out.only (s' := ct.drop n) (f' := { f with great := f.great || gg }) HG.out.1 ((OnlyR.refl R w5).set 0 (.string ⟨(ct.drop n).toArray⟩)) (HI5.out.rd.text (ct.drop n)))
  have HD6 := hid (HD5.out.far (p := ⟨R, 0, none⟩) (by show R ≠ g6; have := HGD.out; have := HG.out.1; omega) (.string ⟨(ct.drop n).toArray⟩))
  go_upto_region 25 with fail
  generalize w5.setCell ⟨R, 0, none⟩ (.string ⟨(ct.drop n).toArray⟩) = w6 at *
  clear c0 f0 HI5 HD5 hx1 hx2
  have d0 := HD6.out.cell 0 _ rfl
  have d1 := HD6.out.cell 1 _ rfl
  have d2 := HD6.out.cell 2 _ rfl
  go_wp2_with (first | with_reducible refine stop_ret ?_ | refine wpList_store8 rfl _ _ rfl rfl HI6.out.res rfl _ _ _ _ _ _ _ _ rfl rfl rfl ?_)
  refine hid ?_
  obtain ⟨ho, hr, hj⟩ := HI6.out.ret HG.out (x0 := .int .i64 2) (x1 := .bool false) (x2 := .bool ng) (x3 := .string ⟨dg.toArray⟩) (x4 := .int .i64 ex) (x5 := .string ⟨#[]⟩) (x6 := (.slice none 0 0)) (x7 := (.slice none 0 0)) (JV.leaf w6 (fun k => g2 < k) 2 false ⟨ng, dg, ex⟩ [])
  have hrow := set8_row HI6.out.res rfl (.int .i64 2) (.bool false) (.bool ng) (.string ⟨dg.toArray⟩) (.int .i64 ex) (.string ⟨#[]⟩) (.slice none 0 0) (.slice none 0 0)
  change bodyPost _ _ _ _ _ (set8 w6 g2 (.int .i64 2) (.bool false) (.bool ng) (.string ⟨dg.toArray⟩) (.int .i64 ex) (.string ⟨#[]⟩) (.slice none 0 0) (.slice none 0 0))
  generalize set8 w6 g2 (.int .i64 2) (.bool false) (.bool ng) (.string ⟨dg.toArray⟩) (.int .i64 ex) (.string ⟨#[]⟩) (.slice none 0 0) (.slice none 0 0) = W8 at *
  refine bodyPost_ret8 rfl rfl rfl hrow ?_
  exact ⟨ho, by rw [HN3.out]; exact hr, _, _, rfl, hj⟩
 have HGR : Hid ((f.great || gg) = true) := hid (by rw [hgr, ← HGG.out, Bool.false_or, bne_iff_ne]; exact her)
 have e1 : (er == 0) = false := by rw [beq_eq_false_iff_ne]; exact her
 have e2 : (er != 0) = true := by rw [bne_iff_ne]; exact her
 clear hgr her
 have HI5 := hid (HI4.out.only (s' := ct) (f' := { f with great := f.great || gg }) HG.out.1 ((OnlyR.refl R w4).set 3 (.bool true)) (by rw [show ({ f with great := f.great || gg } : Fl).great = true from HGR.out]; exact HI4.out.rd.set 3 (.bool true) (by simp)))
 have HD5 := hid (HD3.out.far (p := ⟨R, 3, none⟩) (by show R ≠ g6; have := HGD.out; have := HG.out.1; omega) (.bool true))
 go_upto_region 24 with fail
 generalize w4.setCell ⟨R, 3, none⟩ (.bool true) = w5 at *
 clear c3 f3 HI4 HD3
 have c0 := HI5.out.rd.cell 0 _ rfl
 have f0 := HI5.out.rd.free 0
 have HI6 := hid (HI5.out.only (s' := ct.drop n) (f' := { f with great := f.great || gg }) HG.out.1 ((OnlyR.refl R w5).set 0 (.string ⟨(ct.drop n).toArray⟩)) (HI5.out.rd.text (ct.drop n)))
 have HD6 := hid (HD5.out.far (p := ⟨R, 0, none⟩) (by show R ≠ g6; have := HGD.out; have := HG.out.1; omega) (.string ⟨(ct.drop n).toArray⟩))
 go_upto_region 25 with fail
 generalize w5.setCell ⟨R, 0, none⟩ (.string ⟨(ct.drop n).toArray⟩) = w6 at *
 clear c0 f0 HI5 HD5 hx1 hx2
 have d0 := HD6.out.cell 0 _ rfl
 have d1 := HD6.out.cell 1 _ rfl
 have d2 := HD6.out.cell 2 _ rfl
 go_wp2_with (first | with_reducible refine stop_ret ?_ | refine wpList_store8 rfl _ _ rfl rfl HI6.out.res rfl _ _ _ _ _ _ _ _ rfl rfl rfl ?_)
 refine hid ?_
 obtain ⟨ho, hr, hj⟩ := HI6.out.ret HG.out (x0 := .int .i64 2) (x1 := .bool false) (x2 := .bool ng) (x3 := .string ⟨dg.toArray⟩) (x4 := .int .i64 ex) (x5 := .string ⟨#[]⟩) (x6 := (.slice none 0 0)) (x7 := (.slice none 0 0)) (JV.leaf w6 (fun k => g2 < k) 2 false ⟨ng, dg, ex⟩ [])
 have hrow := set8_row HI6.out.res rfl (.int .i64 2) (.bool false) (.bool ng) (.string ⟨dg.toArray⟩) (.int .i64 ex) (.string ⟨#[]⟩) (.slice none 0 0) (.slice none 0 0)
 change bodyPost _ _ _ _ _ (set8 w6 g2 (.int .i64 2) (.bool false) (.bool ng) (.string ⟨dg.toArray⟩) (.int .i64 ex) (.string ⟨#[]⟩) (.slice none 0 0) (.slice none 0 0))
 generalize set8 w6 g2 (.int .i64 2) (.bool false) (.bool ng) (.string ⟨dg.toArray⟩) (.int .i64 ex) (.string ⟨#[]⟩) (.slice none 0 0) (.slice none 0 0) = W8 at *
 refine bodyPost_ret8 rfl rfl rfl hrow ?_
 exact ⟨ho, by rw [HN3.out]; exact hr, _, _, rfl, hj⟩
theorem valueP_all (k : Nat) : ValPAll k := by
 induction k using Nat.strongRecOn with
 | _ k ih => exact valueP_step k ih
end Go.Proofs.YtfclfaidmipjpaaGreatDoor
