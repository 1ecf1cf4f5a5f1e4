/- JSONTexts returns true at any bytes and leaves them as they were, in every world whose listed variables hold what the program text lays (the tied card). -/
import Derived.Test.YtfclfaidmipjpaaGreatDoorCo32
import Derived.Test.YtfclfaidmipjpaaGreatDoorTx04
import Derived.Test.YtfclfaidmipjpaaGreatDoorTx08
namespace Go.Proofs.YtfclfaidmipjpaaGreatDoor
set_option maxRecDepth 100000
set_option maxHeartbeats 20000000
open Go.RowKit
structure ParI (w wr : World) (R g2 : Nat) (b : List UInt8) (m : Nat) (bad : Bool) (f : Fl) : Prop where
 rd : RdAt wr R b m bad f
 be : Below w.heap.size w wr
 res : RowAt wr g2 jz
 lo : w.heap.size ≤ g2 ∧ g2 < R
theorem ParI.only {w wr w' : World} {R g2 : Nat} {b : List UInt8} {m m2 : Nat} {bad bad2 : Bool} {f f2 : Fl} (h : ParI w wr R g2 b m bad f) (ho : OnlyR R wr w') (hr : RdAt w' R b m2 bad2 f2) : ParI w w' R g2 b m2 bad2 f2 :=
 ⟨hr, h.be.trans (ho.below h.be.size (by have := h.lo; omega)), h.res.apart ho (by have := h.lo; omega), h.lo⟩
theorem ParI.below {w wr w' : World} {R g2 : Nat} {b : List UInt8} {m : Nat} {bad : Bool} {f : Fl} (h : ParI w wr R g2 b m bad f) (hb : Below wr.heap.size wr w') : ParI w w' R g2 b m bad f :=
 ⟨h.rd.below hb, h.be.trans (hb.mono h.be.size), h.res.below hb, h.lo⟩
theorem parseJ_read {l : List UInt8} (h1 : ¬ 1048576 < l.length) (h2 : Lib.validD l = true) : parseJ [] l = match valS [] (3 * l.length + 3) 0 l Fl.none with
  | none => (J.zero, 180)
  | some (v, r, f) => if skipS r ≠ [] then (J.zero, 180) else if f.deep then (J.zero, 182) else if f.alone then (J.zero, 183) else if f.twice then (J.zero, 184) else if f.great then (J.zero, 4) else (v, 0) := by
 unfold parseJ
 rw [if_neg h1, if_neg (by rw [h2]; decide)]
 rfl
theorem parseJR_calls (w : World) (v : Value) (l : List UInt8) (hb : BytS w v l) (hl : l.length ≤ 100000000) : Calls Tryz.prog 14 #[v] w (ParTo w l) := by
 have hb0 : Below w.heap.size w (w.alloc (Obj.cells #[Value.int IntKind.i64 0, Value.bool false, Value.bool false, Value.string { data := #[] }, Value.int IntKind.i64 0, Value.string { data := #[] }, Value.slice none 0 0, Value.slice none 0 0] 30)) := (Below.refl _ _).alloc (Nat.le_refl _) _
 have HR0 := Lib.hid (RowAt.new w jz.toArray 30)
 have HB1 := Lib.hid (hb.below hb0)
 have HB0 := Lib.hid hb0
 obtain ⟨p0, cap, rfl, hcap, hml, hp0⟩ := hb.open
 clear hb0 hb hcap hml hp0
 go_enter Tryz.func14, Tryz.ntmps14
 go_upto_region 1 with fail
 have HG2 : Hid (∃ g, w.heap.size = g ∧ w.heap.size ≤ g) := Lib.hid ⟨_, rfl, Nat.le_refl _⟩
 obtain ⟨g2, hg2, hg3⟩ := HG2.out
 have HRR : Hid (RowAt (w.alloc (Obj.cells #[Value.int IntKind.i64 0, Value.bool false, Value.bool false, Value.string { data := #[] }, Value.int IntKind.i64 0, Value.string { data := #[] }, Value.slice none 0 0, Value.slice none 0 0] 30)) g2 jz) := Lib.hid (by rw [← hg2]; exact HR0.out)
 rw [hg2]
 have HLO := Lib.hid hg3
 have HLT : Hid (g2 < (w.alloc (Obj.cells #[Value.int IntKind.i64 0, Value.bool false, Value.bool false, Value.string { data := #[] }, Value.int IntKind.i64 0, Value.string { data := #[] }, Value.slice none 0 0, Value.slice none 0 0] 30)).heap.size) := Lib.hid HRR.out.lt
 clear HR0 HG2 hg2 hg3
 generalize (w.alloc (Obj.cells #[Value.int IntKind.i64 0, Value.bool false, Value.bool false, Value.string { data := #[] }, Value.int IntKind.i64 0, Value.string { data := #[] }, Value.slice none 0 0, Value.slice none 0 0] 30)) = w1 at *
 by_cases h1 : 1048576 < l.length
 ·
  have h1i : (1048576 : Int) < (l.length : Int) := by omega
  go_wp2_with (first | with_reducible refine stop_ret ?_ | refine wpList_store8 rfl _ _ rfl rfl HRR.out rfl _ _ _ _ _ _ _ _ rfl rfl rfl ?_)
  refine Lib.hid ?_
  exact bodyPost_ret8t rfl rfl rfl rfl (set8_row HRR.out rfl (.int .i64 0) (.bool false) (.bool false) (.string ⟨#[]⟩) (.int .i64 0) (.string ⟨#[]⟩) (.slice none 0 0) (.slice none 0 0)) (ParTo.zero (by unfold parseJ; rw [if_pos h1]) (below_set8 HB0.out HLO.out (.int .i64 0) (.bool false) (.bool false) (.string ⟨#[]⟩) (.int .i64 0) (.string ⟨#[]⟩) (.slice none 0 0) (.slice none 0 0)))
 have h1i : ¬ (1048576 : Int) < (l.length : Int) := by omega
 have hcv := HB1.out.string
 go_wp2_with fail
 refine (utf_calls w1 l (by omega)).mono ?_
 rintro e w2 ⟨rfl, rfl⟩
 cases hv : Lib.validD l with
 | false =>
  go_wp2_with (first | with_reducible refine stop_ret ?_ | refine wpList_store8 rfl _ _ rfl rfl HRR.out rfl _ _ _ _ _ _ _ _ rfl rfl rfl ?_)
  refine Lib.hid ?_
  exact bodyPost_ret8t rfl rfl rfl rfl (set8_row HRR.out rfl (.int .i64 0) (.bool false) (.bool false) (.string ⟨#[]⟩) (.int .i64 0) (.string ⟨#[]⟩) (.slice none 0 0) (.slice none 0 0)) (ParTo.zero (by unfold parseJ; rw [if_neg h1, if_pos hv]) (below_set8 HB0.out HLO.out (.int .i64 0) (.bool false) (.bool false) (.string ⟨#[]⟩) (.int .i64 0) (.string ⟨#[]⟩) (.slice none 0 0) (.slice none 0 0)))
 | true =>
  have HPJ := Lib.hid (parseJ_read h1 hv)
  clear hv h1
  go_upto_region 6 with fail
  have hb2 : Below w1.heap.size w1 (w1.alloc (Obj.cells #[Value.string { data := l.toArray }, Value.int IntKind.i64 0, Value.bool false, Value.bool false, Value.bool false, Value.bool false, Value.bool false] 77)) := (Below.refl _ _).alloc (Nat.le_refl _) _
  have HI2 : Hid (ParI w (w1.alloc (Obj.cells #[Value.string { data := l.toArray }, Value.int IntKind.i64 0, Value.bool false, Value.bool false, Value.bool false, Value.bool false, Value.bool false] 77)) w1.heap.size g2 l 0 false Fl.none) := Lib.hid ⟨RowAt.new w1 #[Value.string { data := l.toArray }, Value.int IntKind.i64 0, Value.bool false, Value.bool false, Value.bool false, Value.bool false, Value.bool false] 77, HB0.out.trans (hb2.mono HB0.out.size), HRR.out.below hb2, HLO.out, HLT.out⟩
  obtain ⟨R, hR⟩ : ∃ g, w1.heap.size = g := ⟨_, rfl⟩
  rw [hR] at HI2 ⊢
  generalize (w1.alloc (Obj.cells #[Value.string { data := l.toArray }, Value.int IntKind.i64 0, Value.bool false, Value.bool false, Value.bool false, Value.bool false, Value.bool false] 77)) = w2 at *
  clear hb2 hR hcv HB1 HRR HB0 HLO HLT
  go_wp2_with fail
  have HV := value_all (3 * l.length + 3) w2 R l 0 0 Fl.none HI2.out.rd (Nat.zero_le _) hl (by omega) (by omega)
  refine HV.mono ?_
  clear HV
  rintro e w3 ⟨ho3, hv3⟩
  have hres : ∃ (r : JR) (m : Nat) (bad : Bool) (f : Fl), e = .returned (jval r) ∧ m ≤ l.length ∧ RdAt w3 R l m bad f ∧ JV w3 (fun k => w2.heap.size ≤ k) r ∧ ((bad = true ∧ valS [] (3 * l.length + 3) 0 l Fl.none = none) ∨ (bad = false ∧ valS [] (3 * l.length + 3) 0 l Fl.none = some (r.1, l.drop m, f))) := by
   rcases hv3 with ⟨h1, m4, fq, r, h2, h3, h4, h5⟩ | ⟨r, m4, fq, h1, h2, h3, h4, h5, h6⟩
   ·exact ⟨r, m4, true, fq, h3, h2, h5, h4, .inl ⟨rfl, h1⟩⟩
   ·exact ⟨r, m4, false, fq, h4, h2, h6, h5, .inr ⟨rfl, h1⟩⟩
  clear hv3
  obtain ⟨r, m, bad, f, rfl, hm, hr3, hj3, hq3⟩ := hres
  have HQ := Lib.hid hq3
  have HI3 := Lib.hid (HI2.out.only ho3 hr3)
  have HJ3 : Hid (JV w3 (fun k => w2.heap.size ≤ k ∧ k < w3.heap.size) r) := Lib.hid (hj3.mono (fun k hk hs => ⟨hs, hk⟩))
  have HS2 : Hid (w.heap.size ≤ w2.heap.size ∧ g2 < w2.heap.size ∧ w2.heap.size ≤ w3.heap.size ∧ R < w2.heap.size) := Lib.hid ⟨HI2.out.be.size, HI2.out.res.lt, ho3.size, HI2.out.rd.lt⟩
  clear hq3 ho3 hr3 hj3 HI2
  obtain ⟨⟨kd, bb, ⟨ng, dg, ex⟩, tx, l2, ns2⟩, lv2, nv2⟩ := r
  obtain ⟨p1, c1, p2, c2e, e1, e2⟩ := HJ3.out.slices
  simp only at e1 e2
  subst e1 e2
  simp only [jval, J.kind, J.b, J.n, J.t]
  go_wp2_with fail
  have hb4 : Below w3.heap.size w3 (w3.alloc (Obj.cells #[Value.int IntKind.i64 kd, Value.bool bb, Value.bool ng, Value.string { data := dg.toArray }, Value.int IntKind.i64 ex, Value.string { data := tx.toArray }, (.slice p1 (J.mk kd bb ⟨ng, dg, ex⟩ tx l2 ns2).l.length c1), (.slice p2 (J.mk kd bb ⟨ng, dg, ex⟩ tx l2 ns2).ns.length c2e)] 30)) := (Below.refl _ _).alloc (Nat.le_refl _) _
  have HV5 := Lib.hid (RowAt.new w3 #[Value.int IntKind.i64 kd, Value.bool bb, Value.bool ng, Value.string { data := dg.toArray }, Value.int IntKind.i64 ex, Value.string { data := tx.toArray }, (.slice p1 (J.mk kd bb ⟨ng, dg, ex⟩ tx l2 ns2).l.length c1), (.slice p2 (J.mk kd bb ⟨ng, dg, ex⟩ tx l2 ns2).ns.length c2e)] 30)
  have HRL : Hid (R < w3.heap.size) := Lib.hid HI3.out.rd.lt
  have HI5 := Lib.hid (HI3.out.below hb4)
  have HJ5 := Lib.hid (HJ3.out.bel hb4)
  have HS5 : Hid (w.heap.size ≤ w2.heap.size ∧ g2 < w3.heap.size ∧ g2 < w2.heap.size ∧ R ≠ w3.heap.size ∧ R < w2.heap.size) := Lib.hid (by have := HS2.out; have := HRL.out; omega)
  obtain ⟨g5, hg5⟩ : ∃ g, w3.heap.size = g := ⟨_, rfl⟩
  rw [hg5] at HJ5 HV5 HS5 ⊢
  clear HI3 HJ3 hb4 HRL HS2
  generalize (w3.alloc (Obj.cells #[Value.int IntKind.i64 kd, Value.bool bb, Value.bool ng, Value.string { data := dg.toArray }, Value.int IntKind.i64 ex, Value.string { data := tx.toArray }, (.slice p1 (J.mk kd bb ⟨ng, dg, ex⟩ tx l2 ns2).l.length c1), (.slice p2 (J.mk kd bb ⟨ng, dg, ex⟩ tx l2 ns2).ns.length c2e)] 30)) = w5 at *
  clear hg5
  obtain ⟨q2, hq2⟩ : ∃ g, w2.heap.size = g := ⟨_, rfl⟩
  rw [hq2] at HJ5 HS5
  clear hq2
  refine (blanks_calls w5 HI5.out.rd hm (by omega)).mono ?_
  rintro e w6 ⟨m2, rfl, hnm, hm2, hsk, hr6, ho6⟩
  have HI6 := Lib.hid (HI5.out.only ho6 hr6)
  have HV6 := Lib.hid (HV5.out.apart ho6 (fun e => HS5.out.2.2.2.1 e.symm))
  have HJ6 : Hid (JV w6 (fun k => q2 ≤ k ∧ k < g5) _) := Lib.hid (HJ5.out.apart ho6 (fun k hk _ e => by have := hk.1; have := HS5.out; omega))
  have HSK := Lib.hid hsk
  clear hr6 ho6 hsk HI5 HV5 HJ5
  go_wp2_with fail
  have c0 := HI6.out.rd.cell 0 _ rfl
  have c1 := HI6.out.rd.cell 1 _ rfl
  cases bad with
  | true =>
   have b2 : w6.cell? ⟨R, 2, none⟩ = some (.bool true) := HI6.out.rd.cell 2 _ rfl
   have HZ : Hid (parseJ [] l = (J.zero, 180)) := by
    refine Lib.hid ?_
    rcases HQ.out with ⟨_, h⟩ | ⟨h, _⟩
    ·rw [HPJ.out, h]
    ·cases h
   go_wp2_with fail
   refine wp_region_quiet_fast (by kernel_rfl) (by kernel_rfl) ?_
   repeat (go_big_quiet_step (fail))
   refine wpQuiet_nil ?_
   intro _ hw'
   obtain ⟨nq, hw''⟩ := hw'
   subst hw''
   have HI7 := Lib.hid (HI6.out.below (drewN_b _ nq))
   clear c0 c1 b2
   generalize w6.drewN nq = w7 at *
   go_wp2_with (first | with_reducible refine stop_ret ?_ | refine wpList_store8 rfl _ _ rfl rfl HI7.out.res rfl _ _ _ _ _ _ _ _ rfl rfl rfl ?_)
   refine Lib.hid ?_
   exact bodyPost_ret8t rfl rfl rfl rfl (set8_row HI7.out.res rfl (.int .i64 0) (.bool false) (.bool false) (.string ⟨#[]⟩) (.int .i64 0) (.string ⟨#[]⟩) (.slice none 0 0) (.slice none 0 0)) (ParTo.zero HZ.out (below_set8 HI7.out.be HI7.out.lo.1 (.int .i64 0) (.bool false) (.bool false) (.string ⟨#[]⟩) (.int .i64 0) (.string ⟨#[]⟩) (.slice none 0 0) (.slice none 0 0)))
  | false =>
   have b2 : w6.cell? ⟨R, 2, none⟩ = some (.bool false) := HI6.out.rd.cell 2 _ rfl
   have HQ2 : Hid (valS [] (3 * l.length + 3) 0 l Fl.none = some (.mk kd bb ⟨ng, dg, ex⟩ tx l2 ns2, l.drop m, f)) := by
    refine Lib.hid ?_
    rcases HQ.out with ⟨h, _⟩ | ⟨_, h⟩
    ·cases h
    ·exact h
   by_cases hlt : m2 < l.length
   ·
    have hlt2 : (m2 : Int) < (l.length : Int) := by omega
    have HZ : Hid (parseJ [] l = (J.zero, 180)) := Lib.hid (by rw [HPJ.out, HQ2.out]; simp only; rw [if_pos (by rw [HSK.out, drop_at hlt]; simp)])
    go_wp2_with fail
    refine wp_region_quiet_fast (by kernel_rfl) (by kernel_rfl) ?_
    repeat (go_big_quiet_step (fail))
    refine wpQuiet_nil ?_
    intro _ hw'
    obtain ⟨nq, hw''⟩ := hw'
    subst hw''
    have HI7 := Lib.hid (HI6.out.below (drewN_b _ nq))
    clear c0 c1 b2
    generalize w6.drewN nq = w7 at *
    go_wp2_with (first | with_reducible refine stop_ret ?_ | refine wpList_store8 rfl _ _ rfl rfl HI7.out.res rfl _ _ _ _ _ _ _ _ rfl rfl rfl ?_)
    refine Lib.hid ?_
    exact bodyPost_ret8t rfl rfl rfl rfl (set8_row HI7.out.res rfl (.int .i64 0) (.bool false) (.bool false) (.string ⟨#[]⟩) (.int .i64 0) (.string ⟨#[]⟩) (.slice none 0 0) (.slice none 0 0)) (ParTo.zero HZ.out (below_set8 HI7.out.be HI7.out.lo.1 (.int .i64 0) (.bool false) (.bool false) (.string ⟨#[]⟩) (.int .i64 0) (.string ⟨#[]⟩) (.slice none 0 0) (.slice none 0 0)))
   have hlt2 : ¬ (m2 : Int) < (l.length : Int) := by omega
   have hd2 : decide ((m2 : Int) < (l.length : Int)) = false := by rw [decide_eq_false_iff_not]; exact hlt2
   have HZ : Hid (parseJ [] l = if f.deep then (J.zero, 182) else if f.alone then (J.zero, 183) else if f.twice then (J.zero, 184) else if f.great then (J.zero, 4) else (.mk kd bb ⟨ng, dg, ex⟩ tx l2 ns2, 0)) := Lib.hid (by rw [HPJ.out, HQ2.out]; simp only; rw [if_neg (by rw [HSK.out, List.drop_of_length_le (by omega)]; simp)])
   go_wp2_with fail
   refine wp_region_quiet_fast (by kernel_rfl) (by kernel_rfl) ?_
   repeat (go_big_quiet_step (fail))
   refine wpQuiet_nil ?_
   intro _ hw'
   obtain ⟨nq, hw''⟩ := hw'
   subst hw''
   have HI7 := Lib.hid (HI6.out.below (drewN_b _ nq))
   clear c0 c1 b2
   have HV7 := Lib.hid (HV6.out.below (drewN_b _ nq))
   have HJ7 := Lib.hid (HJ6.out.bel (drewN_b _ nq))
   generalize w6.drewN nq = w7 at *
   clear HI6 HV6 HJ6 hlt hlt2 hd2 HQ HQ2 HPJ
   obtain ⟨dp, al, tw, gr⟩ := f
   cases dp with
   | true =>
    have c3 : w7.cell? ⟨R, 3, none⟩ = some (.bool true) := HI7.out.rd.cell 3 _ rfl
    go_wp2_with (first | with_reducible refine stop_ret ?_ | refine wpList_store8 rfl _ _ rfl rfl HI7.out.res rfl _ _ _ _ _ _ _ _ rfl rfl rfl ?_)
    refine Lib.hid ?_
    exact bodyPost_ret8t rfl rfl rfl rfl (set8_row HI7.out.res rfl (.int .i64 0) (.bool false) (.bool false) (.string ⟨#[]⟩) (.int .i64 0) (.string ⟨#[]⟩) (.slice none 0 0) (.slice none 0 0)) (ParTo.zero HZ.out (below_set8 HI7.out.be HI7.out.lo.1 (.int .i64 0) (.bool false) (.bool false) (.string ⟨#[]⟩) (.int .i64 0) (.string ⟨#[]⟩) (.slice none 0 0) (.slice none 0 0)))
   | false =>
    have c3 : w7.cell? ⟨R, 3, none⟩ = some (.bool false) := HI7.out.rd.cell 3 _ rfl
    cases al with
    | true =>
     have c4 : w7.cell? ⟨R, 4, none⟩ = some (.bool true) := HI7.out.rd.cell 4 _ rfl
     go_wp2_with (first | with_reducible refine stop_ret ?_ | refine wpList_store8 rfl _ _ rfl rfl HI7.out.res rfl _ _ _ _ _ _ _ _ rfl rfl rfl ?_)
     refine Lib.hid ?_
     exact bodyPost_ret8t rfl rfl rfl rfl (set8_row HI7.out.res rfl (.int .i64 0) (.bool false) (.bool false) (.string ⟨#[]⟩) (.int .i64 0) (.string ⟨#[]⟩) (.slice none 0 0) (.slice none 0 0)) (ParTo.zero HZ.out (below_set8 HI7.out.be HI7.out.lo.1 (.int .i64 0) (.bool false) (.bool false) (.string ⟨#[]⟩) (.int .i64 0) (.string ⟨#[]⟩) (.slice none 0 0) (.slice none 0 0)))
    | false =>
     have c4 : w7.cell? ⟨R, 4, none⟩ = some (.bool false) := HI7.out.rd.cell 4 _ rfl
     cases tw with
     | true =>
      have c5 : w7.cell? ⟨R, 5, none⟩ = some (.bool true) := HI7.out.rd.cell 5 _ rfl
      go_wp2_with (first | with_reducible refine stop_ret ?_ | refine wpList_store8 rfl _ _ rfl rfl HI7.out.res rfl _ _ _ _ _ _ _ _ rfl rfl rfl ?_)
      refine Lib.hid ?_
      exact bodyPost_ret8t rfl rfl rfl rfl (set8_row HI7.out.res rfl (.int .i64 0) (.bool false) (.bool false) (.string ⟨#[]⟩) (.int .i64 0) (.string ⟨#[]⟩) (.slice none 0 0) (.slice none 0 0)) (ParTo.zero HZ.out (below_set8 HI7.out.be HI7.out.lo.1 (.int .i64 0) (.bool false) (.bool false) (.string ⟨#[]⟩) (.int .i64 0) (.string ⟨#[]⟩) (.slice none 0 0) (.slice none 0 0)))
     | false =>
      have c5 : w7.cell? ⟨R, 5, none⟩ = some (.bool false) := HI7.out.rd.cell 5 _ rfl
      cases gr with
      | true =>
       have c6 : w7.cell? ⟨R, 6, none⟩ = some (.bool true) := HI7.out.rd.cell 6 _ rfl
       go_wp2_with (first | with_reducible refine stop_ret ?_ | refine wpList_store8 rfl _ _ rfl rfl HI7.out.res rfl _ _ _ _ _ _ _ _ rfl rfl rfl ?_)
       refine Lib.hid ?_
       exact bodyPost_ret8t rfl rfl rfl rfl (set8_row HI7.out.res rfl (.int .i64 0) (.bool false) (.bool false) (.string ⟨#[]⟩) (.int .i64 0) (.string ⟨#[]⟩) (.slice none 0 0) (.slice none 0 0)) (ParTo.zero HZ.out (below_set8 HI7.out.be HI7.out.lo.1 (.int .i64 0) (.bool false) (.bool false) (.string ⟨#[]⟩) (.int .i64 0) (.string ⟨#[]⟩) (.slice none 0 0) (.slice none 0 0)))
      | false =>
       have c6 : w7.cell? ⟨R, 6, none⟩ = some (.bool false) := HI7.out.rd.cell 6 _ rfl
       go_wp2_with (first | with_reducible refine stop_ret ?_ | refine wpList_load8 rfl _ rfl HV7.out rfl ?_ | refine wpList_store8 rfl _ _ rfl rfl HI7.out.res rfl _ _ _ _ _ _ _ _ rfl rfl rfl ?_)
       refine Lib.hid ?_
       refine bodyPost_ret8t rfl rfl rfl rfl (set8_row HI7.out.res rfl (.int .i64 kd) (.bool bb) (.bool ng) (.string ⟨dg.toArray⟩) (.int .i64 ex) (.string ⟨tx.toArray⟩) (.slice p1 (J.mk kd bb ⟨ng, dg, ex⟩ tx l2 ns2).l.length c1) (.slice p2 (J.mk kd bb ⟨ng, dg, ex⟩ tx l2 ns2).ns.length c2e)) ⟨(.mk kd bb ⟨ng, dg, ex⟩ tx l2 ns2, (.slice p1 (J.mk kd bb ⟨ng, dg, ex⟩ tx l2 ns2).l.length c1), (.slice p2 (J.mk kd bb ⟨ng, dg, ex⟩ tx l2 ns2).ns.length c2e)), by rw [HZ.out]; rfl, by rw [HZ.out]; rfl, ?_, below_set8 HI7.out.be HI7.out.lo.1 (.int .i64 kd) (.bool bb) (.bool ng) (.string ⟨dg.toArray⟩) (.int .i64 ex) (.string ⟨tx.toArray⟩) (.slice p1 (J.mk kd bb ⟨ng, dg, ex⟩ tx l2 ns2).l.length c1) (.slice p2 (J.mk kd bb ⟨ng, dg, ex⟩ tx l2 ns2).ns.length c2e)⟩
       exact (HJ7.out.apart (set8_apart _ _ _ _ _ _ _ _ _ _) (fun k hk _ e => by have := hk.1; have := HS5.out; omega)).mono (fun k _ hk => by have := hk.1; have := HS5.out; omega)
open Go.RowKit
theorem waitV_empty (w : World) (fz : Nat × Nat) : WaitV (w.alloc (.cells #[] 5 fz)) w.heap.size (.slice (some ⟨w.heap.size, 0, none⟩) 0 0) [] :=
 .inr ⟨w.heap.size, 0, 0, rfl, Nat.le_refl _, by simp, Nat.le_refl _, Nat.zero_le _, fun j hj => by simp at hj, fun j hj => by omega, fun j hj => by omega⟩
theorem WaitV.spare {w : World} {B : Nat} {v : Value} {l : List UInt8} (h : WaitV w B v (l ++ [165])) : ∃ g off cap, v = .slice (some ⟨g, off, none⟩) (l.length + 1) cap ∧ B ≤ g ∧ g < w.heap.size ∧ l.length + 1 ≤ cap ∧ BytS w (.slice (some ⟨g, off, none⟩) l.length cap) l ∧ w.cell? ⟨g, off + l.length, none⟩ = some (.int .u8 165) := by
 rcases h with ⟨_, h⟩ | ⟨g, off, cap, rfl, h2, h3, h4, h5, h6, h7, h8⟩
 ·simp at h
 ·have e : (l ++ [165]).length = l.length + 1 := by simp
  rw [e] at h4 h6 ⊢
  refine ⟨g, off, cap, rfl, h2, h3, h4, .inr ⟨g, off, cap, rfl, by omega, by omega, h3, fun j hj => ?_⟩, ?_⟩
  ·rw [h6 j (by omega)]
   congr 4
   simp [List.getD_eq_getElem?_getD, List.getElem?_append_left hj]
  ·rw [h6 l.length (by omega)]
   simp [List.getD_eq_getElem?_getD]
theorem byts_one (w : World) : BytS (w.alloc (.cells #[.int .u8 165] 5)) (.slice (some ⟨w.heap.size, 0, none⟩) 1 1) [165] := byts_litF w [165] (0, 0) (by decide)
theorem jtexts_calls (w : World) (he : EnvJ w) (v : Value) (l : List UInt8) (hx : BytS w v l) : Calls Tryz.prog 3 #[v] w fun e w' => e = .returned (.bool true) ∧ Below w.heap.size w w' := by
 have He := Lib.hid he
 have HX := Lib.hid hx
 obtain ⟨p0, cap, rfl, hcap, hml, hp0⟩ := hx.open
 clear he hx hp0
 go_enter Tryz.func3, Tryz.ntmps3
 by_cases hl : 20000 < l.length
 ·
  have hli : (20000 : Int) < (l.length : Int) := by omega
  go_wp2_with fail
  have HB0 : Hid (Below w.heap.size w w) := Lib.hid (Below.refl _ _)
  refine (works_calls w (He.out.below HB0.out (Nat.le_refl _))).mono ?_
  rintro e wz ⟨rfl, hbz⟩
  have HBZ := Lib.hid (HB0.out.trans (hbz.mono HB0.out.size))
  clear hbz
  go_wp2_with fail
  go_ret
  exact ⟨rfl, HBZ.out⟩
 ·
  have hli : ¬ (20000 : Int) < (l.length : Int) := by omega
  have HL : Hid (l.length ≤ 20000) := Lib.hid (by omega)
  go_upto_region 3 with fail
  have HW0 : Hid (WaitV (w.alloc (.cells #[] 5)) w.heap.size (.slice (some ⟨w.heap.size, 0, none⟩) 0 0) []) := Lib.hid (waitV_empty w (0, 0))
  have HB0 : Hid (Below w.heap.size w (w.alloc (.cells #[] 5))) := Lib.hid ((Below.refl _ _).alloc (Nat.le_refl _) _)
  go_wp2_with (at_builtin; go_must (refine wpList_append_wait rfl _ _ rfl w.heap.size _ _ _ _ rfl HW0.out rfl (HX.out.below HB0.out) (by have := HL.out; simp only [List.length_nil]; omega) HB0.out.size ?_))
  intro v1 w1 hv1 hg1 ho1
  try rw [List.nil_append] at hv1
  have HV1 := Lib.hid hv1
  have HB1 : Hid (Below w.heap.size w w1) := Lib.hid (HB0.out.grown hg1 HB0.out.size (fun k hk => by cases hk; exact Nat.le_refl _))
  clear hv1 hg1 ho1 HW0 HB0
  have HL1 : Hid (BytS (w1.alloc (.cells #[.int .u8 165] 5)) (.slice (some ⟨w1.heap.size, 0, none⟩) 1 1) [165]) := Lib.hid (byts_one w1)
  have hba : Below w1.heap.size w1 (w1.alloc (.cells #[.int .u8 165] 5)) := (Below.refl _ _).alloc (Nat.le_refl _) _
  have HV2 := Lib.hid (HV1.out.below hba)
  have HB2 := Lib.hid (HB1.out.trans (hba.mono HB1.out.size))
  clear hba
  go_wp2_with (at_builtin; go_must (refine wpList_append_wait rfl _ _ rfl w.heap.size _ _ _ _ rfl HV2.out rfl HL1.out (by have := HL.out; simp only [List.length_cons, List.length_nil]; omega) HB2.out.size ?_))
  intro v3 w3 hv3 hg3 ho3
  have HB3 : Hid (Below w.heap.size w w3) := Lib.hid (HB2.out.grown hg3 HB2.out.size (fun k hk => (HV2.out.lt hk).1))
  obtain ⟨gm, om, cm, rfl, hgm, hgl, hcm, hbm, hsm⟩ := hv3.spare
  have HM3 := Lib.hid hbm
  have HS3 := Lib.hid hsm
  have HGM := Lib.hid (And.intro hgm hgl)
  clear hv3 hg3 ho3 hbm hsm hgm hgl HV1 HB1 HL1 HV2 HB2
  go_wp2_with fail
  refine (parseP_calls w3 _ l HM3.out (He.out.below HB3.out (Nat.le_refl _)).utf).mono ?_
  rintro e w4 ⟨r, rfl, hr, hj, hb4⟩
  have HR := Lib.hid hr
  have HJ := Lib.hid hj
  have HSL := Lib.hid hj.slJ
  have HB34 := Lib.hid hb4
  clear hr hj hb4
  obtain ⟨pe, hpe⟩ : ∃ x, (parseJ [] l).2 = x := ⟨_, rfl⟩
  have HPE := Lib.hid hpe
  rw [hpe]
  clear hpe
  go_upto_region 5 with (first | (refine wpList_allocJ rfl rfl ?_; intro wa hBx) | (refine wpList_storeJ rfl _ _ rfl rfl hBx.row rfl r HSL.out rfl rfl ?_; intro wS hSx))
  have HV := Lib.hid hSx.row
  have HBS : Hid (Below w4.heap.size w4 wS) := Lib.hid (hSx.below hBx.be (Nat.le_refl _) hBx.be.size)
  have HJS := Lib.hid (HJ.out.bel HBS.out)
  have HB3S : Hid (Below w3.heap.size w3 wS) := Lib.hid (HB34.out.trans (HBS.out.mono HB34.out.size))
  obtain ⟨g4, hg4⟩ : ∃ g, w4.heap.size = g := ⟨_, rfl⟩
  rw [hg4] at HV ⊢
  clear hBx hSx hg4 HBS HJ HB34
  go_wp2_with fail
  refine (parseJR_calls wS _ l (HX.out.below (HB3.out.trans (HB3S.out.mono HB3.out.size))) (by have := HL.out; omega)).mono ?_
  rintro e w6 ⟨r6, rfl, hr6, hj6, hb6⟩
  rw [HPE.out]
  have HR6 := Lib.hid hr6
  have HJ6 := Lib.hid hj6
  have HSL6 := Lib.hid hj6.slJ
  have HB36 : Hid (Below w3.heap.size w3 w6) := Lib.hid (HB3S.out.trans (hb6.mono HB3S.out.size))
  have HV6 := Lib.hid (HV.out.below hb6)
  have HJS6 := Lib.hid (HJS.out.bel hb6)
  clear hr6 hj6 hb6 HV HB3S HJS
  go_upto_region 6 with (first | (refine wpList_allocJ rfl rfl ?_; intro wa6 hBx6) | (refine wpList_storeJ rfl _ _ rfl rfl hBx6.row rfl r6 HSL6.out rfl rfl ?_; intro wS6 hSx6))
  have HV9 := Lib.hid hSx6.row
  have HBT : Hid (Below w6.heap.size w6 wS6) := Lib.hid (hSx6.below hBx6.be (Nat.le_refl _) hBx6.be.size)
  have HJ9 := Lib.hid (HJ6.out.bel HBT.out)
  have HJS9 := Lib.hid (HJS6.out.bel HBT.out)
  have HVV := Lib.hid (HV6.out.below HBT.out)
  have HB39 : Hid (Below w3.heap.size w3 wS6) := Lib.hid (HB36.out.trans (HBT.out.mono HB36.out.size))
  obtain ⟨g9, hg9⟩ : ∃ g, w6.heap.size = g := ⟨_, rfl⟩
  rw [hg9] at HV9 ⊢
  clear hBx6 hSx6 hg9 HBT HJ6 HJS6 HV6 HB36
  have hm := (HM3.out.below HB39.out).string
  have hv := (HX.out.below (HB3.out.trans (HB39.out.mono HB3.out.size))).string
  have hsp : wS6.cell? ⟨gm, om + l.length, none⟩ = _ := (HB39.out.cell (p := ⟨gm, om + l.length, none⟩) HGM.out.2).trans HS3.out
  have hcl1 : ((l.length + 1 : Nat) : Int) ≤ (cm : Int) := by omega
  have hwr : IntKind.i64.wrap ((l.length : Int) + 1) = (l.length : Int) + 1 := IntWalk.i64_in _ (by have := HL.out; omega)
  have k0 : wS6.cell? ⟨g4, 0, none⟩ = some (.int .i64 r.1.kind) := HVV.out.cell 0 _ rfl
  have q0 : wS6.cell? ⟨g9, 0, none⟩ = some (.int .i64 r6.1.kind) := HV9.out.cell 0 _ rfl
  have k1 : wS6.cell? ⟨g4, 1, none⟩ = some (.bool r.1.b) := HVV.out.cell 1 _ rfl
  have q1 : wS6.cell? ⟨g9, 1, none⟩ = some (.bool r6.1.b) := HV9.out.cell 1 _ rfl
  have k2 : wS6.cell? ⟨g4, 2, none⟩ = some (.bool r.1.n.neg) := HVV.out.cell 2 _ rfl
  have q2 : wS6.cell? ⟨g9, 2, none⟩ = some (.bool r6.1.n.neg) := HV9.out.cell 2 _ rfl
  have k3 : wS6.cell? ⟨g4, 3, none⟩ = some (.string ⟨r.1.n.digits.toArray⟩) := HVV.out.cell 3 _ rfl
  have q3 : wS6.cell? ⟨g9, 3, none⟩ = some (.string ⟨r6.1.n.digits.toArray⟩) := HV9.out.cell 3 _ rfl
  have k4 : wS6.cell? ⟨g4, 4, none⟩ = some (.int .i64 r.1.n.exp) := HVV.out.cell 4 _ rfl
  have q4 : wS6.cell? ⟨g9, 4, none⟩ = some (.int .i64 r6.1.n.exp) := HV9.out.cell 4 _ rfl
  have k5 : wS6.cell? ⟨g4, 5, none⟩ = some (.string ⟨r.1.t.toArray⟩) := HVV.out.cell 5 _ rfl
  have q5 : wS6.cell? ⟨g9, 5, none⟩ = some (.string ⟨r6.1.t.toArray⟩) := HV9.out.cell 5 _ rfl
  have k6 : wS6.cell? ⟨g4, 6, none⟩ = some (r.2.1) := HVV.out.cell 6 _ rfl
  have q6 : wS6.cell? ⟨g9, 6, none⟩ = some (r6.2.1) := HV9.out.cell 6 _ rfl
  have k7 : wS6.cell? ⟨g4, 7, none⟩ = some (r.2.2) := HVV.out.cell 7 _ rfl
  have q7 : wS6.cell? ⟨g9, 7, none⟩ = some (r6.2.2) := HV9.out.cell 7 _ rfl
  go_wp2_with fail
  refine (sameR_calls HJS9.out _ r6 wS6 (Below.refl _ _) HJ9.out).mono ?_
  rintro e w7 ⟨bb, rfl, hbb, hb7⟩
  obtain rfl : bb = true := hbb.2 (by rw [HR.out, HR6.out])
  have HB7 : Hid (Below w.heap.size w w7) := Lib.hid (HB3.out.trans ((HB39.out.trans (hb7.mono HB39.out.size)).mono HB3.out.size))
  clear hbb hb7 hm hv hsp hwr hcl1
  clear k0 q0
  clear k1 q1
  clear k2 q2
  clear k3 q3
  clear k4 q4
  clear k5 q5
  clear k6 q6
  clear k7 q7
  go_wp2_with fail
  refine (num_calls _ w7).mono ?_
  rintro e wq ⟨rfl, rfl⟩
  go_wp2_with fail
  refine (works_calls w7 (He.out.below HB7.out (Nat.le_refl _))).mono ?_
  rintro e wz ⟨rfl, hbz⟩
  have HBZ := Lib.hid (HB7.out.trans (hbz.mono HB7.out.size))
  clear hbz
  go_wp2_with fail
  go_ret
  exact ⟨rfl, HBZ.out⟩
open Go.ChangeShapes Go.WideShapes Go.ChangeAt Go.RowKit
open Go.ChangeMaps (open_string shut_string)
theorem jtexts_laid : Rows.jSONTextsRow.laid = laidAll := by rfl
theorem jtexts_contract (H : Type) (enc : TypeId × Value → H) (W : World) (base : Nat) (args : Array Value) (ds gs : List (DataW H)) (before : List MemPlace)
  (hval : ∀ (j : Nat) t v, Tryz.f3.params[j]? = some t → args[j]? = some v → Value.okWide Tryz.prog W .any base t v)
  (hW : DataW.Whole enc Tryz.prog Tryz.f3.params.toList Rows.jSONTextsSpec.vars false W args.toList ds gs before) (hL : laidMetH Tryz.prog laidAll W) (hsh : W.ShapedOpen Tryz.prog) :
  Calls Tryz.prog 3 args W fun e W' => ∃ v, e = .returned v ∧ Rows.jSONTextsSpec.post enc Tryz.prog Tryz.f3 false true false false W args v W' := by
 have hW' := hW
 obtain ⟨p, q, hA0, hV, rfl, hfz, hnd⟩ := hW
 have hA : DataW.TrodAll enc Tryz.prog W 0 (fun _ => true) true Tryz.f3.params.toList args.toList ds p := hA0
 rw [Tryz.params3] at hA hval
 obtain ⟨v0, vs0, d0, ds0, p0, q0, hargs, rfl, rfl, h0, r0⟩ := trodAll_cons hA
 obtain ⟨rfl, rfl, rfl⟩ := trodAll_nil r0
 obtain rfl : args = #[v0] := by cases args; simp_all
 obtain ⟨rfl, rfl⟩ := trodVars_none hV
 have hlt0 : ∀ x ∈ p0, x.block < W.heap.size := fun x hx => by have h9 := hW'.lt x (by simp [hx]); simpa using h9
 obtain ⟨l0, hx0⟩ := open_byts (hval 0 22 v0 rfl rfl) h0
 clear hA0
 refine (jtexts_calls W (env_of hL hsh) v0 l0 hx0).mono fun e W' ⟨he, hb⟩ => ?_
 subst he
 exact ⟨_, rfl, _, _, _, [], _, [], hW', trodAll_cons_mk (shut_bool Tryz.underlying4 _) trodAll_mk0, trodAll_cons_mk (Below.trod laid_out (by kernel_rfl) (of_decide_eq_true (by kernel_rfl)) h0 hb hlt0) (trodAll_mk0), rfl, hb.frame _, fun h => by cases h⟩
def jtextsArgs : Array Value := #[.slice none 0 0]
theorem jtexts_reads (os : Os) {H : Type} (enc : TypeId × Value → H) : ∃ places, DataW.whole enc Tryz.prog ((laidWorld os).forCall (fun _ _ => 0) ⟨#[], jtextsArgs, []⟩).memory Tryz.f3.params.toList Rows.jSONTextsSpec.vars false jtextsArgs.toList 8 = some ([.nil], [], places) :=
 ⟨[], by kernel_rfl⟩
theorem jtexts_lifted (os : Os) (started : os.Started) (H : Type) (enc : TypeId × Value → H) (F : Stop.Interp) :
  ReturnsInHanded {} Tryz.checked os 3 .any ((OpenSpec.ofChange Rows.jSONTextsSpec).preRow enc Tryz.prog Tryz.f3 Rows.jSONTextsRow.domain false Rows.jSONTextsRow.laid) (((OpenSpec.ofChange Rows.jSONTextsSpec).at F).post enc Tryz.prog Tryz.f3 false true false false) := by
 obtain ⟨places, hx⟩ := jtexts_reads os enc
 refine returnsInHanded_of_row (C := Tryz.checked) (s := OpenSpec.ofChange Rows.jSONTextsSpec) frmOwn started (by kernel_rfl) Tryz.func3
  (witness_zip (enc := enc) (C := Tryz.checked) false (laidWorld os) jtextsArgs (laid_os os) (laid_shaped os _) (by kernel_rfl)
   (OpenSpec.preRow_of_cond 8 hx (by kernel_rfl) (fun k hk => by cases hk) (by kernel_rfl) (laid_met os _))) ?_
 intro W base args ds gs before hval hW _ _ _ hL hsh _
 exact jtexts_contract H enc W base args ds gs before hval hW hL hsh
theorem jtexts_in : (Rows.jSONTextsRow.inPlace == Tryz.pinned.checked.prog.inPlace 3) = true := by kernel_rfl
theorem jtexts_un : (Rows.jSONTextsRow.unfollowed == Tryz.pinned.checked.prog.unfollowed 3) = true := by kernel_rfl
theorem jtexts_re : (Rows.jSONTextsRow.recurses == Tryz.pinned.checked.prog.recurses 3) = true := by kernel_rfl
theorem jtexts_na : (Rows.jSONTextsRow.named == Tryz.pinned.checked.prog.varsNamed 3) = true := by kernel_rfl
theorem jtexts_facts : joinedFacts Tryz.pinned.checked.prog 3 Tryz.f3 (OpenSpec.ofChange Rows.jSONTextsSpec).bare Rows.jSONTextsRow = true := by
 unfold joinedFacts
 rw [jtexts_in, jtexts_un, jtexts_re, jtexts_na]
 kernel_rfl
theorem jtexts_said : Rows.JSONTextsSaid :=
 OpenClaim.holds_of_cond 3 Tryz.f3 rfl rfl rfl rfl rfl rfl rfl ⟨rfl, rfl, rfl, rfl, rfl⟩ rfl rfl rfl rfl rfl (by kernel_rfl) Tryz.func3 jtexts_facts
  (of_decide_eq_true (by as_aux_lemma => kernel_rfl)) (by unfold Func.isWrapper; first | (rw [if_pos (by decide +kernel)]; kernel_rfl) | (rw [if_neg (by decide +kernel)]; exact ⟨rfl, rfl⟩))
  (fun os started H enc _ F => by rw [OpenClaim.pre_eq_preRow]; exact jtexts_lifted os started H enc F)
theorem jtexts_plain (f : FuncId) (fn : Func) (hf : Tryz.pinned.checked.prog.funcNamed "lexicon/lexiconlaw08.JSONTexts" = some f) (hfn : Tryz.pinned.checked.prog.funcs[f]? = some fn) :
  true = Tryz.pinned.checked.prog.looks [] ∧ ∀ (j : Nat) t, fn.params[j]? = some t → Tryz.pinned.checked.prog.wantsStandIn t = false := by
 obtain rfl : f = 3 := Option.some.inj ((show Tryz.prog.funcNamed "lexicon/lexiconlaw08.JSONTexts" = some 3 by kernel_rfl).symm.trans hf) |>.symm
 obtain rfl : fn = Tryz.f3 := (Option.some.inj (Tryz.func3.symm.trans hfn)).symm
 refine ⟨by kernel_rfl, fun j t ht => ?_⟩
 rw [Tryz.params3] at ht
 have : t = 22 := by simpa using Array.mem_of_getElem? ht
 subst this
 exact (show Tryz.prog.wantsStandIn 22 = false by kernel_rfl)
theorem jSONTexts_proved : Rows.JSONTextsCardSaid :=
 Claim7.holds_tied_plain_at .later [] _ _ _ _ jtexts_said (fun _ h => by cases h) (by kernel_rfl) (fun _ h => by cases h) jSONTexts_row_tie rfl ⟨rfl, rfl⟩ (by kernel_rfl) rfl jtexts_plain (by kernel_rfl)
end Go.Proofs.YtfclfaidmipjpaaGreatDoor
