/- The walk of the reference's Sum: over any world. -/
import Derived.Test.YtkakmjdfecbhaaaGreatDoorRef11
namespace Go.Proofs.YtkakmjdfecbhaaaGreatDoor
open Go.RowKit

theorem upS_le {e : Int} (he : -1000 ≤ e) (n : Nat) (hn : n = 3000) : ∀ ds : List Dec, mayAll ds = true → upS e ds ≤ ds.length * 10 ^ n ∧ dnS e ds ≤ ds.length * 10 ^ n := by
  intro ds
  induction ds with
  | nil => intro _; simp [upS, dnS]
  | cons d l ih =>
    intro h
    simp only [mayAll, List.all_cons, Bool.and_eq_true] at h
    obtain ⟨h1, h2⟩ := ih h.2
    have h3 := mag_lt h.1 he
    rw [← hn] at h3
    simp only [upS, dnS, List.length_cons, Nat.add_mul, Nat.one_mul]
    cases d.neg <;> simp <;> omega
theorem many_lt (u j n : Nat) (h : u ≤ j * 10 ^ n) : u < 10 ^ (j + n) := by
  rw [Nat.pow_add]
  exact Nat.lt_of_le_of_lt h (Nat.mul_lt_mul_of_pos_right (Nat.lt_pow_self (by omega)) (Nat.pow_pos (by omega)))
theorem mayAll_take {ds : List Dec} (h : mayAll ds = true) (j : Nat) : mayAll (ds.take j) = true := by
  simp only [mayAll, List.all_eq_true] at h ⊢
  exact fun x hx => h x (List.mem_of_mem_take hx)
theorem mayAll_get {ds : List Dec} (h : mayAll ds = true) (j : Nat) (hj : j < ds.length) : mayB (dget ds j) = true := by
  have e : dget ds j = ds[j] := by simp [dget, hj]
  rw [e]
  simp only [mayAll, List.all_eq_true] at h
  exact h _ (List.getElem_mem hj)

set_option maxHeartbeats 4000000 in
set_option maxRecDepth 100000 in
theorem sumR_calls (w : World) (v : Value) (ds : List Dec) (h : DecsAt w v ds) (hm : mayAll ds = true) (hlen : ds.length ≤ 1000000) :
    Calls Tryz.prog 10 #[v] w fun e w' => e = .returned (.tuple #[DecV (sumS ds).1, .int .i64 (sumS ds).2]) ∧ Below w.heap.size w w' := by
  obtain ⟨he1, he2, he3⟩ := least_get hm
  have hz := DecAt.at w Dec.zero _ rfl
  have hbz : Below w.heap.size w (w.alloc (Obj.cells #[Value.bool false, Value.string { data := #[] }, Value.int IntKind.i64 0] 24)) := (Below.refl _ _).alloc (Nat.le_refl _) _
  have hr : Hid (sumS ds = madeS (totN ds) (digS (totV ds)) (leastS ds)) := by show sumS ds = _; unfold sumS; rw [if_pos hm]
  have h1 := h.below hbz
  obtain ⟨p, cap, rfl, hcap, hcap2, hdl, hcell⟩ := h1
  clear h
  have Hcell := Lib.hid hcell
  have Hz := Lib.hid hz
  have He3 := Lib.hid he3
  have Hm := Lib.hid hm
  clear hcell hdl hz he3 hm
  go_enter Tryz.func10, Tryz.ntmps10
  go_wp2_with fail
  have Hz2 : Hid (DecAt (w.alloc (Obj.cells #[Value.bool false, Value.string { data := #[] }, Value.int IntKind.i64 0] 24)) w.heap.size Dec.zero) := Hz.out
  clear Hz
  generalize w.alloc (Obj.cells #[Value.bool false, Value.string { data := #[] }, Value.int IntKind.i64 0] 24) = w1 at *
  go_loopg [4, 5] ds.length (fun k x i wr => ∃ j : Nat, k = ds.length - j ∧ j ≤ ds.length ∧ i = .int .i64 j ∧ x = .int .i64 (leastS (ds.take j)) ∧ w1 = wr)
  case atStart => exact ⟨0, rfl, by omega, rfl, rfl, rfl⟩
  case round =>
    obtain ⟨j, hk, hj, rfl, rfl, rfl⟩ := hrel
    have Hk := Lib.hid hk
    clear hk
    by_cases hlt : j < ds.length
    · have hlt' : (j : Int) < ds.length := by omega
      obtain ⟨b, off, rfl, hb, hcc⟩ := Hcell.out (by omega)
      obtain ⟨a1, a2, a3⟩ := hcc j hlt
      have hts := leastS_snoc (ds.take j) (dget ds j)
      rw [← take_dget ds j hlt] at hts
      have Hts := Lib.hid hts
      clear a1 a2 hcc hts
      generalize dget ds j = d at *
      generalize leastS (ds.take j) = lx at *
      go_wp2_with fail
      go_roundg (ds.length - (j + 1))
      case measure => have := Hk.out; omega
      case rel => exact ⟨j + 1, rfl, by omega, by go_num, by rw [Hts.out], rfl⟩
    · have hlt' : ¬ (j : Int) < ds.length := by omega
      obtain rfl : j = ds.length := by omega
      rw [List.take_of_length_le (Nat.le_refl _)]
      generalize hle : leastS ds = le at *
      have Hle := Lib.hid hle
      clear hle
      obtain ⟨nn, hnn⟩ : ∃ nn : Nat, nn = 3000 := ⟨_, rfl⟩
      have hul := fun k => upS_le he1 nn hnn (ds.take k) (mayAll_take Hm.out k)
      have Hul := Lib.hid hul
      have hnn9 : nn ≤ 3000 := by omega
      clear hul hnn hlt hlt' hj Hk
      go_wp2_with fail
      have hb0 := Below.refl w1.heap.size w1
      go_loopg [6, 7, 8] ds.length (fun k up dn i wr => ∃ j : Nat, k = ds.length - j ∧ j ≤ ds.length ∧ i = .int .i64 j ∧ up = .string ⟨(digS (upS le (ds.take j))).toArray⟩ ∧ dn = .string ⟨(digS (dnS le (ds.take j))).toArray⟩ ∧ Below w1.heap.size w1 wr)
      case atStart => exact ⟨0, rfl, by omega, rfl, rfl, rfl, hb0⟩
      case round =>
        obtain ⟨j, hk, hj, rfl, rfl, rfl, hbel⟩ := hrel
        have Hk := Lib.hid hk
        clear hk hb0
        have hl1 := Hul.out j
        have hjl : (ds.take j).length ≤ ds.length := by simp; omega
        have hlu := digS_len_le (many_lt _ _ _ hl1.1)
        have hld := digS_len_le (many_lt _ _ _ hl1.2)
        have hlu9 : (digS (upS le (ds.take j))).length ≤ 1003000 := by omega
        have hld9 : (digS (dnS le (ds.take j))).length ≤ 1003000 := by omega
        clear hl1 hlu hld hjl
        by_cases hlt : j < ds.length
        · have hlt' : (j : Int) < ds.length := by omega
          obtain ⟨b, off, rfl, hb, hcc⟩ := Hcell.out (by omega)
          obtain ⟨a1, a2, a3⟩ := hcc j hlt
          have c1 := (hbel.cell (p := ⟨b, off + j * 3, none⟩) hb).trans a1
          have c2 := (hbel.cell (p := ⟨b, off + j * 3 + 1, none⟩) hb).trans a2
          have c3 := (hbel.cell (p := ⟨b, off + j * 3 + 2, none⟩) hb).trans a3
          have hmd := mayAll_get Hm.out j hlt
          obtain ⟨g1, g2, g3, g4⟩ := may_bounds hmd
          have hle3 := He3.out j hlt
          have hus := upS_snoc le (ds.take j) (dget ds j)
          have hds := dnS_snoc le (ds.take j) (dget ds j)
          rw [← take_dget ds j hlt] at hus hds
          have hml := mag_lt hmd he1
          have hmgl := digS_len_le hml
          have Hus := Lib.hid hus
          have Hds := Lib.hid hds
          clear a1 a2 a3 hcc hus hds hmd hml
          generalize dget ds j = d at *
          have hu1 := digS_dig (upS le (ds.take j))
          have hd1 := digS_dig (dnS le (ds.take j))
          have hm1 := digS_dig (mag d le)
          have Hu1 := Lib.hid hu1
          have Hd1 := Lib.hid hd1
          have Hm1 := Lib.hid hm1
          clear hu1 hd1 hm1
          by_cases hng : d.neg = true
          · have Hng := Lib.hid hng
            rw [hng] at c1
            have Hsc : Hid (∀ W : World, Calls Tryz.prog 33 #[.agg #[.bool true, .string ⟨d.digits.toArray⟩, .int .i64 d.exp], .int .i64 le] W fun e w' => e = .returned (.string ⟨(digS (mag d le)).toArray⟩) ∧ Below W.heap.size W w') := fun W => by
              have h9 := scaledR_calls W d le g1 (by omega) hle3 (by omega) (by omega)
              rw [hng] at h9
              exact h9
            clear hng
            go_wp2_with fail
            refine (Hsc.out _).mono ?_
            rintro e w2 ⟨rfl, hb2⟩
            go_wp2_with fail
            refine (addR_calls _ (digS (dnS le (ds.take j))) (digS (mag d le)) Hd1.out.1 Hm1.out.1 (by omega) (by omega)).mono ?_
            rintro e w3 ⟨rfl, hb3⟩
            rw [Hd1.out.2.1, Hm1.out.2.1]
            have hbn := (hbel.trans (hb2.mono hbel.size)).trans (hb3.mono (Nat.le_trans hbel.size hb2.size))
            clear hbel hb2 hb3 c1 c2 c3
            go_wp2_with fail
            go_roundg (ds.length - (j + 1))
            case measure => have := Hk.out; omega
            case rel =>
              have e1 : upS le (ds.take (j + 1)) = upS le (ds.take j) := by rw [Hus.out, if_pos Hng.out]; omega
              have e2 : dnS le (ds.take (j + 1)) = dnS le (ds.take j) + mag d le := by rw [Hds.out, if_pos Hng.out]
              exact ⟨j + 1, rfl, by omega, by go_num, by rw [e1], by rw [e2], hbn⟩
          · have hng2 : d.neg = false := by simpa using hng
            have Hng := Lib.hid hng2
            rw [hng2] at c1
            have Hsc : Hid (∀ W : World, Calls Tryz.prog 33 #[.agg #[.bool false, .string ⟨d.digits.toArray⟩, .int .i64 d.exp], .int .i64 le] W fun e w' => e = .returned (.string ⟨(digS (mag d le)).toArray⟩) ∧ Below W.heap.size W w') := fun W => by
              have h9 := scaledR_calls W d le g1 (by omega) hle3 (by omega) (by omega)
              rw [hng2] at h9
              exact h9
            clear hng hng2
            go_wp2_with fail
            refine (Hsc.out _).mono ?_
            rintro e w2 ⟨rfl, hb2⟩
            go_wp2_with fail
            refine (addR_calls _ (digS (upS le (ds.take j))) (digS (mag d le)) Hu1.out.1 Hm1.out.1 (by omega) (by omega)).mono ?_
            rintro e w3 ⟨rfl, hb3⟩
            rw [Hu1.out.2.1, Hm1.out.2.1]
            have hbn := (hbel.trans (hb2.mono hbel.size)).trans (hb3.mono (Nat.le_trans hbel.size hb2.size))
            clear hbel hb2 hb3 c1 c2 c3
            go_wp2_with fail
            go_roundg (ds.length - (j + 1))
            case measure => have := Hk.out; omega
            case rel =>
              have e1 : upS le (ds.take (j + 1)) = upS le (ds.take j) + mag d le := by rw [Hus.out, if_neg (by rw [Hng.out]; exact Bool.false_ne_true)]
              have e2 : dnS le (ds.take (j + 1)) = dnS le (ds.take j) := by rw [Hds.out, if_neg (by rw [Hng.out]; exact Bool.false_ne_true)]; omega
              exact ⟨j + 1, rfl, by omega, by go_num, by rw [e1], by rw [e2], hbn⟩
        · have hlt' : ¬ (j : Int) < ds.length := by omega
          obtain rfl : j = ds.length := by omega
          rw [List.take_of_length_le (Nat.le_refl _)] at hlu9 hld9 ⊢
          have hl1 := Hul.out ds.length
          rw [List.take_of_length_le (Nat.le_refl _)] at hl1
          have Hlu := Lib.hid (many_lt _ _ _ hl1.1)
          have Hld := Lib.hid (many_lt _ _ _ hl1.2)
          have hr2 : sumS ds = if upS le ds < dnS le ds then madeS true (digS (dnS le ds - upS le ds)) le else madeS false (digS (upS le ds - dnS le ds)) le := by
            rw [hr.out]
            have hle0 := Hle.out
            by_cases hc : upS le ds < dnS le ds
            · obtain ⟨t1, t2⟩ := totN_true (ds := ds) (by rw [hle0]; exact hc)
              rw [t1, t2, hle0, if_pos hc]
            · obtain ⟨t1, t2⟩ := totN_false (ds := ds) (by rw [hle0]; exact hc)
              rw [t1, t2, hle0, if_neg hc]
          have Hr2 := Lib.hid hr2
          have Hu1 := Lib.hid (digS_dig (upS le ds))
          have Hd1 := Lib.hid (digS_dig (dnS le ds))
          clear hl1 hr2 hr Hul He3 Hm Hcell
          generalize upS le ds = u at *
          generalize dnS le ds = dn at *
          have hzr := Hz2.out.under hbel
          have hne : wr.heap.size ≠ w.heap.size := Nat.ne_of_gt hzr.lt
          have hgw : w.heap.size ≤ wr.heap.size := Nat.le_of_lt hzr.lt
          have Hzr := Lib.hid (hzr.alloc (Obj.cells #[Value.bool false, Value.string { data := #[] }, Value.int IntKind.i64 0] 24))
          have Hgr := Lib.hid (DecAt.at wr Dec.zero _ rfl)
          have hbr := hbz.trans (hbel.mono hbz.size)
          have hba := hbr.alloc hbr.size (Obj.cells #[Value.bool false, Value.string { data := #[] }, Value.int IntKind.i64 0] 24)
          clear hzr hbr hbel Hz2 hbz
          by_cases hc : u < dn
          · have hHr : Hid (sumS ds = madeS true (digS (dn - u)) le) := by show sumS ds = _; rw [Hr2.out, if_pos hc]
            have hcv : ¬ 0 ≤ cmpN (dval (digS u)) (dval (digS dn)) := by
              rw [Hu1.out.2.1, Hd1.out.2.1, cmpN_ge]; omega
            have hle9 : dval (digS u) ≤ dval (digS dn) := by rw [Hu1.out.2.1, Hd1.out.2.1]; omega
            have Hle9 := Lib.hid hle9
            have Hcv := Lib.hid hcv
            clear hc hcv hle9 Hr2
            go_wp2_with fail
            refine (cmpR_calls _ (digS u) (digS dn) Hu1.out.1 Hd1.out.1 Hu1.out.2.2 Hd1.out.2.2).mono ?_
            rintro e w2 ⟨rfl, rfl⟩
            have hcv := Hcv.out
            generalize cmpN (dval (digS u)) (dval (digS dn)) = cv at *
            clear Hcv
            go_wp2_with fail
            refine (subR_calls _ (digS dn) (digS u) Hd1.out.1 Hu1.out.1 (by omega) (by omega) Hle9.out).mono ?_
            rintro e w3 ⟨rfl, hb3⟩
            rw [Hu1.out.2.1, Hd1.out.2.1]
            have hsl := digS_len_le (Nat.lt_of_le_of_lt (Nat.sub_le dn u) Hld.out)
            go_wp2_with fail
            refine (madeR_calls _ true (digS (dn - u)) le (by omega) (by omega) (by omega)).mono ?_
            rintro e w4 ⟨⟨x, bb, rfl, hx⟩, hb4⟩
            simp only [DecV]
            have hz4 := Lib.hid ((Hzr.out.under hb3).under hb4)
            have hg4 := (Hgr.out.under hb3).under hb4
            have hbe4 := (hba.trans (hb3.mono hba.size)).trans (hb4.mono (Nat.le_trans hba.size hb3.size))
            have z0 := hg4.c0
            have z1 := hg4.c1
            have z2 := hg4.c2
            have y0 := hg4.f0
            have y1 := hg4.f1
            have y2 := hg4.f2
            have Hg5 := Lib.hid (hg4.put x)
            have Hz5 := Lib.hid (hz4.out.far3 hne x)
            have hbe5 := below_putDec hbe4 hgw x
            simp only [Dec.zero] at z0 z1 z2
            clear hg4 hz4 hb3 hb4 hba Hzr Hgr hbe4
            have Hx := Lib.hid hx
            clear hx
            go_upto_region 17 with fail
            have c0 := Hz5.out.c0
            have c1 := Hz5.out.c1
            have c2 := Hz5.out.c2
            have f0 := Hz5.out.f0
            have f1 := Hz5.out.f1
            have f2 := Hz5.out.f2
            have x0 := Hg5.out.c0
            have x1 := Hg5.out.c1
            have x2 := Hg5.out.c2
            clear z0 z1 z2 y0 y1 y2 Hz5 Hg5
            unfold putDec at c0 c1 c2 f0 f1 f2 x0 x1 x2 hbe5
            simp only [Dec.zero] at c0 c1 c2
            generalize ((w4.setCell ⟨wr.heap.size, 0, none⟩ (.bool x.neg)).setCell ⟨wr.heap.size, 1, none⟩ (.string ⟨x.digits.toArray⟩)).setCell ⟨wr.heap.size, 2, none⟩ (.int .i64 x.exp) = wp at *
            cases bb with
            | true =>
              have HP : Hid (sumS ds = (x, 0)) := by
                rcases Hx.out with ⟨_, h⟩ | ⟨h, _⟩
                · show sumS ds = _; rw [hHr.out, h]
                · cases h
              clear Hx hHr
              have hbf := ((hbe5.setCell (p := ⟨w.heap.size, 0, none⟩) (Nat.le_refl _) (.bool x.neg)).setCell (p := ⟨w.heap.size, 1, none⟩) (Nat.le_refl _) (.string ⟨x.digits.toArray⟩)).setCell (p := ⟨w.heap.size, 2, none⟩) (Nat.le_refl _) (.int .i64 x.exp)
              go_wp2_with fail
              refine bodyPost_ret (v := .tuple #[.agg #[.bool x.neg, .string ⟨x.digits.toArray⟩, .int .i64 x.exp], .int .i64 0]) (by simp [results, Tryz.results10, go_sem, c0, c1, c2]) rfl ?_
              rw [HP.out]
              exact ⟨rfl, hbf⟩
            | false =>
              have HP : Hid (sumS ds = (Dec.zero, 4)) := by
                rcases Hx.out with ⟨h, _⟩ | ⟨_, h⟩
                · cases h
                · show sumS ds = _; rw [hHr.out, h]
              clear Hx hHr
              have hbf := ((hbe5.setCell (p := ⟨w.heap.size, 0, none⟩) (Nat.le_refl _) (.bool false)).setCell (p := ⟨w.heap.size, 1, none⟩) (Nat.le_refl _) (.string ⟨#[]⟩)).setCell (p := ⟨w.heap.size, 2, none⟩) (Nat.le_refl _) (.int .i64 0)
              go_wp2_with fail
              refine bodyPost_ret (v := .tuple #[.agg #[.bool false, .string ⟨#[]⟩, .int .i64 0], .int .i64 4]) (by simp [results, Tryz.results10, go_sem, c0, c1, c2]) rfl ?_
              rw [HP.out]
              exact ⟨rfl, hbf⟩
          · have hHr : Hid (sumS ds = madeS false (digS (u - dn)) le) := by show sumS ds = _; rw [Hr2.out, if_neg hc]
            have hcv : 0 ≤ cmpN (dval (digS u)) (dval (digS dn)) := by
              rw [Hu1.out.2.1, Hd1.out.2.1, cmpN_ge]; omega
            have hle9 : dval (digS dn) ≤ dval (digS u) := by rw [Hu1.out.2.1, Hd1.out.2.1]; omega
            have Hle9 := Lib.hid hle9
            have Hcv := Lib.hid hcv
            clear hc hcv hle9 Hr2
            go_wp2_with fail
            refine (cmpR_calls _ (digS u) (digS dn) Hu1.out.1 Hd1.out.1 Hu1.out.2.2 Hd1.out.2.2).mono ?_
            rintro e w2 ⟨rfl, rfl⟩
            have hcv := Hcv.out
            generalize cmpN (dval (digS u)) (dval (digS dn)) = cv at *
            clear Hcv
            go_wp2_with fail
            refine (subR_calls _ (digS u) (digS dn) Hu1.out.1 Hd1.out.1 (by omega) (by omega) Hle9.out).mono ?_
            rintro e w3 ⟨rfl, hb3⟩
            rw [Hu1.out.2.1, Hd1.out.2.1]
            have hsl := digS_len_le (Nat.lt_of_le_of_lt (Nat.sub_le u dn) Hlu.out)
            go_wp2_with fail
            refine (madeR_calls _ false (digS (u - dn)) le (by omega) (by omega) (by omega)).mono ?_
            rintro e w4 ⟨⟨x, bb, rfl, hx⟩, hb4⟩
            simp only [DecV]
            have hz4 := Lib.hid ((Hzr.out.under hb3).under hb4)
            have hg4 := (Hgr.out.under hb3).under hb4
            have hbe4 := (hba.trans (hb3.mono hba.size)).trans (hb4.mono (Nat.le_trans hba.size hb3.size))
            have z0 := hg4.c0
            have z1 := hg4.c1
            have z2 := hg4.c2
            have y0 := hg4.f0
            have y1 := hg4.f1
            have y2 := hg4.f2
            have Hg5 := Lib.hid (hg4.put x)
            have Hz5 := Lib.hid (hz4.out.far3 hne x)
            have hbe5 := below_putDec hbe4 hgw x
            simp only [Dec.zero] at z0 z1 z2
            clear hg4 hz4 hb3 hb4 hba Hzr Hgr hbe4
            have Hx := Lib.hid hx
            clear hx
            go_upto_region 17 with fail
            have c0 := Hz5.out.c0
            have c1 := Hz5.out.c1
            have c2 := Hz5.out.c2
            have f0 := Hz5.out.f0
            have f1 := Hz5.out.f1
            have f2 := Hz5.out.f2
            have x0 := Hg5.out.c0
            have x1 := Hg5.out.c1
            have x2 := Hg5.out.c2
            clear z0 z1 z2 y0 y1 y2 Hz5 Hg5
            unfold putDec at c0 c1 c2 f0 f1 f2 x0 x1 x2 hbe5
            simp only [Dec.zero] at c0 c1 c2
            generalize ((w4.setCell ⟨wr.heap.size, 0, none⟩ (.bool x.neg)).setCell ⟨wr.heap.size, 1, none⟩ (.string ⟨x.digits.toArray⟩)).setCell ⟨wr.heap.size, 2, none⟩ (.int .i64 x.exp) = wp at *
            cases bb with
            | true =>
              have HP : Hid (sumS ds = (x, 0)) := by
                rcases Hx.out with ⟨_, h⟩ | ⟨h, _⟩
                · show sumS ds = _; rw [hHr.out, h]
                · cases h
              clear Hx hHr
              have hbf := ((hbe5.setCell (p := ⟨w.heap.size, 0, none⟩) (Nat.le_refl _) (.bool x.neg)).setCell (p := ⟨w.heap.size, 1, none⟩) (Nat.le_refl _) (.string ⟨x.digits.toArray⟩)).setCell (p := ⟨w.heap.size, 2, none⟩) (Nat.le_refl _) (.int .i64 x.exp)
              go_wp2_with fail
              refine bodyPost_ret (v := .tuple #[.agg #[.bool x.neg, .string ⟨x.digits.toArray⟩, .int .i64 x.exp], .int .i64 0]) (by simp [results, Tryz.results10, go_sem, c0, c1, c2]) rfl ?_
              rw [HP.out]
              exact ⟨rfl, hbf⟩
            | false =>
              have HP : Hid (sumS ds = (Dec.zero, 4)) := by
                rcases Hx.out with ⟨h, _⟩ | ⟨_, h⟩
                · cases h
                · show sumS ds = _; rw [hHr.out, h]
              clear Hx hHr
              have hbf := ((hbe5.setCell (p := ⟨w.heap.size, 0, none⟩) (Nat.le_refl _) (.bool false)).setCell (p := ⟨w.heap.size, 1, none⟩) (Nat.le_refl _) (.string ⟨#[]⟩)).setCell (p := ⟨w.heap.size, 2, none⟩) (Nat.le_refl _) (.int .i64 0)
              go_wp2_with fail
              refine bodyPost_ret (v := .tuple #[.agg #[.bool false, .string ⟨#[]⟩, .int .i64 0], .int .i64 4]) (by simp [results, Tryz.results10, go_sem, c0, c1, c2]) rfl ?_
              rw [HP.out]
              exact ⟨rfl, hbf⟩
end Go.Proofs.YtkakmjdfecbhaaaGreatDoor
