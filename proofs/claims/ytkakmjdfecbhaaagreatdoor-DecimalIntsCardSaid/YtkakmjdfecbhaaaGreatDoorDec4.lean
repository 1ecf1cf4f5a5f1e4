/- The walks of total, Sum, Neg, Compare, Mul: over any world; up to 10^9 decimals. -/
import Derived.Test.YtkakmjdfecbhaaaGreatDoorDec3
import Derived.Test.YtkakmjdfecbhaaaGreatDoorDecM
namespace Go.Proofs.YtkakmjdfecbhaaaGreatDoor
open Go.RowKit

theorem mag_len {zs : List Nat} {n k : Nat} (_h : zs.length ≤ n) (h : n ≤ k) : zs.length ≤ k := by omega
theorem may_get {ds : List Dec} (h : mayAll ds = true) (j : Nat) (hj : j < ds.length) : mayB (dget ds j) = true := by
  have e : dget ds j = ds[j] := by simp [dget, hj]
  rw [e]
  simp only [mayAll, List.all_eq_true] at h
  exact h _ (List.getElem_mem hj)
theorem least_get {ds : List Dec} (h : mayAll ds = true) : -1000 ≤ leastS ds ∧ leastS ds ≤ 0 ∧ ∀ j, j < ds.length → leastS ds ≤ (dget ds j).exp := by
  refine ⟨leastS_ge ds _ (by omega) (fun d hd => ?_), (leastS_le ds).1, fun j hj => ?_⟩
  · simp only [mayAll, List.all_eq_true] at h
    exact (may_bounds (h d hd)).2.2.1
  · have e : dget ds j = ds[j] := by simp [dget, hj]
    rw [e]; exact (leastS_le ds).2 _ (List.getElem_mem hj)

set_option maxHeartbeats 4000000 in
set_option maxRecDepth 100000 in
theorem total_calls (w : World) (v : Value) (ds : List Dec) (h : DecsAt w v ds) (hm : mayAll ds = true) (hlen : ds.length ≤ 1000000000) :
    Calls Tryz.prog 29 #[v] w fun e w' => ∃ v' zs, e = .returned (.tuple #[.bool (totN ds), v', .int .i64 (leastS ds)]) ∧ NatV w' 0 v' zs ∧ Norm zs ∧
      val zs = totV ds ∧ zs.length ≤ 200000000 + ds.length ∧ Below w.heap.size w w' := by
  have hl := least_calls w v ds h
  obtain ⟨he1, he2, he3⟩ := least_get hm
  obtain ⟨p, cap, rfl, hcap, hcap2, hdl, hcell⟩ := h
  have Hcell := Lib.hid hcell
  have Hl := Lib.hid hl
  have He3 := Lib.hid he3
  have Hm := Lib.hid hm
  clear hcell hdl hl he3 hm
  have Htt := Lib.hid (@totN_true ds)
  have Htf := Lib.hid (@totN_false ds)
  generalize leastS ds = le at *
  go_enter Tryz.func29, Tryz.ntmps29
  go_wp2_with fail
  refine Hl.out.mono ?_
  rintro e w1 ⟨rfl, hb1⟩
  clear Hl
  go_wp2_with fail
  go_loopg [6, 7, 14] ds.length (fun k up dn i wr => ∃ (j : Nat) (us ns : List Nat), k = ds.length - j ∧ j ≤ ds.length ∧ i = .int .i64 j ∧ NatV wr 0 up us ∧ NatV wr 0 dn ns ∧ Norm us ∧ Norm ns ∧
    val us = upS le (ds.take j) ∧ val ns = dnS le (ds.take j) ∧ us.length ≤ 200000000 + j ∧ ns.length ≤ 200000000 + j ∧ Below w.heap.size w wr)
  case atStart => exact ⟨0, [], [], rfl, by omega, rfl, NatV.nil _ _, NatV.nil _ _, Norm_nil, Norm_nil, rfl, rfl, by simp, by simp, hb1⟩
  case round =>
    obtain ⟨j, us, ns, hk, hj, rfl, hus, hns, nu, nn, hvu, hvn, hlu, hln, hbel⟩ := hrel
    have Hk := Lib.hid hk
    have Hvu := Lib.hid hvu
    have Hvn := Lib.hid hvn
    clear hk hvu hvn
    by_cases hlt : j < ds.length
    · have hlt' : (j : Int) < ds.length := by omega
      obtain ⟨b, off, rfl, hb, hcc⟩ := Hcell.out (by omega)
      obtain ⟨a1, a2, a3⟩ := hcc j hlt
      have c1 := (hbel.cell (p := ⟨b, off + j * 3, none⟩) hb).trans a1
      have c2 := (hbel.cell (p := ⟨b, off + j * 3 + 1, none⟩) hb).trans a2
      have c3 := (hbel.cell (p := ⟨b, off + j * 3 + 2, none⟩) hb).trans a3
      have hmd := may_get Hm.out j hlt
      have hde := He3.out j hlt
      have hts := take_dget ds j hlt
      have hus2 := upS_snoc le (ds.take j) (dget ds j)
      have hns2 := dnS_snoc le (ds.take j) (dget ds j)
      rw [← hts] at hus2 hns2
      clear a1 a2 a3 hcc hts
      generalize dget ds j = d at *
      have hbn := fun o => hbel.alloc hbel.size o
      have hbs := hbel.size
      cases hneg : d.neg with
      | false =>
        rw [hneg] at hus2 hns2 c1
        simp only [Bool.false_eq_true, if_false] at hus2 hns2
        have Hu2 := Lib.hid hus2
        have Hn2 := Lib.hid hns2
        have Hneg := Lib.hid hneg
        clear hneg hus2 hns2
        go_wp2_with fail
        have hsc := scaled_calls (wr.alloc (Obj.cells #[Value.bool false, Value.string { data := d.digits.toArray }, Value.int IntKind.i64 d.exp] 24)) d le hmd hde (by omega)
        rw [Hneg.out] at hsc
        refine hsc.mono ?_
        rintro e w2 ⟨v2, zs, rfl, hv2, nz, hvz, hlz, hb2⟩
        have hb3 := (hbn (Obj.cells #[Value.bool false, Value.string { data := d.digits.toArray }, Value.int IntKind.i64 d.exp] 24)).trans (hb2.mono (by simp; omega))
        have Hvz := Lib.hid hvz
        clear hsc hvz
        go_wp2_with fail
        refine (add_calls w2 0 0 _ _ us zs ((hus.alloc _).below hb2) hv2 nu.1 nz.1 (by omega) (by omega)).mono ?_
        rintro e w3 ⟨v3, ys, rfl, hv3, ny, hvy, hly, hb4⟩
        have hb2s := hb2.size
        simp only [World.size_alloc] at hb2s
        have Hvy := Lib.hid hvy
        clear hvy
        go_wp2_with fail
        go_roundg (ds.length - (j + 1))
        case measure => have := Hk.out; omega
        case rel =>
          refine ⟨j + 1, ys, ns, rfl, by omega, by go_num, hv3.le (by omega), ((hns.alloc _).below hb2).below hb4, ny, nn, ?_, ?_, by omega, by omega, hb3.trans (hb4.mono (by omega))⟩
          · rw [Hvy.out, Hvu.out, Hvz.out, Hu2.out]; rfl
          · rw [Hvn.out, Hn2.out]; rfl
      | true =>
        rw [hneg] at hus2 hns2 c1
        simp only [if_true] at hus2 hns2
        have Hu2 := Lib.hid hus2
        have Hn2 := Lib.hid hns2
        have Hneg := Lib.hid hneg
        clear hneg hus2 hns2
        go_wp2_with fail
        have hsc := scaled_calls (wr.alloc (Obj.cells #[Value.bool true, Value.string { data := d.digits.toArray }, Value.int IntKind.i64 d.exp] 24)) d le hmd hde (by omega)
        rw [Hneg.out] at hsc
        refine hsc.mono ?_
        rintro e w2 ⟨v2, zs, rfl, hv2, nz, hvz, hlz, hb2⟩
        have hb3 := (hbn (Obj.cells #[Value.bool true, Value.string { data := d.digits.toArray }, Value.int IntKind.i64 d.exp] 24)).trans (hb2.mono (by simp; omega))
        have Hvz := Lib.hid hvz
        clear hsc hvz
        go_wp2_with fail
        refine (add_calls w2 0 0 _ _ ns zs ((hns.alloc _).below hb2) hv2 nn.1 nz.1 (by omega) (by omega)).mono ?_
        rintro e w3 ⟨v3, ys, rfl, hv3, ny, hvy, hly, hb4⟩
        have hb2s := hb2.size
        simp only [World.size_alloc] at hb2s
        have Hvy := Lib.hid hvy
        clear hvy
        go_wp2_with fail
        go_roundg (ds.length - (j + 1))
        case measure => have := Hk.out; omega
        case rel =>
          refine ⟨j + 1, us, ys, rfl, by omega, by go_num, ((hus.alloc _).below hb2).below hb4, hv3.le (by omega), nu, ny, ?_, ?_, by omega, by omega, hb3.trans (hb4.mono (by omega))⟩
          · rw [Hvu.out, Hu2.out]; rfl
          · rw [Hvy.out, Hvn.out, Hvz.out, Hn2.out]; rfl
    · obtain rfl : j = ds.length := by omega
      have hu := Hvu.out
      have hn := Hvn.out
      rw [List.take_of_length_le (Nat.le_refl _)] at hu hn
      have Hu := Lib.hid hu
      have Hn := Lib.hid hn
      clear hu hn Hvu Hvn Hk
      go_wp2_with fail
      refine (cmp_calls wr 0 0 _ _ us ns hus hns nu nn).mono ?_
      rintro e w2 ⟨r, n, rfl, hr1, hr2, rfl⟩
      by_cases hr : r < 0
      · have hlt2 : val us < val ns := hr1.1 hr
        have hd := Htt.out (by rw [← Hu.out, ← Hn.out]; exact hlt2)
        have Hlt2 := Lib.hid hlt2
        have Hd := Lib.hid hd
        clear hr1 hr2 hd hlt2
        go_wp2_with fail
        refine (sub_calls (wr.drewN n) 0 0 _ _ ns us hns hus nn.1 nu (by omega) (by have := Hlt2.out; omega)).mono ?_
        rintro e w3 ⟨v3, ys, rfl, hv3, ny, hvy, hly, hb4⟩
        have Hvy := Lib.hid hvy
        clear hvy
        go_wp2_with fail
        go_ret3
        refine ⟨_, ys, ?_, hv3.le (Nat.zero_le _), ny, ?_, by omega, (below_drewN hbel n).trans (hb4.mono hbel.size)⟩
        · rw [Hd.out.1]; rfl
        · rw [Hd.out.2, ← Hu.out, ← Hn.out]; exact Hvy.out
      · have hlt2 : ¬ val us < val ns := fun h => hr (hr1.2 h)
        have hd := Htf.out (by rw [← Hu.out, ← Hn.out]; exact hlt2)
        have Hlt2 := Lib.hid hlt2
        have Hd := Lib.hid hd
        clear hr1 hr2 hd hlt2
        go_wp2_with fail
        refine (sub_calls (wr.drewN n) 0 0 _ _ us ns hus hns nu.1 nn (by omega) (by have := Hlt2.out; omega)).mono ?_
        rintro e w3 ⟨v3, ys, rfl, hv3, ny, hvy, hly, hb4⟩
        have Hvy := Lib.hid hvy
        clear hvy
        go_wp2_with fail
        go_ret3
        refine ⟨_, ys, ?_, hv3.le (Nat.zero_le _), ny, ?_, by omega, (below_drewN hbel n).trans (hb4.mono hbel.size)⟩
        · rw [Hd.out.1]; rfl
        · rw [Hd.out.2, ← Hu.out, ← Hn.out]; exact Hvy.out

theorem dig_short {ds : List UInt8} {zs : List Nat} (hd : Dig ds) (ht : trim0 ds = ds) (hz : Ok zs) (h : dval ds = val zs) : ds.length ≤ 9 * zs.length := by
  cases ds with
  | nil => simp
  | cons c t =>
    have h1 := dval_low hd (trim0_head ht)
    have h2 := val_lt hz
    have h3 : base ^ zs.length = 10 ^ (9 * zs.length) := by
      have : base = 10 ^ 9 := by rw [base_eq]
      rw [this, ← Nat.pow_mul]
    have h4 : 10 ^ t.length < 10 ^ (9 * zs.length) := by omega
    have := (Nat.pow_lt_pow_iff_right (a := 10) (by omega)).1 h4
    simp; omega
/-- The digits of a number, told by nat.digits, as the words' own. -/
theorem digits_of (w : World) (B1 : Nat) (va : Value) (xs : List Nat) (n : Nat) (ha : NatV w B1 va xs) (oka : Ok xs) (la : xs.length ≤ 1000000000) (hn : val xs = n) :
    Calls Tryz.prog 31 #[va] w fun e w' => e = .returned (.string ⟨(digS n).toArray⟩) ∧ (digS n).length ≤ 9 * xs.length ∧ Below w.heap.size w w' := by
  refine (digits_calls w B1 va xs ha oka la).mono ?_
  rintro e w1 ⟨ds, rfl, h1, h2, h3, h4⟩
  have e1 := digS_eq h1 h2 n (by rw [h3, hn])
  rw [← e1]
  exact ⟨rfl, dig_short h1 h2 oka h3, h4⟩
end Go.Proofs.YtkakmjdfecbhaaaGreatDoor
