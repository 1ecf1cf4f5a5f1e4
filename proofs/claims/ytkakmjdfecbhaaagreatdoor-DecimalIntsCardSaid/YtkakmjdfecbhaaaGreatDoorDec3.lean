/- The walks of checked, least, scaled: over any world in which the decimals lie in a slice. -/
import Derived.Test.YtkakmjdfecbhaaaGreatDoorDec2
import Derived.Deep.RegionHeld3
import Derived.IntWalk
namespace Go.Proofs.YtkakmjdfecbhaaaGreatDoor
open Go.RowKit

/-- v is a slice that reads as these decimals. -/
def DecsAt (w : World) (v : Value) (ds : List Dec) : Prop :=
  ∃ p cap, v = .slice p ds.length cap ∧ ds.length ≤ cap ∧ ds.length ≤ 1000000000000 ∧ (∀ j, j < ds.length → (dget ds j).digits.length ≤ 10000000000) ∧ (0 < ds.length → ∃ b off, p = some ⟨b, off, none⟩ ∧ b < w.heap.size ∧
    ∀ j, j < ds.length → w.cell? ⟨b, off + j * 3, none⟩ = some (.bool (dget ds j).neg) ∧ w.cell? ⟨b, off + j * 3 + 1, none⟩ = some (.string ⟨(dget ds j).digits.toArray⟩) ∧ w.cell? ⟨b, off + j * 3 + 2, none⟩ = some (.int .i64 (dget ds j).exp))
theorem DecsAt.below {w w' : World} {v : Value} {ds : List Dec} (h : DecsAt w v ds) (hb : Below w.heap.size w w') : DecsAt w' v ds := by
  obtain ⟨p, cap, h1, h2, h2', h2'', h3⟩ := h
  refine ⟨p, cap, h1, h2, h2', h2'', fun hp => ?_⟩
  obtain ⟨b, off, h4, h5, h6⟩ := h3 hp
  refine ⟨b, off, h4, Nat.lt_of_lt_of_le h5 hb.size, fun j hj => ?_⟩
  obtain ⟨a1, a2, a3⟩ := h6 j hj
  exact ⟨(hb.cell (p := ⟨b, off + j * 3, none⟩) h5).trans a1, (hb.cell (p := ⟨b, off + j * 3 + 1, none⟩) h5).trans a2, (hb.cell (p := ⟨b, off + j * 3 + 2, none⟩) h5).trans a3⟩

theorem checked_calls (w : World) (v : Value) (ds : List Dec) (h : DecsAt w v ds) :
    Calls Tryz.prog 28 #[v] w fun e w' => e = .returned (.int .i64 (chkAll ds)) ∧ Below w.heap.size w w' := by
  obtain ⟨p, cap, rfl, hcap, hcap2, hdl, hcell⟩ := h
  have Hcell := Lib.hid hcell
  clear hcell
  go_enter Tryz.func28, Tryz.ntmps28
  go_wp2
  go_loopg [7] ds.length (fun k i wr => ∃ j : Nat, k = ds.length - j ∧ j ≤ ds.length ∧ i = .int .i64 j ∧ mayAll (ds.take j) = true ∧ Below w.heap.size w wr)
  case atStart => exact ⟨0, rfl, by omega, rfl, rfl, Below.refl _ _⟩
  case round =>
    obtain ⟨j, hk, hj, rfl, hm, hbel⟩ := hrel
    have Hk := Lib.hid hk
    have Hm := Lib.hid hm
    clear hk hm
    by_cases hlt : j < ds.length
    · have hlt' : (j : Int) < ds.length := by omega
      obtain ⟨b, off, rfl, hb, hcc⟩ := Hcell.out (by omega)
      obtain ⟨a1, a2, a3⟩ := hcc j hlt
      have c1 := (hbel.cell (p := ⟨b, off + j * 3, none⟩) hb).trans a1
      have c2 := (hbel.cell (p := ⟨b, off + j * 3 + 1, none⟩) hb).trans a2
      have c3 := (hbel.cell (p := ⟨b, off + j * 3 + 2, none⟩) hb).trans a3
      have hdj := hdl j hlt
      have hts := take_dget ds j hlt
      have Hts := Lib.hid hts
      have Hdl := Lib.hid hdl
      clear a1 a2 a3 hcc hts hdl
      generalize dget ds j = d at *
      go_wp2_with fail
      refine (check_calls _ d (by omega)).mono ?_
      rintro e w2 ⟨rfl, hb2⟩
      have hbn : Below w.heap.size w w2 := (hbel.alloc hbel.size _).trans (hb2.mono (by have := hbel.size; simp; omega))
      clear hb2 hbel
      cases hm : mayB d with
      | true =>
        have hk : chk d = 0 := by simp [chk, hm]
        rw [hk]
        have Hmd := Lib.hid hm
        clear hk hm
        go_wp2_with fail
        go_roundg (ds.length - (j + 1))
        case measure => have := Hk.out; omega
        case rel =>
          have h1 := Hm.out
          refine ⟨j + 1, rfl, by omega, by go_num, ?_, hbn⟩
          rw [Hts.out]
          simp only [mayAll, List.all_append] at h1 ⊢
          rw [h1]; simp [Hmd.out]
      | false =>
        have hk : chk d = 2 := by simp [chk, hm]
        have hall : chkAll ds = 2 := by
          have : mayAll ds = false := by
            have e : ds = ds.take (j + 1) ++ ds.drop (j + 1) := (List.take_append_drop _ _).symm
            rw [e, Hts.out]
            simp [mayAll, hm]
          simp [chkAll, this]
        have Hall := Lib.hid hall
        rw [hk]
        clear hk hm hall
        go_wp2_with fail
        go_ret
        rw [Hall.out]
        exact ⟨rfl, hbn⟩
    · obtain rfl : j = ds.length := by omega
      have hall : chkAll ds = 0 := by
        have := Hm.out
        rw [List.take_of_length_le (Nat.le_refl _)] at this
        simp [chkAll, this]
      have Hall := Lib.hid hall
      clear hall
      go_wp2_with fail
      go_ret
      rw [Hall.out]
      exact ⟨rfl, hbel⟩

theorem least_calls (w : World) (v : Value) (ds : List Dec) (h : DecsAt w v ds) :
    Calls Tryz.prog 42 #[v] w fun e w' => e = .returned (.int .i64 (leastS ds)) ∧ Below w.heap.size w w' := by
  obtain ⟨p, cap, rfl, hcap, hcap2, hdl, hcell⟩ := h
  have Hcell := Lib.hid hcell
  clear hcell hdl
  go_enter Tryz.func42, Tryz.ntmps42
  go_wp2
  go_loopg [3, 8] ds.length (fun k x i wr => ∃ j : Nat, k = ds.length - j ∧ j ≤ ds.length ∧ i = .int .i64 j ∧ x = .int .i64 (leastS (ds.take j)) ∧ Below w.heap.size w wr)
  case atStart => exact ⟨0, rfl, by omega, rfl, rfl, Below.refl _ _⟩
  case round =>
    obtain ⟨j, hk, hj, rfl, rfl, hbel⟩ := hrel
    have Hk := Lib.hid hk
    clear hk
    by_cases hlt : j < ds.length
    · have hlt' : (j : Int) < ds.length := by omega
      obtain ⟨b, off, rfl, hb, hcc⟩ := Hcell.out (by omega)
      obtain ⟨a1, a2, a3⟩ := hcc j hlt
      have c1 := (hbel.cell (p := ⟨b, off + j * 3, none⟩) hb).trans a1
      have c2 := (hbel.cell (p := ⟨b, off + j * 3 + 1, none⟩) hb).trans a2
      have c3 := (hbel.cell (p := ⟨b, off + j * 3 + 2, none⟩) hb).trans a3
      have hts := take_dget ds j hlt
      have hls := leastS_snoc (ds.take j) (dget ds j)
      rw [← hts] at hls
      have Hls := Lib.hid hls
      clear a1 a2 a3 hcc hts hls
      generalize dget ds j = d at *
      generalize leastS (ds.take j) = x at *
      have hbn := fun o => hbel.alloc hbel.size o
      go_wp2_with fail
      all_goals
        go_roundg (ds.length - (j + 1))
        case measure => have := Hk.out; omega
        case rel => exact ⟨j + 1, rfl, by omega, by go_num, by have h := Hls.out; exact congrArg (Value.int .i64) (by omega), hbn _⟩
    · obtain rfl : j = ds.length := by omega
      have hall : leastS (ds.take ds.length) = leastS ds := by rw [List.take_of_length_le (Nat.le_refl _)]
      have Hall := Lib.hid hall
      clear hall
      go_wp2_with fail
      go_ret
      exact ⟨by rw [← Hall.out]; rfl, hbel⟩

theorem may_bounds {d : Dec} (h : mayB d = true) : Dig d.digits ∧ d.digits.length ≤ 100 ∧ -1000 ≤ d.exp ∧ d.exp ≤ 1000 := by
  obtain ⟨neg, digits, exp⟩ := d
  cases digits with
  | nil => simp [mayB] at h; simp only [h.2]; exact ⟨Dig_nil, by simp, by omega, by omega⟩
  | cons c t =>
    simp only [mayB, Bool.and_eq_true, decide_eq_true_eq] at h
    obtain ⟨⟨⟨⟨⟨h1, h2⟩, h3⟩, h4⟩, h5⟩, h6⟩ := h
    exact ⟨(digAll_iff _).1 h1, by simpa using h2, h5, h6⟩

set_option maxRecDepth 100000 in
theorem scaled_calls (w : World) (d : Dec) (exp : Int) (hd : mayB d = true) (he : exp ≤ d.exp) (he2 : -100000000 ≤ exp) :
    Calls Tryz.prog 43 #[.agg #[.bool d.neg, .string ⟨d.digits.toArray⟩, .int .i64 d.exp], .int .i64 exp] w fun e w' => ∃ v' zs, e = .returned v' ∧ NatV w' 0 v' zs ∧ Norm zs ∧ val zs = dval d.digits * 10 ^ (d.exp - exp).toNat ∧ zs.length ≤ 200000000 ∧ Below w.heap.size w w' := by
  obtain ⟨hdig, hdl, he3, he4⟩ := may_bounds hd
  clear hd
  obtain ⟨neg, digits, ex⟩ := d
  simp only at *
  obtain ⟨n, hn⟩ : ∃ n : Nat, ex - exp = (n : Int) := ⟨(ex - exp).toNat, by omega⟩
  have hnb : n ≤ 100001000 := by omega
  have hwr : IntKind.i64.wrap (ex - exp) = (n : Int) := by rw [IntWalk.i64_in _ (by omega)]; exact hn
  clear hn
  go_enter Tryz.func43, Tryz.ntmps43
  go_wp2
  have s1 : (w.alloc (Obj.cells #[Value.bool neg, Value.string { data := digits.toArray }, Value.int IntKind.i64 ex] 24)).cell? ⟨w.heap.size, 1, none⟩ = some (.string ⟨digits.toArray⟩) := by
    rw [World.cell?_alloc_at _ _ _ _ rfl]; rfl
  have s2 : (w.alloc (Obj.cells #[Value.bool neg, Value.string { data := digits.toArray }, Value.int IntKind.i64 ex] 24)).cell? ⟨w.heap.size, 2, none⟩ = some (.int .i64 ex) := by
    rw [World.cell?_alloc_at _ _ _ _ rfl]; rfl
  have hb0 : Below w.heap.size w (w.alloc (Obj.cells #[Value.bool neg, Value.string { data := digits.toArray }, Value.int IntKind.i64 ex] 24)) := (Below.refl _ _).alloc (Nat.le_refl _) _
  have hz0 : w.heap.size < (w.alloc (Obj.cells #[Value.bool neg, Value.string { data := digits.toArray }, Value.int IntKind.i64 ex] 24)).heap.size := by simp
  generalize w.alloc (Obj.cells #[Value.bool neg, Value.string { data := digits.toArray }, Value.int IntKind.i64 ex] 24) = w1 at *
  go_region_held3 (fun w' => w'.cell? ⟨w.heap.size, 1, none⟩ = some (.string ⟨digits.toArray⟩) ∧ w'.cell? ⟨w.heap.size, 2, none⟩ = some (.int .i64 ex)) (first | exact ⟨k1, k2⟩ | go_keep)
    (first
      | (go_at_call 37; refine (natural_calls _ digits hdig (by omega)).mono ?_; rintro e w2 ⟨v2, zs, rfl, hv2, nz, hvz, hlz, hb2⟩; have k1 := (hb2.cell (p := ⟨w.heap.size, 1, none⟩) hz0).trans s1; have k2 := (hb2.cell (p := ⟨w.heap.size, 2, none⟩) hz0).trans s2; have Hvz := Lib.hid hvz; clear hvz)
      | (go_at_call 69; refine (shift_calls _ _ _ zs n (by exact hv2) nz (by omega) (by omega)).mono ?_; rintro e w3 ⟨v3, ys, rfl, hv3, ny, hvy, hly, hb3⟩; have k1 := (hb3.cell (p := ⟨w.heap.size, 1, none⟩) (Nat.lt_of_lt_of_le hz0 hb2.size)).trans k1; have k2 := (hb3.cell (p := ⟨w.heap.size, 2, none⟩) (Nat.lt_of_lt_of_le hz0 hb2.size)).trans k2; have Hvy := Lib.hid hvy; clear hvy))
  have hz2 : w1.heap.size ≤ w2.heap.size := hb2.size
  have hbf : Below w.heap.size w w3 := (hb0.drew.trans (hb2.mono (by show w.heap.size ≤ w1.heap.size; omega))).trans (hb3.mono (by omega))
  have hnn : (ex - exp).toNat = n := by
    have h := hwr; rw [IntWalk.i64_in _ (by omega)] at h; omega
  have Hnn := Lib.hid hnn
  clear hnn
  go_wp2
  go_ret
  exact ⟨_, ys, rfl, hv3, ny, by rw [Hvy.out, Hvz.out, Hnn.out], by omega, hbf⟩
end Go.Proofs.YtkakmjdfecbhaaaGreatDoor
