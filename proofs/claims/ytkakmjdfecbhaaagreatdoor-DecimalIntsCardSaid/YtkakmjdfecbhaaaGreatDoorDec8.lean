/- The walks of above and what it asks of each decimal: over any world. -/
import Derived.Test.YtkakmjdfecbhaaaGreatDoorDec7
namespace Go.Proofs.YtkakmjdfecbhaaaGreatDoor
open Go.RowKit

/-- Are all above 0? -/
def posAll (ds : List Dec) : Bool := ds.all posB

set_option maxRecDepth 100000 in
theorem fits_calls (w : World) (d : Dec) (hd : d.digits.length ≤ 10000000000) :
    Calls Tryz.prog 68 #[.agg #[.bool d.neg, .string ⟨d.digits.toArray⟩, .int .i64 d.exp]] w fun e w' => e = .returned (.bool (posB d)) ∧ Below w.heap.size w w' := by
  have ha := DecAt.at w d _ rfl
  have hb : Below w.heap.size w (w.alloc (Obj.cells #[Value.bool d.neg, Value.string { data := d.digits.toArray }, Value.int IntKind.i64 d.exp] 24)) := (Below.refl _ _).alloc (Nat.le_refl _) _
  have Ha := Lib.hid ha
  clear ha
  go_enter Tryz.func68, Tryz.ntmps68
  go_wp2_with fail
  refine (check_calls _ d (by omega)).mono ?_
  rintro e w2 ⟨rfl, hb2⟩
  have ha2 := Ha.out.under hb2
  have hbel := hb.trans (hb2.mono hb.size)
  clear Ha hb hb2
  have c0 := ha2.c0
  have c1 := ha2.c1
  clear ha2
  cases hm : mayB d with
  | false =>
    have hk : chk d = 2 := by simp [chk, hm]
    have hp : posB d = false := by simp [posB, hm]
    have Hp := Lib.hid hp
    rw [hk]
    clear hm hk hp
    go_wp2_with fail
    go_ret
    rw [Hp.out]
    exact ⟨rfl, hbel⟩
  | true =>
    have hk : chk d = 0 := by simp [chk, hm]
    have Hm := Lib.hid hm
    rw [hk]
    clear hm hk
    obtain ⟨dn, dg, de⟩ := d
    simp only at *
    cases dn with
    | true =>
      have Hp : Hid (posB ⟨true, dg, de⟩ = false) := by have : posB ⟨true, dg, de⟩ = false := by simp [posB]
                                                        exact this
      go_wp2_with fail
      go_ret
      rw [Hp.out]
      exact ⟨rfl, hbel⟩
    | false =>
      cases dg with
      | nil =>
        have Hp : Hid (posB ⟨false, [], de⟩ = false) := by have : posB ⟨false, [], de⟩ = false := by simp [posB]
                                                           exact this
        go_wp2_with fail
        go_ret
        rw [Hp.out]
        exact ⟨rfl, hbel⟩
      | cons c t =>
        have Hp : Hid (posB ⟨false, c :: t, de⟩ = true) := by have : posB ⟨false, c :: t, de⟩ = true := by simp [posB, Hm.out]
                                                              exact this
        go_wp2_with fail
        go_ret
        rw [Hp.out]
        exact ⟨rfl, hbel⟩

theorem above_calls (w : World) (v : Value) (ds : List Dec) (h : DecsAt w v ds) :
    Calls Tryz.prog 41 #[v] w fun e w' => e = .returned (.bool (posAll ds)) ∧ Below w.heap.size w w' := by
  obtain ⟨p, cap, rfl, hcap, hcap2, hdl, hcell⟩ := h
  have Hcell := Lib.hid hcell
  clear hcell
  go_enter Tryz.func41, Tryz.ntmps41
  go_wp2
  go_loopg [8] ds.length (fun k i wr => ∃ j : Nat, k = ds.length - j ∧ j ≤ ds.length ∧ i = .int .i64 j ∧ posAll (ds.take j) = true ∧ Below w.heap.size w wr)
  case atStart => exact ⟨0, rfl, by omega, rfl, rfl, Below.refl _ _⟩
  case round =>
    obtain ⟨j, hk, hj, rfl, hm, hbel⟩ := hrel
    have Hk := Lib.hid hk
    have Hm := Lib.hid hm
    clear hk hm
    by_cases hlt : j < ds.length
    · have hlt' : (j : Int) < ds.length := by omega
      obtain ⟨b, off, rfl, hb, hcc⟩ := Hcell.out (by omega)
      obtain ⟨a1, a2, a3⟩ := hcc j hlt
      have c1 := (hbel.cell (p := ⟨b, off + j * 3, none⟩) hb).trans a1
      have c2 := (hbel.cell (p := ⟨b, off + j * 3 + 1, none⟩) hb).trans a2
      have c3 := (hbel.cell (p := ⟨b, off + j * 3 + 2, none⟩) hb).trans a3
      have hdj := hdl j hlt
      have hts := take_dget ds j hlt
      have Hts := Lib.hid hts
      have Hdl := Lib.hid hdl
      clear a1 a2 a3 hcc hts hdl
      generalize dget ds j = d at *
      go_wp2_with fail
      refine (fits_calls _ d (by omega)).mono ?_
      rintro e w2 ⟨rfl, hb2⟩
      have hbn : Below w.heap.size w w2 := (hbel.alloc hbel.size _).trans (hb2.mono (by have := hbel.size; simp; omega))
      clear hb2 hbel
      cases hm : posB d with
      | true =>
        have Hmd := Lib.hid hm
        clear hm
        go_wp2_with fail
        go_roundg (ds.length - (j + 1))
        case measure => have := Hk.out; omega
        case rel =>
          have h1 := Hm.out
          refine ⟨j + 1, rfl, by omega, by go_num, ?_, hbn⟩
          rw [Hts.out]
          simp only [posAll, List.all_append] at h1 ⊢
          rw [h1]; simp [Hmd.out]
      | false =>
        have hall : posAll ds = false := by
          have e : ds = ds.take (j + 1) ++ ds.drop (j + 1) := (List.take_append_drop _ _).symm
          rw [e, Hts.out]
          simp [posAll, hm]
        have Hall := Lib.hid hall
        clear hm hall
        go_wp2_with fail
        go_ret
        rw [Hall.out]
        exact ⟨rfl, hbn⟩
    · obtain rfl : j = ds.length := by omega
      have hall : posAll ds = true := by
        have := Hm.out
        rwa [List.take_of_length_le (Nat.le_refl _)] at this
      have Hall := Lib.hid hall
      clear hall
      go_wp2_with fail
      go_ret
      rw [Hall.out]
      exact ⟨rfl, hbel⟩
end Go.Proofs.YtkakmjdfecbhaaaGreatDoor
