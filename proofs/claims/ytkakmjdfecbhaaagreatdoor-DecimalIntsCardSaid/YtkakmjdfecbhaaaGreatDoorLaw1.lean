/- The walks of the laws' helpers: num, long, works. -/
import Derived.Test.YtkakmjdfecbhaaaGreatDoorTxt1
namespace Go.Proofs.YtkakmjdfecbhaaaGreatDoor
open Go.RowKit

theorem num_calls (w : World) (n : Int) : Calls Tryz.prog 11 #[.int .i64 n] w fun e w' => e = .returned (.int .i64 n) ∧ w = w' := by
  go_enter Tryz.func11, Tryz.ntmps11
  go_wp2
  go_ret
  exact ⟨rfl, rfl⟩

/-- Is one of them longer than is worked out here? -/
def longB (ds : List Dec) : Bool := ds.any (fun d => decide (1000 < d.digits.length))

/-- v is a slice that reads as these decimals, however long. -/
def DecsRaw (w : World) (v : Value) (ds : List Dec) : Prop :=
  ∃ p cap, v = .slice p ds.length cap ∧ ds.length ≤ maxLen ∧ (∀ j, j < ds.length → (dget ds j).digits.length ≤ maxLen) ∧ (0 < ds.length → ∃ b off, p = some ⟨b, off, none⟩ ∧ b < w.heap.size ∧
    ∀ j, j < ds.length → w.cell? ⟨b, off + j * 3, none⟩ = some (.bool (dget ds j).neg) ∧ w.cell? ⟨b, off + j * 3 + 1, none⟩ = some (.string ⟨(dget ds j).digits.toArray⟩) ∧ w.cell? ⟨b, off + j * 3 + 2, none⟩ = some (.int .i64 (dget ds j).exp))
theorem DecsRaw.one (w : World) (d : Dec) (hd : d.digits.length ≤ maxLen) :
    DecsRaw (w.alloc (.cells #[.bool d.neg, .string ⟨d.digits.toArray⟩, .int .i64 d.exp] 24)) (.slice (some ⟨w.heap.size, 0, none⟩) 1 1) [d] := by
  refine ⟨_, 1, rfl, by simp [maxLen], fun j hj => ?_, fun _ => ⟨w.heap.size, 0, rfl, by simp, fun j hj => ?_⟩⟩
  · obtain rfl : j = 0 := by simp at hj; exact hj
    exact hd
  · obtain rfl : j = 0 := by simp at hj; exact hj
    refine ⟨?_, ?_, ?_⟩
    · rw [World.cell?_alloc_at _ _ _ _ rfl]; rfl
    · rw [World.cell?_alloc_at _ _ _ _ rfl]; rfl
    · rw [World.cell?_alloc_at _ _ _ _ rfl]; rfl
theorem long_calls (w : World) (v : Value) (ds : List Dec) (h : DecsRaw w v ds) :
    Calls Tryz.prog 6 #[v] w fun e w' => e = .returned (.bool (longB ds)) ∧ w = w' := by
  obtain ⟨p, cap, rfl, hcap2, hdl, hcell⟩ := h
  unfold maxLen at hcap2 hdl
  have Hcell := Lib.hid hcell
  have Hdl := Lib.hid hdl
  clear hcell hdl
  go_enter Tryz.func6, Tryz.ntmps6
  go_wp2
  go_loopg [3] ds.length (fun k i wr => ∃ j : Nat, k = ds.length - j ∧ j ≤ ds.length ∧ i = .int .i64 j ∧ longB (ds.take j) = false ∧ w = wr)
  case atStart => exact ⟨0, rfl, by omega, rfl, rfl, rfl⟩
  case round =>
    obtain ⟨j, hk, hj, rfl, hm, rfl⟩ := hrel
    have Hk := Lib.hid hk
    have Hm := Lib.hid hm
    clear hk hm
    by_cases hlt : j < ds.length
    · have hlt' : (j : Int) < ds.length := by omega
      obtain ⟨b, off, rfl, hb, hcc⟩ := Hcell.out (by omega)
      obtain ⟨_, c2, _⟩ := hcc j hlt
      have hdj := Hdl.out j hlt
      have hts := take_dget ds j hlt
      have Hts := Lib.hid hts
      have e : ds = ds.take (j + 1) ++ ds.drop (j + 1) := (List.take_append_drop _ _).symm
      have He := Lib.hid e
      clear hcc hts e
      generalize dget ds j = d at *
      by_cases hl : 1000 < d.digits.length
      · have hl' : (1000 : Int) < d.digits.length := by omega
        have hall : longB ds = true := by
          rw [He.out, Hts.out]; simp [longB, hl]
        have Hall := Lib.hid hall
        clear hall
        go_wp2_with fail
        go_ret
        exact ⟨by rw [Hall.out]; rfl, rfl⟩
      · have hl' : ¬ (1000 : Int) < d.digits.length := by omega
        go_wp2_with fail
        go_roundg (ds.length - (j + 1))
        case measure => have := Hk.out; omega
        case rel =>
          have h1 := Hm.out
          refine ⟨j + 1, rfl, by omega, by go_num, ?_, rfl⟩
          rw [Hts.out]
          simp only [longB, List.any_append] at h1 ⊢
          rw [h1]; simpa using hl
    · obtain rfl : j = ds.length := by omega
      have hall : longB ds = false := by
        have := Hm.out
        rwa [List.take_of_length_le (Nat.le_refl _)] at this
      have Hall := Lib.hid hall
      clear hall
      go_wp2_with fail
      go_ret
      exact ⟨by rw [Hall.out]; rfl, rfl⟩

theorem parse1 : parseS [45, 49, 46, 53, 48, 101, 45, 50] = (⟨true, [49, 53], -3⟩, 0) := by kernel_rfl
theorem parse2 : parseS [48, 49] = (Dec.zero, 170) := by kernel_rfl
theorem int7' : (madeS (decide ((7 : Int) < 0)) [55] 0).1 = ⟨false, [55], 0⟩ := by kernel_rfl
theorem int7 : intS 7 = ⟨false, [55], 0⟩ := by
  have : Lib.decDigits 7 = [55] := Lib.decDigits_one (by omega)
  unfold intS
  rw [show (7 : Int).natAbs = 7 from rfl, this]
  exact int7'
theorem text1 : textS ⟨true, [49, 53], -3⟩ = ([45, 48, 46, 48, 49, 53], 0) := by kernel_rfl
theorem sum1' : madeS (totN [⟨true, [49, 53], -3⟩, ⟨false, [55], 0⟩]) [54, 57, 56, 53] (leastS [⟨true, [49, 53], -3⟩, ⟨false, [55], 0⟩]) = (⟨false, [54, 57, 56, 53], -3⟩, 0) := by kernel_rfl
theorem sum1 : sumS [⟨true, [49, 53], -3⟩, ⟨false, [55], 0⟩] = (⟨false, [54, 57, 56, 53], -3⟩, 0) := by
  have h : mayAll [⟨true, [49, 53], -3⟩, ⟨false, [55], 0⟩] = true := by kernel_rfl
  have h2 : totV [⟨true, [49, 53], -3⟩, ⟨false, [55], 0⟩] = 6985 := by kernel_rfl
  have h3 : digS 6985 = [54, 57, 56, 53] := (digS_eq (a := [54, 57, 56, 53]) ((digAll_iff _).1 (by decide)) (by decide) 6985 (by decide)).symm
  unfold sumS
  rw [if_pos h, h2, h3]
  exact sum1'
theorem cmp1 : cmpS ⟨false, [54, 57, 56, 53], -3⟩ ⟨true, [49, 53], -3⟩ = (1, 0) := by kernel_rfl

theorem cell_set3 {w : World} {b c i : Nat} {u0 u1 u2 v : Value} (hne : b ≠ c) (h : w.cell? ⟨b, i, none⟩ = some v) :
    (((w.setCell ⟨c, 0, none⟩ u0).setCell ⟨c, 1, none⟩ u1).setCell ⟨c, 2, none⟩ u2).cell? ⟨b, i, none⟩ = some v := by
  have e : (((w.setCell ⟨c, 0, none⟩ u0).setCell ⟨c, 1, none⟩ u1).setCell ⟨c, 2, none⟩ u2).heap[b]? = w.heap[b]? := by
    rw [Below.heap_setCell _ _ _ _ hne, Below.heap_setCell _ _ _ _ hne, Below.heap_setCell _ _ _ _ hne]
  exact (World.cell?_of_block (w := w) e).trans h
theorem DecsAt.two1 (w : World) (o : Obj) (a b : Dec) (ha : a.digits.length ≤ 10000000000) (hb : b.digits.length ≤ 10000000000) :
    DecsAt ((w.alloc o).alloc (.cells #[.bool a.neg, .string ⟨a.digits.toArray⟩, .int .i64 a.exp, .bool b.neg, .string ⟨b.digits.toArray⟩, .int .i64 b.exp] 24)) (.slice (some ⟨w.heap.size + 1, 0, none⟩) 2 2) [a, b] := by
  have := DecsAt.two (w.alloc o) a b ha hb
  rwa [World.size_alloc] at this
/-- What the region of works leaves. -/
def Fin1 (w w1 : World) (b : Nat) (wc : World) : Prop :=
  (wc.cell? ⟨w1.heap.size, 0, none⟩ = some (.bool true) ∧ wc.cell? ⟨w1.heap.size, 1, none⟩ = some (.string ⟨#[49, 53]⟩) ∧ wc.cell? ⟨w1.heap.size, 2, none⟩ = some (.int .i64 (-3))) ∧
  (wc.cell? ⟨b, 0, none⟩ = some (.bool false) ∧ wc.cell? ⟨b, 1, none⟩ = some (.string ⟨#[54, 57, 56, 53]⟩) ∧ wc.cell? ⟨b, 2, none⟩ = some (.int .i64 (-3))) ∧ Below w.heap.size w wc
theorem fin_alloc {w w1 w6 : World} (k0 : w6.cell? ⟨w1.heap.size, 0, none⟩ = some (.bool true)) (k1 : w6.cell? ⟨w1.heap.size, 1, none⟩ = some (.string ⟨#[49, 53]⟩)) (k2 : w6.cell? ⟨w1.heap.size, 2, none⟩ = some (.int .i64 (-3)))
    (hlt : w1.heap.size < w6.heap.size) (hb : Below w.heap.size w w6) :
    Fin1 w w1 w6.heap.size (w6.alloc (Obj.cells #[Value.bool false, Value.string { data := #[54, 57, 56, 53] }, Value.int IntKind.i64 (-3)] 24)) := by
  have hd := DecAt.at w6 ⟨false, [54, 57, 56, 53], -3⟩ _ rfl
  refine ⟨⟨?_, ?_, ?_⟩, ⟨hd.c0, hd.c1, hd.c2⟩, hb.alloc hb.size _⟩
  · rw [World.cell?_alloc_past _ _ _ hlt]; exact k0
  · rw [World.cell?_alloc_past _ _ _ hlt]; exact k1
  · rw [World.cell?_alloc_past _ _ _ hlt]; exact k2
theorem fin_set {w w1 w6 : World} {c : Nat} (hne : w1.heap.size ≠ c) (k0 : w6.cell? ⟨w1.heap.size, 0, none⟩ = some (.bool true)) (k1 : w6.cell? ⟨w1.heap.size, 1, none⟩ = some (.string ⟨#[49, 53]⟩)) (k2 : w6.cell? ⟨w1.heap.size, 2, none⟩ = some (.int .i64 (-3)))
    (z0 : w6.cell? ⟨c, 0, none⟩ = some (.bool false)) (z1 : w6.cell? ⟨c, 1, none⟩ = some (.string ⟨#[]⟩)) (z2 : w6.cell? ⟨c, 2, none⟩ = some (.int .i64 0)) (hc : w.heap.size ≤ c) (hb : Below w.heap.size w w6) :
    Fin1 w w1 c (((w6.setCell ⟨c, 0, none⟩ (.bool false)).setCell ⟨c, 1, none⟩ (.string ⟨#[54, 57, 56, 53]⟩)).setCell ⟨c, 2, none⟩ (.int .i64 (-3))) := by
  refine ⟨⟨cell_set3 hne k0, cell_set3 hne k1, cell_set3 hne k2⟩, ⟨?_, ?_, ?_⟩, ((hb.setCell hc _).setCell hc _).setCell hc _⟩
  · rw [World.cell?_setCell_other _ _ _ _ (by simp), World.cell?_setCell_other _ _ _ _ (by simp), World.cell?_setCell_same _ _ _ z0]
  · rw [World.cell?_setCell_other _ _ _ _ (by simp)]
    exact World.cell?_setCell_same _ _ _ ((World.cell?_setCell_other _ _ _ _ (by simp)).trans z1)
  · exact World.cell?_setCell_same _ _ _ ((World.cell?_setCell_other _ _ _ _ (by simp)).trans ((World.cell?_setCell_other _ _ _ _ (by simp)).trans z2))
theorem zat {w w' : World} {o : Obj} {d : Dec} (h : DecAt w' (w.alloc o).heap.size d) : DecAt w' (w.heap.size + 1) d := by simpa using h
theorem two_le (w : World) (o : Obj) : w.heap.size ≤ (w.alloc o).heap.size := by simp
theorem two_le2 (w : World) (o o' : Obj) : w.heap.size ≤ ((w.alloc o).alloc o').heap.size := by simp; omega
set_option maxHeartbeats 2000000 in
set_option maxRecDepth 100000 in
theorem works_calls (w : World) (ht : Tab w) :
    Calls Tryz.prog 7 #[] w fun e w' => e = .returned (.bool true) ∧ Below w.heap.size w w' := by
  have Ht := Lib.hid ht
  clear ht
  go_enter Tryz.func7, Tryz.ntmps7
  go_wp2_with fail
  refine (parse_calls w [45, 49, 46, 53, 48, 101, 45, 50] (by simp)).mono ?_
  rintro e w1 ⟨rfl, hb1⟩
  rw [parse1]
  have Ht1 := Lib.hid (Ht.out.below hb1)
  clear Ht
  have hd := Lib.hid (DecAt.at w1 ⟨true, [49, 53], -3⟩ _ rfl)
  have hb := hb1.alloc hb1.size (Obj.cells #[Value.bool true, Value.string { data := #[49, 53] }, Value.int IntKind.i64 (-3)] 24)
  have Ht2 := Lib.hid (Ht1.out.alloc (Obj.cells #[Value.bool true, Value.string { data := #[49, 53] }, Value.int IntKind.i64 (-3)] 24))
  simp only [DecV]
  go_wp2_with fail
  refine (text_calls _ ⟨true, [49, 53], -3⟩ (by simp) Ht2.out).mono ?_
  rintro e w2 ⟨rfl, hb2⟩
  rw [text1]
  have hd2 := Lib.hid (hd.out.under hb2)
  have hbb := hb.trans (hb2.mono hb.size)
  have Ht3 := Lib.hid (Ht2.out.below hb2)
  clear hd hb Ht2 hb2 Ht1
  go_wp2_with fail
  refine (parse_calls w2 [48, 49] (by simp)).mono ?_
  rintro e w3 ⟨rfl, hb3⟩
  rw [parse2]
  have hd3 := Lib.hid ((hd2.out.under hb3).alloc (Obj.cells #[Value.bool false, Value.string { data := #[] }, Value.int IntKind.i64 0] 24))
  have hbc := (hbb.trans (hb3.mono hbb.size)).alloc (by have := hbb.size; have := hb3.size; omega) (Obj.cells #[Value.bool false, Value.string { data := #[] }, Value.int IntKind.i64 0] 24)
  have Ht4 : Hid (Tab (w3.alloc (Obj.cells #[Value.bool false, Value.string { data := #[] }, Value.int IntKind.i64 0] 24))) := ((Ht3.out.below hb3).alloc (Obj.cells #[Value.bool false, Value.string { data := #[] }, Value.int IntKind.i64 0] 24))
  clear hd2 hbb Ht3 hb3
  simp only [DecV, Dec.zero]
  go_upto_region 4 with fail
  generalize w3.alloc (Obj.cells #[Value.bool false, Value.string { data := #[] }, Value.int IntKind.i64 0] 24) = w4 at *
  have s0 : w4.cell? ⟨w1.heap.size, 0, none⟩ = some (.bool true) := hd3.out.c0
  have s1 : w4.cell? ⟨w1.heap.size, 1, none⟩ = some (.string ⟨#[49, 53]⟩) := hd3.out.c1
  have s2 : w4.cell? ⟨w1.heap.size, 2, none⟩ = some (.int .i64 (-3)) := hd3.out.c2
  have hlt := hd3.out.lt
  have hl1 : (⟨true, [49, 53], -3⟩ : Dec).digits.length ≤ 10000000000 := by simp
  have hl2 : (⟨false, [55], 0⟩ : Dec).digits.length ≤ 10000000000 := by simp
  have hl3 : ([⟨true, [49, 53], -3⟩, ⟨false, [55], 0⟩] : List Dec).length ≤ 1000000 := by simp
  go_cut [7, 8] (fun s7 s8 wc => ∃ b, s7 = .pointer (some ⟨b, 0, none⟩) ∧ s8 = .int .i64 0 ∧ Fin1 w w1 b wc)
  case first =>
    have hne4 := Nat.ne_of_lt hlt
    have hx1 : (-9223372036854775808 : Int) ≤ 7 := by omega
    have hx2 : (7 : Int) ≤ 9223372036854775807 := by omega
    go_region_held3 (fun w' => w'.cell? ⟨w1.heap.size, 0, none⟩ = some (.bool true) ∧ w'.cell? ⟨w1.heap.size, 1, none⟩ = some (.string ⟨#[49, 53]⟩) ∧ w'.cell? ⟨w1.heap.size, 2, none⟩ = some (.int .i64 (-3))) (first | exact ⟨k0, k1, k2⟩ | (with_reducible exact ⟨cell_set3 hne4 k0, cell_set3 hne4 k1, cell_set3 hne4 k2⟩) | (with_reducible exact ⟨cell_set3 hne5 k0, cell_set3 hne5 k1, cell_set3 hne5 k2⟩) | (with_reducible exact ⟨cell_set3 hne6 k0, cell_set3 hne6 k1, cell_set3 hne6 k2⟩) | go_keep)
      (first
        | (go_at_call 21; refine (fromInt_calls _ 7 hx1 hx2 ?_).mono ?_; (first | exact Ht4.out | exact Tab.alloc Ht4.out _); rintro e w5 ⟨rfl, hb5⟩; rw [int7]; simp only [DecV]; have hq5 : Below w4.heap.size w4 w5 := (by first | exact (Below.refl _ w4).drew.trans hb5 | exact ((Below.refl _ w4).alloc (Nat.le_refl _) _).drew.trans (hb5.mono (two_le w4 _))); (try (have Hz4 : Hid (DecAt w5 w4.heap.size Dec.zero) := (DecAt.at w4 Dec.zero _ rfl).under ((Below.refl _ _).drew.trans hb5))); clear hb5; have k0 := (hq5.cell (p := ⟨w1.heap.size, 0, none⟩) hlt).trans s0; have k1 := (hq5.cell (p := ⟨w1.heap.size, 1, none⟩) hlt).trans s1; have k2 := (hq5.cell (p := ⟨w1.heap.size, 2, none⟩) hlt).trans s2; have hlt5 := Nat.lt_of_lt_of_le hlt hq5.size; have hne5 := Nat.ne_of_lt hlt5; have hne6 := Nat.ne_of_lt (Nat.lt_succ_of_lt hlt5))
        | (go_at_call 8; refine (sum_calls _ _ [⟨true, [49, 53], -3⟩, ⟨false, [55], 0⟩] ?_ hl3).mono ?_; (first | exact DecsAt.two w5 ⟨true, [49, 53], -3⟩ ⟨false, [55], 0⟩ hl1 hl2 | exact DecsAt.two1 w5 _ ⟨true, [49, 53], -3⟩ ⟨false, [55], 0⟩ hl1 hl2 | exact (DecsAt.two w5 ⟨true, [49, 53], -3⟩ ⟨false, [55], 0⟩ hl1 hl2).below ((Below.refl _ _).alloc (Nat.le_refl _) _)); rintro e w6 ⟨rfl, hb6⟩; rw [sum1]; simp only [DecV]; have hq : Below w5.heap.size w5 w6 := (by first | exact ((Below.refl _ w5).alloc (Nat.le_refl _) _).trans (hb6.mono (two_le w5 _)) | exact (((Below.refl _ w5).alloc (Nat.le_refl _) _).alloc (two_le _ _) _).trans (hb6.mono (two_le2 w5 _ _))); (first | (have hz := Hz4.out.under hq; have z0 : w6.cell? ⟨w4.heap.size, 0, none⟩ = some (.bool false) := hz.c0; have z1 : w6.cell? ⟨w4.heap.size, 1, none⟩ = some (.string ⟨#[]⟩) := hz.c1; have z2 : w6.cell? ⟨w4.heap.size, 2, none⟩ = some (.int .i64 0) := hz.c2; have z3 : w6.frozen? ⟨w4.heap.size, 0, none⟩ = false := hz.f0; have z4 : w6.frozen? ⟨w4.heap.size, 1, none⟩ = false := hz.f1; have z5 : w6.frozen? ⟨w4.heap.size, 2, none⟩ = false := hz.f2; clear hz) | (have hz := ((DecAt.at w5 Dec.zero _ rfl).alloc _).under hb6; have z0 : w6.cell? ⟨w5.heap.size, 0, none⟩ = some (.bool false) := hz.c0; have z1 : w6.cell? ⟨w5.heap.size, 1, none⟩ = some (.string ⟨#[]⟩) := hz.c1; have z2 : w6.cell? ⟨w5.heap.size, 2, none⟩ = some (.int .i64 0) := hz.c2; have z3 : w6.frozen? ⟨w5.heap.size, 0, none⟩ = false := hz.f0; have z4 : w6.frozen? ⟨w5.heap.size, 1, none⟩ = false := hz.f1; have z5 : w6.frozen? ⟨w5.heap.size, 2, none⟩ = false := hz.f2; clear hz) | (have hz := (DecAt.at (w5.alloc _) Dec.zero _ rfl).under hb6; have z0 : w6.cell? ⟨w5.heap.size + 1, 0, none⟩ = some (.bool false) := (zat hz).c0; have z1 : w6.cell? ⟨w5.heap.size + 1, 1, none⟩ = some (.string ⟨#[]⟩) := (zat hz).c1; have z2 : w6.cell? ⟨w5.heap.size + 1, 2, none⟩ = some (.int .i64 0) := (zat hz).c2; have z3 : w6.frozen? ⟨w5.heap.size + 1, 0, none⟩ = false := (zat hz).f0; have z4 : w6.frozen? ⟨w5.heap.size + 1, 1, none⟩ = false := (zat hz).f1; have z5 : w6.frozen? ⟨w5.heap.size + 1, 2, none⟩ = false := (zat hz).f2; clear hz) | skip); clear hb6; have k0 := (hq.cell (p := ⟨w1.heap.size, 0, none⟩) hlt5).trans k0; have k1 := (hq.cell (p := ⟨w1.heap.size, 1, none⟩) hlt5).trans k1; have k2 := (hq.cell (p := ⟨w1.heap.size, 2, none⟩) hlt5).trans k2))
    all_goals
      have hw4 : w.heap.size ≤ w4.heap.size := hbc.size
      have hw5 : w4.heap.size ≤ w5.heap.size := hq5.size
      have hb6' : Below w.heap.size w w6 := (hbc.trans (hq5.mono hw4)).trans (hq.mono (by omega))
      have hlt6 : w1.heap.size < w6.heap.size := Nat.lt_of_lt_of_le hlt5 hq.size
      go_wp2_with fail
      go_meet
      first
        | with_reducible exact ⟨_, rfl, rfl, fin_alloc k0 k1 k2 hlt6 hb6'⟩
        | with_reducible exact ⟨_, rfl, rfl, fin_set hne4 k0 k1 k2 z0 z1 z2 hw4 hb6'⟩
        | with_reducible exact ⟨_, rfl, rfl, fin_set hne5 k0 k1 k2 z0 z1 z2 (Nat.le_trans hw4 hw5) hb6'⟩
        | with_reducible exact ⟨_, rfl, rfl, fin_set hne6 k0 k1 k2 z0 z1 z2 (Nat.le_succ_of_le (Nat.le_trans hw4 hw5)) hb6'⟩
  case rest =>
    obtain ⟨b, rfl, rfl, hfin⟩ := hcut
    obtain ⟨⟨k0, k1, k2⟩, ⟨x0, x1, x2⟩, hbf⟩ := hfin
    clear s0 s1 s2 hlt hd3 Ht4 hbc hl1 hl2 hl3
    go_wp2_with fail
    refine (compare_calls wc ⟨false, [54, 57, 56, 53], -3⟩ ⟨true, [49, 53], -3⟩ (by simp) (by simp)).mono ?_
    rintro e w7 ⟨rfl, hb7⟩
    rw [cmp1]
    have hlt7 : w1.heap.size < wc.heap.size := World.block_lt_of_cell? wc ⟨w1.heap.size, 0, none⟩ k0
    have k0 := (hb7.cell (p := ⟨w1.heap.size, 0, none⟩) hlt7).trans k0
    have k1 := (hb7.cell (p := ⟨w1.heap.size, 1, none⟩) hlt7).trans k1
    have k2 := (hb7.cell (p := ⟨w1.heap.size, 2, none⟩) hlt7).trans k2
    have hbg := hbf.trans (hb7.mono hbf.size)
    clear x0 x1 x2 hb7 hbf hlt7
    go_wp2_with (go_at_call 11; refine (num_calls _ _).mono ?_; rintro e w8 ⟨rfl, rfl⟩)
    go_ret
    exact ⟨rfl, hbg⟩
end Go.Proofs.YtkakmjdfecbhaaaGreatDoor
