/- The walk of DecimalBounds: it returns true, over any world with the library's table of powers of ten. Printed by gen_bnd.py. -/
import Derived.Test.YtkakmjdfecbhaaaDoorDec7
import Derived.Test.YtkakmjdfecbhaaaDoorLaw2
import Derived.Test.YtkakmjdfecbhaaaDoorPla6
namespace Go.Proofs.YtkakmjdfecbhaaaDoor
open Go.RowKit

theorem DecsAt.three1 (w : World) (o : Obj) (a b c : Dec) (ha : a.digits.length ≤ 10000000000) (hb : b.digits.length ≤ 10000000000) (hc : c.digits.length ≤ 10000000000) :
    DecsAt ((w.alloc o).alloc (.cells #[.bool a.neg, .string ⟨a.digits.toArray⟩, .int .i64 a.exp, .bool b.neg, .string ⟨b.digits.toArray⟩, .int .i64 b.exp, .bool c.neg, .string ⟨c.digits.toArray⟩, .int .i64 c.exp] 23)) (.slice (some ⟨w.heap.size + 1, 0, none⟩) 3 3) [a, b, c] := by
  refine ⟨_, 3, rfl, Nat.le_refl _, by omega, fun j hj => ?_, fun _ => ⟨w.heap.size + 1, 0, rfl, by simp, fun j hj => ?_⟩⟩
  · have hj : j = 0 ∨ j = 1 ∨ j = 2 := by simp at hj; omega
    rcases hj with rfl | rfl | rfl
    · exact ha
    · exact hb
    · exact hc
  · have hj : j = 0 ∨ j = 1 ∨ j = 2 := by simp at hj; omega
    rcases hj with rfl | rfl | rfl
    all_goals
      refine ⟨?_, ?_, ?_⟩
      all_goals rw [World.cell?_alloc_at _ _ _ _ (by simp)]; rfl
theorem BytV.below {w w' : World} {B : Nat} {v : Value} {xs : List UInt8} (h : BytV w B v xs) (hb : Below w.heap.size w w') : BytV w' B v xs := by
  refine ⟨h.1, ?_⟩
  rcases h.2 with h2 | ⟨g, cap, cur, hv, hg, hh, r⟩
  · exact .inl h2
  · exact .inr ⟨g, cap, cur, hv, hg, by rw [hb.block g (Array.getElem?_eq_some_iff.1 hh).1]; exact hh, r⟩
theorem bytes_app (a b : List UInt8) : ((⟨a.toArray⟩ : ByteArray) ++ ⟨b.toArray⟩) = ⟨(a ++ b).toArray⟩ := bytes_eq (by simp [ByteArray.data_append])

set_option maxHeartbeats 8000000 in
set_option maxRecDepth 100000 in
theorem bounds_calls (w : World) (ht : Tab w) :
    Calls Tryd.prog 5 #[] w fun e w' => e = .returned (.bool true) ∧ Below w.heap.size w w' := by
  have Ht := Lib.hid ht
  clear ht
  go_enter Tryd.func5, Tryd.ntmps5
  go_wp2_with fail
  go_loopg [1, 2] 100 (fun k s i wr => ∃ j : Nat, k = 100 - j ∧ j ≤ 100 ∧ i = .int .i64 j ∧ s = .string ⟨(List.replicate j (57 : UInt8)).toArray⟩ ∧ w = wr)
  case atStart => exact ⟨0, rfl, by omega, rfl, rfl, rfl⟩
  case round =>
    obtain ⟨j, hk, hj, rfl, rfl, rfl⟩ := hrel
    have Hk := Lib.hid hk
    clear hk
    have hrep : (List.replicate j (57 : UInt8)) ++ [57] = List.replicate (j + 1) 57 := by rw [List.replicate_succ']
    have Hrep := Lib.hid hrep
    clear hrep
    have hll : (List.replicate j (57 : UInt8)).length ≤ 100 := by simp; omega
    by_cases hlt : j < 100
    · have hlt' : (j : Int) < 100 := by omega
      generalize List.replicate j (57 : UInt8) = L at *
      have hs1 : ¬ 9223372036854775807 < L.length + 1 := by omega
      go_wp2_with fail
      go_roundg (100 - (j + 1))
      case measure => have := Hk.out; omega
      case rel => exact ⟨j + 1, rfl, by omega, by go_num, by rw [← Hrep.out, ← bytes_app], rfl⟩
    · obtain rfl : j = 100 := by omega
      rw [show List.replicate 100 (57 : UInt8) = nines from rfl]
      have hnl : nines.length ≤ 100 := Nat.le_of_eq nines_len
      have hs5 : ¬ 9223372036854775807 < nines.length + 5 := by omega
      have hs6 : ¬ 9223372036854775807 < nines.length + 6 := by omega
      have h1 : AllAt ((w.alloc (Obj.cells #[Value.bool false, Value.string { data := nines.toArray }, Value.int IntKind.i64 1000] 23)).alloc (Obj.cells #[Value.bool false, Value.string { data := #[49] }, Value.int IntKind.i64 0] 23)) [(w.heap.size, mostD), (w.heap.size + 1, oneD)] := by
        intro p hp
        simp only [List.mem_cons, List.not_mem_nil, or_false] at hp
        rcases hp with rfl | rfl
        · exact (DecAt.at w mostD _ rfl).alloc _
        · exact DecAt.at (w.alloc _) oneD _ (by simp)
      have hbel1 : Below w.heap.size w ((w.alloc (Obj.cells #[Value.bool false, Value.string { data := nines.toArray }, Value.int IntKind.i64 1000] 23)).alloc (Obj.cells #[Value.bool false, Value.string { data := #[49] }, Value.int IntKind.i64 0] 23)) := ((Below.refl _ _).alloc (Nat.le_refl _) _).alloc (by simp) _
      have H1 := Lib.hid h1
      have Ht1 := Lib.hid (Ht.out.below hbel1)
      clear Hk hll Hrep h1 Ht hlt
      go_upto_region 8 with fail
      generalize ((w.alloc (Obj.cells #[Value.bool false, Value.string { data := nines.toArray }, Value.int IntKind.i64 1000] 23)).alloc (Obj.cells #[Value.bool false, Value.string { data := #[49] }, Value.int IntKind.i64 0] 23)) = w1 at *
      go_wp2_with fail
      rw [show ((⟨nines.toArray⟩ : ByteArray) ++ ⟨#[101, 49, 48, 48, 48]⟩) = ⟨(nines ++ [101, 49, 48, 48, 48]).toArray⟩ from bytes_app nines [101, 49, 48, 48, 48]]
      refine (parse_calls _ (nines ++ [101, 49, 48, 48, 48]) (by simp; omega)).mono ?_
      rintro e w2 ⟨rfl, hb2⟩
      have hc2 := hb2
      have H2 := Lib.hid (H1.out.under hc2)
      have Ht2 := Lib.hid (Ht1.out.below hc2)
      have hbel2 := hbel1.trans (hc2.mono hbel1.size)
      clear hb2 hc2 H1 Ht1 hbel1 
      rw [bp1]
      simp only [DecV, mostD]
      have H3 := Lib.hid ((H2.out.alloc (Obj.cells #[Value.bool false, Value.string { data := nines.toArray }, Value.int IntKind.i64 1000] 23)).push (DecAt.at w2 mostD _ rfl))
      have Ht3 := Lib.hid (Ht2.out.alloc (Obj.cells #[Value.bool false, Value.string { data := nines.toArray }, Value.int IntKind.i64 1000] 23))
      have hbel3 := hbel2.alloc hbel2.size (Obj.cells #[Value.bool false, Value.string { data := nines.toArray }, Value.int IntKind.i64 1000] 23)
      clear H2 Ht2 hbel2
      go_wp2_with fail
      rw [show ((⟨nines.toArray⟩ : ByteArray) ++ ⟨#[57, 101, 49, 48, 48, 48]⟩) = ⟨(nines ++ [57, 101, 49, 48, 48, 48]).toArray⟩ from bytes_app nines [57, 101, 49, 48, 48, 48]]
      refine (parse_calls _ (nines ++ [57, 101, 49, 48, 48, 48]) (by simp; omega)).mono ?_
      rintro e w4 ⟨rfl, hb4⟩
      have hc4 := hb4
      have H4 := Lib.hid (H3.out.under hc4)
      have Ht4 := Lib.hid (Ht3.out.below hc4)
      have hbel4 := hbel3.trans (hc4.mono hbel3.size)
      clear hb4 hc4 H3 Ht3 hbel3 
      rw [bp2]
      simp only [DecV, Dec.zero]
      have H5 := Lib.hid ((H4.out.alloc (Obj.cells #[Value.bool false, Value.string { data := #[] }, Value.int IntKind.i64 0] 23)).push (DecAt.at w4 Dec.zero _ rfl))
      have Ht5 := Lib.hid (Ht4.out.alloc (Obj.cells #[Value.bool false, Value.string { data := #[] }, Value.int IntKind.i64 0] 23))
      have hbel5 := hbel4.alloc hbel4.size (Obj.cells #[Value.bool false, Value.string { data := #[] }, Value.int IntKind.i64 0] 23)
      clear H4 Ht4 hbel4
      go_wp2_with fail
      rw [show ((⟨nines.toArray⟩ : ByteArray) ++ ⟨#[101, 49, 48, 48, 49]⟩) = ⟨(nines ++ [101, 49, 48, 48, 49]).toArray⟩ from bytes_app nines [101, 49, 48, 48, 49]]
      refine (parse_calls _ (nines ++ [101, 49, 48, 48, 49]) (by simp; omega)).mono ?_
      rintro e w6 ⟨rfl, hb6⟩
      have hc6 := hb6
      have H6 := Lib.hid (H5.out.under hc6)
      have Ht6 := Lib.hid (Ht5.out.below hc6)
      have hbel6 := hbel5.trans (hc6.mono hbel5.size)
      clear hb6 hc6 H5 Ht5 hbel5 
      rw [bp3]
      simp only [DecV, Dec.zero]
      have H7 := Lib.hid ((H6.out.alloc (Obj.cells #[Value.bool false, Value.string { data := #[] }, Value.int IntKind.i64 0] 23)).push (DecAt.at w6 Dec.zero _ rfl))
      have Ht7 := Lib.hid (Ht6.out.alloc (Obj.cells #[Value.bool false, Value.string { data := #[] }, Value.int IntKind.i64 0] 23))
      have hbel7 := hbel6.alloc hbel6.size (Obj.cells #[Value.bool false, Value.string { data := #[] }, Value.int IntKind.i64 0] 23)
      clear H6 Ht6 hbel6
      clear hs5 hs6
      have hm9 : mostD.digits.length ≤ 10000000000 := by show nines.length ≤ _; omega
      have kmost0 : (w6.alloc (Obj.cells #[Value.bool false, Value.string { data := #[] }, Value.int IntKind.i64 0] 23)).cell? ⟨w.heap.size, 0, none⟩ = some (.bool false) := (H7.out (w.heap.size, mostD) (by simp)).c0
      have kmost1 : (w6.alloc (Obj.cells #[Value.bool false, Value.string { data := #[] }, Value.int IntKind.i64 0] 23)).cell? ⟨w.heap.size, 1, none⟩ = some (.string ⟨nines.toArray⟩) := (H7.out (w.heap.size, mostD) (by simp)).c1
      have kmost2 : (w6.alloc (Obj.cells #[Value.bool false, Value.string { data := #[] }, Value.int IntKind.i64 0] 23)).cell? ⟨w.heap.size, 2, none⟩ = some (.int .i64 1000) := (H7.out (w.heap.size, mostD) (by simp)).c2
      go_wp2_with fail
      refine (sum_calls _ _ [mostD, ⟨false, [49], 1000⟩] (DecsAt.two1 _ _ mostD ⟨false, [49], 1000⟩ hm9 (by simp)) (by simp)).mono ?_
      rintro e w8 ⟨rfl, hb8⟩
      have hc8 : Below (w6.alloc (Obj.cells #[Value.bool false, Value.string { data := #[] }, Value.int IntKind.i64 0] 23)).heap.size (w6.alloc (Obj.cells #[Value.bool false, Value.string { data := #[] }, Value.int IntKind.i64 0] 23)) w8 := ((Below.refl _ _).alloc (Nat.le_refl _) _).trans (hb8.mono (by simp))
      have H8 := Lib.hid (H7.out.under hc8)
      have Ht8 := Lib.hid (Ht7.out.below hc8)
      have hbel8 := hbel7.trans (hc8.mono hbel7.size)
      clear hb8 hc8 H7 Ht7 hbel7 kmost0 kmost1 kmost2
      rw [bsum1]
      simp only [DecV, Dec.zero]
      have H9 := Lib.hid ((H8.out.alloc (Obj.cells #[Value.bool false, Value.string { data := #[] }, Value.int IntKind.i64 0] 23)).push (DecAt.at w8 Dec.zero _ rfl))
      have Ht9 := Lib.hid (Ht8.out.alloc (Obj.cells #[Value.bool false, Value.string { data := #[] }, Value.int IntKind.i64 0] 23))
      have hbel9 := hbel8.alloc hbel8.size (Obj.cells #[Value.bool false, Value.string { data := #[] }, Value.int IntKind.i64 0] 23)
      clear H8 Ht8 hbel8
      have kmost0 : (w8.alloc (Obj.cells #[Value.bool false, Value.string { data := #[] }, Value.int IntKind.i64 0] 23)).cell? ⟨w.heap.size, 0, none⟩ = some (.bool false) := (H9.out (w.heap.size, mostD) (by simp)).c0
      have kmost1 : (w8.alloc (Obj.cells #[Value.bool false, Value.string { data := #[] }, Value.int IntKind.i64 0] 23)).cell? ⟨w.heap.size, 1, none⟩ = some (.string ⟨nines.toArray⟩) := (H9.out (w.heap.size, mostD) (by simp)).c1
      have kmost2 : (w8.alloc (Obj.cells #[Value.bool false, Value.string { data := #[] }, Value.int IntKind.i64 0] 23)).cell? ⟨w.heap.size, 2, none⟩ = some (.int .i64 1000) := (H9.out (w.heap.size, mostD) (by simp)).c2
      go_wp2_with fail
      refine (sum_calls _ _ [mostD, mostD, ⟨true, [49], -1000⟩] (DecsAt.three1 _ _ mostD mostD ⟨true, [49], -1000⟩ hm9 hm9 (by simp)) (by simp)).mono ?_
      rintro e w10 ⟨rfl, hb10⟩
      have hc10 : Below (w8.alloc (Obj.cells #[Value.bool false, Value.string { data := #[] }, Value.int IntKind.i64 0] 23)).heap.size (w8.alloc (Obj.cells #[Value.bool false, Value.string { data := #[] }, Value.int IntKind.i64 0] 23)) w10 := ((Below.refl _ _).alloc (Nat.le_refl _) _).trans (hb10.mono (by simp))
      have H10 := Lib.hid (H9.out.under hc10)
      have Ht10 := Lib.hid (Ht9.out.below hc10)
      have hbel10 := hbel9.trans (hc10.mono hbel9.size)
      clear hb10 hc10 H9 Ht9 hbel9 kmost0 kmost1 kmost2
      rw [bsum2]
      simp only [DecV, Dec.zero]
      have H11 := Lib.hid ((H10.out.alloc (Obj.cells #[Value.bool false, Value.string { data := #[] }, Value.int IntKind.i64 0] 23)).push (DecAt.at w10 Dec.zero _ rfl))
      have Ht11 := Lib.hid (Ht10.out.alloc (Obj.cells #[Value.bool false, Value.string { data := #[] }, Value.int IntKind.i64 0] 23))
      have hbel11 := hbel10.alloc hbel10.size (Obj.cells #[Value.bool false, Value.string { data := #[] }, Value.int IntKind.i64 0] 23)
      clear H10 Ht10 hbel10
      have kmost0 : (w10.alloc (Obj.cells #[Value.bool false, Value.string { data := #[] }, Value.int IntKind.i64 0] 23)).cell? ⟨w.heap.size, 0, none⟩ = some (.bool false) := (H11.out (w.heap.size, mostD) (by simp)).c0
      have kmost1 : (w10.alloc (Obj.cells #[Value.bool false, Value.string { data := #[] }, Value.int IntKind.i64 0] 23)).cell? ⟨w.heap.size, 1, none⟩ = some (.string ⟨nines.toArray⟩) := (H11.out (w.heap.size, mostD) (by simp)).c1
      have kmost2 : (w10.alloc (Obj.cells #[Value.bool false, Value.string { data := #[] }, Value.int IntKind.i64 0] 23)).cell? ⟨w.heap.size, 2, none⟩ = some (.int .i64 1000) := (H11.out (w.heap.size, mostD) (by simp)).c2
      have kone0 : (w10.alloc (Obj.cells #[Value.bool false, Value.string { data := #[] }, Value.int IntKind.i64 0] 23)).cell? ⟨w.heap.size + 1, 0, none⟩ = some (.bool false) := (H11.out (w.heap.size + 1, oneD) (by simp)).c0
      have kone1 : (w10.alloc (Obj.cells #[Value.bool false, Value.string { data := #[] }, Value.int IntKind.i64 0] 23)).cell? ⟨w.heap.size + 1, 1, none⟩ = some (.string ⟨#[49]⟩) := (H11.out (w.heap.size + 1, oneD) (by simp)).c1
      have kone2 : (w10.alloc (Obj.cells #[Value.bool false, Value.string { data := #[] }, Value.int IntKind.i64 0] 23)).cell? ⟨w.heap.size + 1, 2, none⟩ = some (.int .i64 0) := (H11.out (w.heap.size + 1, oneD) (by simp)).c2
      go_wp2_with fail
      refine (sum_calls _ _ [mostD, oneD, ⟨true, nines, 1000⟩] (DecsAt.three1 _ _ mostD oneD ⟨true, nines, 1000⟩ hm9 (by simp [oneD]) (by show nines.length ≤ _; omega)) (by simp)).mono ?_
      rintro e w12 ⟨rfl, hb12⟩
      have hc12 : Below (w10.alloc (Obj.cells #[Value.bool false, Value.string { data := #[] }, Value.int IntKind.i64 0] 23)).heap.size (w10.alloc (Obj.cells #[Value.bool false, Value.string { data := #[] }, Value.int IntKind.i64 0] 23)) w12 := ((Below.refl _ _).alloc (Nat.le_refl _) _).trans (hb12.mono (by simp))
      have H12 := Lib.hid (H11.out.under hc12)
      have Ht12 := Lib.hid (Ht11.out.below hc12)
      have hbel12 := hbel11.trans (hc12.mono hbel11.size)
      clear hb12 hc12 H11 Ht11 hbel11 kmost0 kmost1 kmost2 kone0 kone1 kone2
      rw [bsum3]
      simp only [DecV, oneD]
      have H13 := Lib.hid ((H12.out.alloc (Obj.cells #[Value.bool false, Value.string { data := #[49] }, Value.int IntKind.i64 0] 23)).push (DecAt.at w12 oneD _ rfl))
      have Ht13 := Lib.hid (Ht12.out.alloc (Obj.cells #[Value.bool false, Value.string { data := #[49] }, Value.int IntKind.i64 0] 23))
      have hbel13 := hbel12.alloc hbel12.size (Obj.cells #[Value.bool false, Value.string { data := #[49] }, Value.int IntKind.i64 0] 23)
      clear H12 Ht12 hbel12
      go_wp2_with (at_make; go_must (refine wpList_make_bytes rfl _ _ rfl _ _ 1000 rfl rfl (by omega) (by omega) (by omega) ?_))
      intro w0 hv0 hb0
      go_wp2_with fail
      go_loopg [18] 1000 (fun k i wr => ∃ (j : Nat) (os : List UInt8), k = 1000 - j ∧ j ≤ 1000 ∧ i = .int .i64 j ∧ BytV wr (w12.heap.size + 1) (.slice (some ⟨w12.heap.size + 1, 0, none⟩) 1000 1000) os ∧ os.length = 1000 ∧ os.take j = List.replicate j 48 ∧ Below (w12.heap.size + 1) (w12.alloc (Obj.cells #[Value.bool false, Value.string { data := #[49] }, Value.int IntKind.i64 0] 23)) wr)
      case atStart => exact ⟨0, List.replicate 1000 0, rfl, by omega, rfl, hv0, List.length_replicate, rfl, hb0⟩
      case round =>
        obtain ⟨j, os, hk, hj, rfl, hos, hlos, htk, hbr⟩ := hrel
        have Hk := Lib.hid hk
        have Hlos := Lib.hid hlos
        have Htk := Lib.hid htk
        clear hk hlos htk hv0 hb0
        by_cases hlt : j < 1000
        · have hlt' : (j : Int) < 1000 := by omega
          have hq1 : j < os.length := by have := Hlos.out; omega
          have c2 := hos.cell j hq1
          have f2 := hos.frozen j
          go_wp2_with fail
          go_roundg (1000 - (j + 1))
          case measure => have := Hk.out; omega
          case rel =>
            refine ⟨j + 1, os.set j 48, rfl, by omega, by go_num, hos.set j 48 48 rfl, by rw [List.length_set]; exact Hlos.out, ?_, hbr.setCell (Nat.le_refl _) _⟩
            rw [take_snoc8 _ _ (by rw [List.length_set]; exact hq1), List.replicate_succ', List.take_set_of_le (Nat.le_refl j), Htk.out]
            simp [hq1]
        · obtain rfl : j = 1000 := by omega
          have Hos : Hid (os = List.replicate 1000 48) := by
            show os = _
            rw [← Htk.out, List.take_of_length_le (by rw [Hlos.out]; exact Nat.le_refl _)]
          have hq1 : 1 < os.length := by have := Hlos.out; omega
          have c2 := hos.cell 1 hq1
          have f2 := hos.frozen 1
          have hset := hos.set 1 46 46 rfl
          have Hz : Hid (os.set 1 46 = noughtsP) := by show os.set 1 46 = _; rw [Hos.out]; rfl
          rw [Hz.out] at hset
          have hbs := hbr.setCell (p := ⟨w12.heap.size + 1, 1, none⟩) (Nat.le_refl _) (.int .u8 46)
          have Hset := Lib.hid hset
          clear hset hbr Htk Hlos Hos Hk hlt
          go_upto_region 20 with fail
          clear c2 f2 hq1 hos
          generalize wr.setCell ⟨w12.heap.size + 1, 1, none⟩ (.int .u8 46) = wy at *
          have hbs2 : Below (w12.alloc (Obj.cells #[Value.bool false, Value.string { data := #[49] }, Value.int IntKind.i64 0] 23)).heap.size (w12.alloc (Obj.cells #[Value.bool false, Value.string { data := #[49] }, Value.int IntKind.i64 0] 23)) wy := by rw [World.size_alloc]; exact hbs
          have H14 := Lib.hid (H13.out.under hbs2)
          have Ht14 := Lib.hid (Ht13.out.below hbs2)
          have hbel14 := hbel13.trans (hbs2.mono hbel13.size)
          clear hbs hbs2 H13 Ht13 hbel13
          have hzl := noughtsP_len
          have hzl9 : noughtsP.length ≤ 1000 := Nat.le_of_eq hzl
          clear hzl
          have hs1 : ¬ 9223372036854775807 < noughtsP.length + 1 := by omega
          have hconv := Hset.out.string
          go_wp2_with fail
          refine (parse_calls _ noughtsP (by omega)).mono ?_
          rintro e w15 ⟨rfl, hb15⟩
          have hc15 := hb15
          have H15 := Lib.hid (H14.out.under hc15)
          have Ht15 := Lib.hid (Ht14.out.below hc15)
          have hbel15 := hbel14.trans (hc15.mono hbel14.size)
          have hset2 := Hset.out.below hc15
          have Hset := Lib.hid hset2
          clear hset2
          clear hb15 hc15 H14 Ht14 hbel14 
          rw [bp4]
          simp only [DecV, Dec.zero]
          clear hconv
          have H16 := Lib.hid ((H15.out.alloc (Obj.cells #[Value.bool false, Value.string { data := #[] }, Value.int IntKind.i64 0] 23)).push (DecAt.at w15 Dec.zero _ rfl))
          have Ht16 := Lib.hid (Ht15.out.alloc (Obj.cells #[Value.bool false, Value.string { data := #[] }, Value.int IntKind.i64 0] 23))
          have hbel16 := hbel15.alloc hbel15.size (Obj.cells #[Value.bool false, Value.string { data := #[] }, Value.int IntKind.i64 0] 23)
          clear H15 Ht15 hbel15
          have hset3 := Hset.out.below ((Below.refl _ _).alloc (Nat.le_refl _) (Obj.cells #[Value.bool false, Value.string { data := #[] }, Value.int IntKind.i64 0] 23))
          have hconv := hset3.string
          clear Hset
          go_wp2_with fail
          rw [show ((⟨noughtsP.toArray⟩ : ByteArray) ++ ⟨#[48]⟩) = ⟨(noughtsP ++ [48]).toArray⟩ from bytes_app noughtsP [48]]
          refine (parse_calls _ (noughtsP ++ [48]) (by simp; omega)).mono ?_
          rintro e w17 ⟨rfl, hb17⟩
          have hc17 := hb17
          have H17 := Lib.hid (H16.out.under hc17)
          have Ht17 := Lib.hid (Ht16.out.below hc17)
          have hbel17 := hbel16.trans (hc17.mono hbel16.size)
          clear hb17 hc17 H16 Ht16 hbel16 
          rw [bp5]
          simp only [DecV, Dec.zero]
          clear hconv hset3
          have H18 := Lib.hid ((H17.out.alloc (Obj.cells #[Value.bool false, Value.string { data := #[] }, Value.int IntKind.i64 0] 23)).push (DecAt.at w17 Dec.zero _ rfl))
          have Ht18 := Lib.hid (Ht17.out.alloc (Obj.cells #[Value.bool false, Value.string { data := #[] }, Value.int IntKind.i64 0] 23))
          have hbel18 := hbel17.alloc hbel17.size (Obj.cells #[Value.bool false, Value.string { data := #[] }, Value.int IntKind.i64 0] 23)
          clear H17 Ht17 hbel17
          have kmost0 : (w17.alloc (Obj.cells #[Value.bool false, Value.string { data := #[] }, Value.int IntKind.i64 0] 23)).cell? ⟨w.heap.size, 0, none⟩ = some (.bool false) := (H18.out (w.heap.size, mostD) (by simp)).c0
          have kmost1 : (w17.alloc (Obj.cells #[Value.bool false, Value.string { data := #[] }, Value.int IntKind.i64 0] 23)).cell? ⟨w.heap.size, 1, none⟩ = some (.string ⟨nines.toArray⟩) := (H18.out (w.heap.size, mostD) (by simp)).c1
          have kmost2 : (w17.alloc (Obj.cells #[Value.bool false, Value.string { data := #[] }, Value.int IntKind.i64 0] 23)).cell? ⟨w.heap.size, 2, none⟩ = some (.int .i64 1000) := (H18.out (w.heap.size, mostD) (by simp)).c2
          go_wp2_with fail
          refine (prod_calls _ mostD ⟨false, [49], 1⟩ hm9 (by simp)).mono ?_
          rintro e w19 ⟨rfl, hb19⟩
          have hc19 := hb19
          have H19 := Lib.hid (H18.out.under hc19)
          have Ht19 := Lib.hid (Ht18.out.below hc19)
          have hbel19 := hbel18.trans (hc19.mono hbel18.size)
          clear hb19 hc19 H18 Ht18 hbel18 kmost0 kmost1 kmost2
          rw [bmul]
          simp only [DecV, Dec.zero]
          have H20 := Lib.hid ((H19.out.alloc (Obj.cells #[Value.bool false, Value.string { data := #[] }, Value.int IntKind.i64 0] 23)).push (DecAt.at w19 Dec.zero _ rfl))
          have Ht20 := Lib.hid (Ht19.out.alloc (Obj.cells #[Value.bool false, Value.string { data := #[] }, Value.int IntKind.i64 0] 23))
          have hbel20 := hbel19.alloc hbel19.size (Obj.cells #[Value.bool false, Value.string { data := #[] }, Value.int IntKind.i64 0] 23)
          clear H19 Ht19 hbel19
          have ka0 : (w19.alloc (Obj.cells #[Value.bool false, Value.string { data := #[] }, Value.int IntKind.i64 0] 23)).cell? ⟨w2.heap.size, 0, none⟩ = some (.bool false) := (H20.out (w2.heap.size, mostD) (by simp)).c0
          have ka1 : (w19.alloc (Obj.cells #[Value.bool false, Value.string { data := #[] }, Value.int IntKind.i64 0] 23)).cell? ⟨w2.heap.size, 1, none⟩ = some (.string ⟨nines.toArray⟩) := (H20.out (w2.heap.size, mostD) (by simp)).c1
          have ka2 : (w19.alloc (Obj.cells #[Value.bool false, Value.string { data := #[] }, Value.int IntKind.i64 0] 23)).cell? ⟨w2.heap.size, 2, none⟩ = some (.int .i64 1000) := (H20.out (w2.heap.size, mostD) (by simp)).c2
          have kmost0 : (w19.alloc (Obj.cells #[Value.bool false, Value.string { data := #[] }, Value.int IntKind.i64 0] 23)).cell? ⟨w.heap.size, 0, none⟩ = some (.bool false) := (H20.out (w.heap.size, mostD) (by simp)).c0
          have kmost1 : (w19.alloc (Obj.cells #[Value.bool false, Value.string { data := #[] }, Value.int IntKind.i64 0] 23)).cell? ⟨w.heap.size, 1, none⟩ = some (.string ⟨nines.toArray⟩) := (H20.out (w.heap.size, mostD) (by simp)).c1
          have kmost2 : (w19.alloc (Obj.cells #[Value.bool false, Value.string { data := #[] }, Value.int IntKind.i64 0] 23)).cell? ⟨w.heap.size, 2, none⟩ = some (.int .i64 1000) := (H20.out (w.heap.size, mostD) (by simp)).c2
          have kb0 : (w19.alloc (Obj.cells #[Value.bool false, Value.string { data := #[] }, Value.int IntKind.i64 0] 23)).cell? ⟨w8.heap.size, 0, none⟩ = some (.bool false) := (H20.out (w8.heap.size, Dec.zero) (by simp)).c0
          have kb1 : (w19.alloc (Obj.cells #[Value.bool false, Value.string { data := #[] }, Value.int IntKind.i64 0] 23)).cell? ⟨w8.heap.size, 1, none⟩ = some (.string ⟨#[]⟩) := (H20.out (w8.heap.size, Dec.zero) (by simp)).c1
          have kb2 : (w19.alloc (Obj.cells #[Value.bool false, Value.string { data := #[] }, Value.int IntKind.i64 0] 23)).cell? ⟨w8.heap.size, 2, none⟩ = some (.int .i64 0) := (H20.out (w8.heap.size, Dec.zero) (by simp)).c2
          have kc0 : (w19.alloc (Obj.cells #[Value.bool false, Value.string { data := #[] }, Value.int IntKind.i64 0] 23)).cell? ⟨w12.heap.size, 0, none⟩ = some (.bool false) := (H20.out (w12.heap.size, oneD) (by simp)).c0
          have kc1 : (w19.alloc (Obj.cells #[Value.bool false, Value.string { data := #[] }, Value.int IntKind.i64 0] 23)).cell? ⟨w12.heap.size, 1, none⟩ = some (.string ⟨#[49]⟩) := (H20.out (w12.heap.size, oneD) (by simp)).c1
          have kc2 : (w19.alloc (Obj.cells #[Value.bool false, Value.string { data := #[] }, Value.int IntKind.i64 0] 23)).cell? ⟨w12.heap.size, 2, none⟩ = some (.int .i64 0) := (H20.out (w12.heap.size, oneD) (by simp)).c2
          have kone0 : (w19.alloc (Obj.cells #[Value.bool false, Value.string { data := #[] }, Value.int IntKind.i64 0] 23)).cell? ⟨w.heap.size + 1, 0, none⟩ = some (.bool false) := (H20.out (w.heap.size + 1, oneD) (by simp)).c0
          have kone1 : (w19.alloc (Obj.cells #[Value.bool false, Value.string { data := #[] }, Value.int IntKind.i64 0] 23)).cell? ⟨w.heap.size + 1, 1, none⟩ = some (.string ⟨#[49]⟩) := (H20.out (w.heap.size + 1, oneD) (by simp)).c1
          have kone2 : (w19.alloc (Obj.cells #[Value.bool false, Value.string { data := #[] }, Value.int IntKind.i64 0] 23)).cell? ⟨w.heap.size + 1, 2, none⟩ = some (.int .i64 0) := (H20.out (w.heap.size + 1, oneD) (by simp)).c2
          have kd0 : (w19.alloc (Obj.cells #[Value.bool false, Value.string { data := #[] }, Value.int IntKind.i64 0] 23)).cell? ⟨w15.heap.size, 0, none⟩ = some (.bool false) := (H20.out (w15.heap.size, Dec.zero) (by simp)).c0
          have kd1 : (w19.alloc (Obj.cells #[Value.bool false, Value.string { data := #[] }, Value.int IntKind.i64 0] 23)).cell? ⟨w15.heap.size, 1, none⟩ = some (.string ⟨#[]⟩) := (H20.out (w15.heap.size, Dec.zero) (by simp)).c1
          have kd2 : (w19.alloc (Obj.cells #[Value.bool false, Value.string { data := #[] }, Value.int IntKind.i64 0] 23)).cell? ⟨w15.heap.size, 2, none⟩ = some (.int .i64 0) := (H20.out (w15.heap.size, Dec.zero) (by simp)).c2
          go_wp2_with (go_at_call 13; refine (num_calls _ _).mono ?_; rintro e w88 ⟨rfl, rfl⟩)
          refine (works_calls _ Ht20.out).mono ?_
          rintro e wz ⟨rfl, hbz⟩
          have hbf := hbel20.trans (hbz.mono hbel20.size)
          clear hbz H20 Ht20 hbel20 ka0 ka1 ka2 kmost0 kmost1 kmost2 kb0 kb1 kb2 kc0 kc1 kc2 kone0 kone1 kone2 kd0 kd1 kd2
          go_wp2_with fail
          go_ret
          exact ⟨rfl, hbf⟩
end Go.Proofs.YtkakmjdfecbhaaaDoor
