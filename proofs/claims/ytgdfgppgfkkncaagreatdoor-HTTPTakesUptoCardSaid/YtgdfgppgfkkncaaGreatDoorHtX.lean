/- The walk of works. Printed by gen_works.py. -/
import Derived.Test.YtgdfgppgfkkncaaGreatDoorHtW
namespace Go.Proofs.YtgdfgppgfkkncaaGreatDoor
open Go.RowKit

theorem TakeOut.below {w0 w w' : World} {C : Nat} {v : Value} {l : List UInt8} {d : Bool} (hb : Below w0.heap.size w0 w) (hc : ConnAt w C v l d) (hC : w0.heap.size ≤ C) (hap : Apart (OwnC C v) w w') : Below w0.heap.size w0 w' :=
  hb.trans (hap.below hb.size (fun i hi h9 => by have := (hc.own h9).1; omega))
set_option maxHeartbeats 4000000 in
set_option maxRecDepth 100000 in
theorem works_calls (w : World) (he : Env w) : Calls Tryz.prog 11 #[] w fun e w' => e = .returned (.bool true) ∧ Below w.heap.size w w' := by
  have He := Lib.hid he
  clear he
  have kc := fun (w : World) (C : Array Value) (n c : Nat) => Lib.run_convert_bytes_const (P := Tryz.prog) w 23 5 C n c Tryz.underlying23 Tryz.underlying5
  go_enter Tryz.func11, Tryz.ntmps11
  go_wp2_with fail
  refine (new_calls w).mono ?_
  rintro e w1 ⟨rfl, hc1, hb1⟩
  have HB1 := Lib.hid hb1
  have HC1 := Lib.hid hc1
  clear hb1 hc1
  go_wp2_with fail
  have hx : BytS (w1.alloc (Obj.cells #[Value.int IntKind.u8 80, Value.int IntKind.u8 79, Value.int IntKind.u8 83, Value.int IntKind.u8 84, Value.int IntKind.u8 32, Value.int IntKind.u8 47, Value.int IntKind.u8 97, Value.int IntKind.u8 63, Value.int IntKind.u8 98, Value.int IntKind.u8 32, Value.int IntKind.u8 72, Value.int IntKind.u8 84, Value.int IntKind.u8 84, Value.int IntKind.u8 80, Value.int IntKind.u8 47, Value.int IntKind.u8 49, Value.int IntKind.u8 46, Value.int IntKind.u8 49, Value.int IntKind.u8 13, Value.int IntKind.u8 10, Value.int IntKind.u8 72, Value.int IntKind.u8 111, Value.int IntKind.u8 115, Value.int IntKind.u8 116, Value.int IntKind.u8 58, Value.int IntKind.u8 32, Value.int IntKind.u8 120, Value.int IntKind.u8 13, Value.int IntKind.u8 10, Value.int IntKind.u8 67, Value.int IntKind.u8 111, Value.int IntKind.u8 110, Value.int IntKind.u8 116, Value.int IntKind.u8 101, Value.int IntKind.u8 110, Value.int IntKind.u8 116, Value.int IntKind.u8 45, Value.int IntKind.u8 76, Value.int IntKind.u8 101, Value.int IntKind.u8 110, Value.int IntKind.u8 103, Value.int IntKind.u8 116, Value.int IntKind.u8 104, Value.int IntKind.u8 58, Value.int IntKind.u8 32, Value.int IntKind.u8 50, Value.int IntKind.u8 13, Value.int IntKind.u8 10, Value.int IntKind.u8 13, Value.int IntKind.u8 10, Value.int IntKind.u8 104] 5 (51, 52))) (.slice (some ⟨w1.heap.size, 0, none⟩) 51 51) wp1 := byts_lit w1 wp1 51 (51, 52) (by decide) (by decide)
  have hbL : Below w1.heap.size w1 (w1.alloc (Obj.cells #[Value.int IntKind.u8 80, Value.int IntKind.u8 79, Value.int IntKind.u8 83, Value.int IntKind.u8 84, Value.int IntKind.u8 32, Value.int IntKind.u8 47, Value.int IntKind.u8 97, Value.int IntKind.u8 63, Value.int IntKind.u8 98, Value.int IntKind.u8 32, Value.int IntKind.u8 72, Value.int IntKind.u8 84, Value.int IntKind.u8 84, Value.int IntKind.u8 80, Value.int IntKind.u8 47, Value.int IntKind.u8 49, Value.int IntKind.u8 46, Value.int IntKind.u8 49, Value.int IntKind.u8 13, Value.int IntKind.u8 10, Value.int IntKind.u8 72, Value.int IntKind.u8 111, Value.int IntKind.u8 115, Value.int IntKind.u8 116, Value.int IntKind.u8 58, Value.int IntKind.u8 32, Value.int IntKind.u8 120, Value.int IntKind.u8 13, Value.int IntKind.u8 10, Value.int IntKind.u8 67, Value.int IntKind.u8 111, Value.int IntKind.u8 110, Value.int IntKind.u8 116, Value.int IntKind.u8 101, Value.int IntKind.u8 110, Value.int IntKind.u8 116, Value.int IntKind.u8 45, Value.int IntKind.u8 76, Value.int IntKind.u8 101, Value.int IntKind.u8 110, Value.int IntKind.u8 103, Value.int IntKind.u8 116, Value.int IntKind.u8 104, Value.int IntKind.u8 58, Value.int IntKind.u8 32, Value.int IntKind.u8 50, Value.int IntKind.u8 13, Value.int IntKind.u8 10, Value.int IntKind.u8 13, Value.int IntKind.u8 10, Value.int IntKind.u8 104] 5 (51, 52))) := (Below.refl _ _).alloc (Nat.le_refl _) _
  have hcL := HC1.out.below hbL
  have HbL := Lib.hid (HB1.out.trans (hbL.mono HB1.out.size))
  have HcL := Lib.hid hcL
  have HxL := Lib.hid hx
  clear hx hbL hcL
  refine (take_calls w _ He.out HbL.out HcL.out (Nat.le_refl _) HxL.out (by decide)).mono ?_
  rintro e w3 ⟨B3, x3, rs3, v3, rfl, hB3, hr3, hm3, hc3, hap3, how3, hfr3⟩
  simp only [take_wp1] at hm3 hc3 ⊢
  have HB3 := Lib.hid (TakeOut.below HbL.out HcL.out (Nat.le_refl _) hap3)
  have HC3 := Lib.hid hc3
  have HR3 := Lib.hid hr3
  have HO3 := Lib.hid how3
  have HF3 := Lib.hid hfr3
  have HA3 := Lib.hid hap3
  clear hr3 hc3 hap3 how3 hfr3 hB3
  obtain rfl : rs3 = [] := by simpa using hm3
  obtain ⟨p3, c3, rfl⟩ := HR3.out.forms
  clear HbL HcL HxL hm3
  go_wp2_with fail
  have hx : BytS (w3.alloc (Obj.cells #[Value.int IntKind.u8 105, Value.int IntKind.u8 71, Value.int IntKind.u8 69, Value.int IntKind.u8 84] 5 (4, 5))) (.slice (some ⟨w3.heap.size, 0, none⟩) 4 4) wp2 := byts_lit w3 wp2 4 (4, 5) (by decide) (by decide)
  have hbL : Below w3.heap.size w3 (w3.alloc (Obj.cells #[Value.int IntKind.u8 105, Value.int IntKind.u8 71, Value.int IntKind.u8 69, Value.int IntKind.u8 84] 5 (4, 5))) := (Below.refl _ _).alloc (Nat.le_refl _) _
  have hcL := HC3.out.below hbL
  have HbL := Lib.hid (HB3.out.trans (hbL.mono HB3.out.size))
  have HcL := Lib.hid hcL
  have HxL := Lib.hid hx
  clear hx hbL hcL
  refine (take_calls w _ He.out HbL.out HcL.out (Nat.le_refl _) HxL.out (by decide)).mono ?_
  rintro e w4 ⟨B4, x4, rs4, v4, rfl, hB4, hr4, hm4, hc4, hap4, how4, hfr4⟩
  simp only [take_wp2] at hm4 hc4 ⊢
  have HB4 := Lib.hid (TakeOut.below HbL.out HcL.out (Nat.le_refl _) hap4)
  have HC4 := Lib.hid hc4
  have HR4 := Lib.hid hr4
  have HO4 := Lib.hid how4
  have HF4 := Lib.hid hfr4
  have HA4 := Lib.hid hap4
  clear hr4 hc4 hap4 how4 hfr4 hB4
  obtain ⟨rq, rfl⟩ := List.length_eq_one_iff.1 (show rs4.length = 1 by simpa using congrArg List.length hm4)
  have hrq : rq.1 = wq := by simpa using hm4
  obtain ⟨q4, hv4, bv4⟩ := rq
  simp only at hrq
  subst hrq
  obtain ⟨g4, c4, rfl⟩ := HR4.out.form (by simp)
  clear HbL HcL HxL hm4
  go_wp2_with fail
  refine (waiting_calls w4 HC4.out).mono ?_
  rintro e w9 ⟨rfl, rfl⟩
  go_wp2_with fail
  have hx : BytS (w4.alloc (Obj.cells #[Value.int IntKind.u8 32, Value.int IntKind.u8 120, Value.int IntKind.u8 32, Value.int IntKind.u8 72, Value.int IntKind.u8 84, Value.int IntKind.u8 84, Value.int IntKind.u8 80, Value.int IntKind.u8 47, Value.int IntKind.u8 49, Value.int IntKind.u8 46, Value.int IntKind.u8 49, Value.int IntKind.u8 13, Value.int IntKind.u8 10, Value.int IntKind.u8 13, Value.int IntKind.u8 10] 5 (15, 16))) (.slice (some ⟨w4.heap.size, 0, none⟩) 15 15) wp3 := byts_lit w4 wp3 15 (15, 16) (by decide) (by decide)
  have hbL : Below w4.heap.size w4 (w4.alloc (Obj.cells #[Value.int IntKind.u8 32, Value.int IntKind.u8 120, Value.int IntKind.u8 32, Value.int IntKind.u8 72, Value.int IntKind.u8 84, Value.int IntKind.u8 84, Value.int IntKind.u8 80, Value.int IntKind.u8 47, Value.int IntKind.u8 49, Value.int IntKind.u8 46, Value.int IntKind.u8 49, Value.int IntKind.u8 13, Value.int IntKind.u8 10, Value.int IntKind.u8 13, Value.int IntKind.u8 10] 5 (15, 16))) := (Below.refl _ _).alloc (Nat.le_refl _) _
  have hcL := HC4.out.below hbL
  have HbL := Lib.hid (HB4.out.trans (hbL.mono HB4.out.size))
  have HcL := Lib.hid hcL
  have HxL := Lib.hid hx
  have HR4L := Lib.hid (HR4.out.below hbL)
  clear hx hbL hcL
  refine (take_calls w _ He.out HbL.out HcL.out (Nat.le_refl _) HxL.out (by decide)).mono ?_
  rintro e w5 ⟨B5, x5, rs5, v5, rfl, hB5, hr5, hm5, hc5, hap5, how5, hfr5⟩
  simp only [take_wp3] at hm5 hc5 ⊢
  have HB5 := Lib.hid (TakeOut.below HbL.out HcL.out (Nat.le_refl _) hap5)
  have HC5 := Lib.hid hc5
  have HR5 := Lib.hid hr5
  have HO5 := Lib.hid how5
  have HF5 := Lib.hid hfr5
  have HA5 := Lib.hid hap5
  clear hr5 hc5 hap5 how5 hfr5 hB5
  obtain rfl : rs5 = [] := by simpa using hm5
  obtain ⟨p5, c5, rfl⟩ := HR5.out.forms
  clear hm5 HR5
  go_wp2_with fail
  refine (take_calls w w5 He.out HB5.out HC5.out (Nat.le_refl _) (.inl ⟨rfl, rfl⟩ : BytS w5 (.slice none 0 0) []) (by decide)).mono ?_
  rintro e w6 ⟨B6, x6, rs6, v6, rfl, hB6, hr6, hm6, hc6, hap6, how6, hfr6⟩
  simp only [take_nil] at hm6 hc6 ⊢
  have HB6 := Lib.hid (TakeOut.below HB5.out HC5.out (Nat.le_refl _) hap6)
  have HC6 := Lib.hid hc6
  have HR6 := Lib.hid hr6
  have HO6 := Lib.hid how6
  have HF6 := Lib.hid hfr6
  have HA6 := Lib.hid hap6
  clear hr6 hc6 hap6 how6 hfr6 hB6
  have HA56 := Lib.hid (HA5.out.trans HA6.out (fun i hi h9 => h9.imp id (fun h8 => (HF5.out i h8).resolve_right (by omega))))
  have HK := Lib.hid (HR4L.out.apart HA56.out (fun k hk _ h9 => by have := HO4.out k h9; omega))
  have k1 : w6.cell? ⟨g4, 1, none⟩ = some (.string ⟨#[47, 97]⟩) := HK.out.cell rfl 1 (by simp)
  have k2 : w6.cell? ⟨g4, 2, none⟩ = some (.string ⟨#[98]⟩) := HK.out.cell rfl 2 (by simp)
  have k4 : w6.cell? ⟨g4, 4, none⟩ = some bv4 := HK.out.cell rfl 4 (by simp)
  have hs : (convert 23 9 bv4).run Tryz.prog w6 = .ok (.string ⟨#[104, 105]⟩) w6 := (BodV.byts (HK.out.bod _ (List.mem_singleton.2 rfl))).string
  have hC6 := HC6.out
  have HD := Lib.hid (dead_calls w6 HC6.out)
  obtain ⟨p6, c6, rfl⟩ := HR6.out.forms
  clear hC6 hm6 HA5 HA6 HF5 HR4L HR6
  go_wp2_with fail
  refine (num_calls w6 _).mono ?_
  rintro e w9 ⟨rfl, rfl⟩
  go_wp2_with fail
  refine (num_calls w6 _).mono ?_
  rintro e w9 ⟨rfl, rfl⟩
  go_wp2_with fail
  refine (num_calls w6 _).mono ?_
  rintro e w9 ⟨rfl, rfl⟩
  go_wp2_with fail
  refine HD.out.mono ?_
  rintro e w9 ⟨rfl, rfl⟩
  go_wp2_with fail
  refine (num_calls w6 _).mono ?_
  rintro e w9 ⟨rfl, rfl⟩
  go_wp2_with fail
  refine (status_calls w6 _).mono ?_
  rintro e w9 ⟨rfl, rfl⟩
  have hst : statusS 380 = 400 := rfl
  rw [hst]
  go_wp2_with fail
  go_ret
  exact ⟨rfl, HB6.out⟩
end Go.Proofs.YtgdfgppgfkkncaaGreatDoor
