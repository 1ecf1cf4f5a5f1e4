/- The walks of DecimalOrder: they return true, at any three decimals, over any world with the library's table of powers of ten. Printed by gen_walk.py. -/
import Derived.Test.YtkakmjdfecbhaaaDoorTim
import Derived.Test.YtkakmjdfecbhaaaDoorEql
import Derived.Test.YtkakmjdfecbhaaaDoorReg
import Derived.Test.YtkakmjdfecbhaaaDoorLaw2
import Derived.Test.YtkakmjdfecbhaaaDoorPla5
namespace Go.Proofs.YtkakmjdfecbhaaaDoor
open Go.RowKit

theorem chk_iff (d : Dec) : chk d = 0 ↔ mayB d = true := by unfold chk; split <;> simp_all
theorem chk_low (d : Dec) : 0 ≤ chk d ∧ chk d ≤ 2 := by unfold chk; split <;> omega
theorem order_all {a b c : Dec} (ha : mayB a = true) (hb : mayB b = true) (hc : mayB c = true) :
    (∃ ab bc ac : Int, cmpS a b = (ab, 0) ∧ cmpS b a = (-ab, 0) ∧ cmpS b c = (bc, 0) ∧ cmpS a c = (ac, 0) ∧ (ab = -1 ∨ ab = 0 ∨ ab = 1) ∧ (bc = -1 ∨ bc = 0 ∨ bc = 1) ∧ (ac = -1 ∨ ac = 0 ∨ ac = 1) ∧ (ab = 0 ↔ a = b) ∧ (ab ≤ 0 ∧ bc ≤ 0 → ac ≤ 0 ∧ (ac = 0 → ab + bc = 0)) ∧
      (cmpS (negD a) (negD b) = (-ab, 0)) ∧ ((sumS [a, c]).2 = 0 → (sumS [b, c]).2 = 0 → cmpS (sumS [a, c]).1 (sumS [b, c]).1 = (ab, 0))) ∧ negS a = (negD a, 0) ∧ negS b = (negD b, 0) ∧ sumS [a, negD a] = (Dec.zero, 0) := by
  refine ⟨⟨(cmpS a b).1, (cmpS b c).1, (cmpS a c).1, ?_, ?_, ?_, ?_, ?_, ?_, ?_, order_same ha hb, fun h => order_trans ha hb hc h.1 h.2, ?_, ?_⟩, by simp [negS, ha], by simp [negS, hb], sum_neg ha⟩
  · rw [cmp_eq ha hb low_ok]
  · rw [cmp_eq ha hb low_ok, cmp_eq hb ha low_ok, ← sgn_neg, Int.neg_sub]
  · rw [cmp_eq hb hc low_ok]
  · rw [cmp_eq ha hc low_ok]
  · rw [cmp_eq ha hb low_ok]; exact sgn_cases _
  · rw [cmp_eq hb hc low_ok]; exact sgn_cases _
  · rw [cmp_eq ha hc low_ok]; exact sgn_cases _
  · rw [order_neg ha hb, cmp_eq ha hb low_ok, cmp_eq hb ha low_ok, ← sgn_neg, Int.neg_sub]
  · intro h1 h2
    rw [sum_order ha hb hc h1 h2, cmp_eq ha hb low_ok]

set_option maxHeartbeats 8000000 in
set_option maxRecDepth 100000 in
theorem order_calls (w : World) (a b c : Dec) (hla : a.digits.length ≤ maxLen) (hlb : b.digits.length ≤ maxLen) (hlc : c.digits.length ≤ maxLen) (ht : Tab w) :
    Calls Tryd.prog 6 #[.agg #[.bool a.neg, .string ⟨a.digits.toArray⟩, .int .i64 a.exp], .agg #[.bool b.neg, .string ⟨b.digits.toArray⟩, .int .i64 b.exp], .agg #[.bool c.neg, .string ⟨c.digits.toArray⟩, .int .i64 c.exp]] w fun e w' => e = .returned (.bool true) ∧ Below w.heap.size w w' := by
  have h1 := all3 w a b c
  have hb3 := below3 w a b c
  have hsz := size3 w a b c
  have hr := DecsRaw.three (((w.alloc (Obj.cells #[Value.bool a.neg, Value.string { data := a.digits.toArray }, Value.int IntKind.i64 a.exp] 23)).alloc (Obj.cells #[Value.bool b.neg, Value.string { data := b.digits.toArray }, Value.int IntKind.i64 b.exp] 23)).alloc (Obj.cells #[Value.bool c.neg, Value.string { data := c.digits.toArray }, Value.int IntKind.i64 c.exp] 23)) a b c hla hlb hlc
  have H0 := Lib.hid h1
  have Ht0 := Lib.hid (ht.below hb3)
  have Hr := Lib.hid hr
  have Hsz := Lib.hid hsz
  clear h1 hr hsz ht
  go_enter Tryd.func6, Tryd.ntmps6
  go_wp2_with fail
  have H1 := H0
  have Ht1 := Ht0
  have hbel1 := hb3
  clear H0 Ht0 hb3
  generalize (((w.alloc (Obj.cells #[Value.bool a.neg, Value.string { data := a.digits.toArray }, Value.int IntKind.i64 a.exp] 23)).alloc (Obj.cells #[Value.bool b.neg, Value.string { data := b.digits.toArray }, Value.int IntKind.i64 b.exp] 23)).alloc (Obj.cells #[Value.bool c.neg, Value.string { data := c.digits.toArray }, Value.int IntKind.i64 c.exp] 23)) = w1 at *
  have Hrd : Hid (DecsRaw (w1.alloc (Obj.cells #[Value.bool a.neg, Value.string { data := a.digits.toArray }, Value.int IntKind.i64 a.exp, Value.bool b.neg, Value.string { data := b.digits.toArray }, Value.int IntKind.i64 b.exp, Value.bool c.neg, Value.string { data := c.digits.toArray }, Value.int IntKind.i64 c.exp] 23)).drew (.slice (some ⟨w1.heap.size, 0, none⟩) 3 3) [a, b, c]) := Hr.out
  clear Hr
  have hc2 : Below w1.heap.size w1 (w1.alloc (Obj.cells #[Value.bool a.neg, Value.string { data := a.digits.toArray }, Value.int IntKind.i64 a.exp, Value.bool b.neg, Value.string { data := b.digits.toArray }, Value.int IntKind.i64 b.exp, Value.bool c.neg, Value.string { data := c.digits.toArray }, Value.int IntKind.i64 c.exp] 23)).drew := ((Below.refl _ _).alloc (Nat.le_refl _) _).drew
  have H2 := Lib.hid (H1.out.under hc2)
  have Ht2 := Lib.hid (Ht1.out.below hc2)
  have hbel2 := hbel1.trans (hc2.mono hbel1.size)
  clear hc2
  have ka0 : w1.cell? ⟨w.heap.size, 0, none⟩ = some (.bool a.neg) := (H1.out (w.heap.size, a) (by simp)).c0
  have ka1 : w1.cell? ⟨w.heap.size, 1, none⟩ = some (.string ⟨a.digits.toArray⟩) := (H1.out (w.heap.size, a) (by simp)).c1
  have ka2 : w1.cell? ⟨w.heap.size, 2, none⟩ = some (.int .i64 a.exp) := (H1.out (w.heap.size, a) (by simp)).c2
  have kb0 : w1.cell? ⟨w.heap.size + 1, 0, none⟩ = some (.bool b.neg) := (H1.out (w.heap.size + 1, b) (by simp)).c0
  have kb1 : w1.cell? ⟨w.heap.size + 1, 1, none⟩ = some (.string ⟨b.digits.toArray⟩) := (H1.out (w.heap.size + 1, b) (by simp)).c1
  have kb2 : w1.cell? ⟨w.heap.size + 1, 2, none⟩ = some (.int .i64 b.exp) := (H1.out (w.heap.size + 1, b) (by simp)).c2
  have kc0 : w1.cell? ⟨w.heap.size + 1 + 1, 0, none⟩ = some (.bool c.neg) := (H1.out (w.heap.size + 1 + 1, c) (by simp)).c0
  have kc1 : w1.cell? ⟨w.heap.size + 1 + 1, 1, none⟩ = some (.string ⟨c.digits.toArray⟩) := (H1.out (w.heap.size + 1 + 1, c) (by simp)).c1
  have kc2 : w1.cell? ⟨w.heap.size + 1 + 1, 2, none⟩ = some (.int .i64 c.exp) := (H1.out (w.heap.size + 1 + 1, c) (by simp)).c2
  have m1 : (w1.alloc (Obj.cells #[Value.bool a.neg, Value.string { data := a.digits.toArray }, Value.int IntKind.i64 a.exp, Value.bool b.neg, Value.string { data := b.digits.toArray }, Value.int IntKind.i64 b.exp, Value.bool c.neg, Value.string { data := c.digits.toArray }, Value.int IntKind.i64 c.exp] 23)).cell? ⟨w.heap.size, 0, none⟩ = some (.bool a.neg) ∧ (w1.alloc (Obj.cells #[Value.bool a.neg, Value.string { data := a.digits.toArray }, Value.int IntKind.i64 a.exp, Value.bool b.neg, Value.string { data := b.digits.toArray }, Value.int IntKind.i64 b.exp, Value.bool c.neg, Value.string { data := c.digits.toArray }, Value.int IntKind.i64 c.exp] 23)).cell? ⟨w.heap.size, 1, none⟩ = some (.string ⟨a.digits.toArray⟩) ∧ (w1.alloc (Obj.cells #[Value.bool a.neg, Value.string { data := a.digits.toArray }, Value.int IntKind.i64 a.exp, Value.bool b.neg, Value.string { data := b.digits.toArray }, Value.int IntKind.i64 b.exp, Value.bool c.neg, Value.string { data := c.digits.toArray }, Value.int IntKind.i64 c.exp] 23)).cell? ⟨w.heap.size, 2, none⟩ = some (.int .i64 a.exp) ∧ (w1.alloc (Obj.cells #[Value.bool a.neg, Value.string { data := a.digits.toArray }, Value.int IntKind.i64 a.exp, Value.bool b.neg, Value.string { data := b.digits.toArray }, Value.int IntKind.i64 b.exp, Value.bool c.neg, Value.string { data := c.digits.toArray }, Value.int IntKind.i64 c.exp] 23)).cell? ⟨w.heap.size + 1, 0, none⟩ = some (.bool b.neg) ∧ (w1.alloc (Obj.cells #[Value.bool a.neg, Value.string { data := a.digits.toArray }, Value.int IntKind.i64 a.exp, Value.bool b.neg, Value.string { data := b.digits.toArray }, Value.int IntKind.i64 b.exp, Value.bool c.neg, Value.string { data := c.digits.toArray }, Value.int IntKind.i64 c.exp] 23)).cell? ⟨w.heap.size + 1, 1, none⟩ = some (.string ⟨b.digits.toArray⟩) ∧ (w1.alloc (Obj.cells #[Value.bool a.neg, Value.string { data := a.digits.toArray }, Value.int IntKind.i64 a.exp, Value.bool b.neg, Value.string { data := b.digits.toArray }, Value.int IntKind.i64 b.exp, Value.bool c.neg, Value.string { data := c.digits.toArray }, Value.int IntKind.i64 c.exp] 23)).cell? ⟨w.heap.size + 1, 2, none⟩ = some (.int .i64 b.exp) ∧ (w1.alloc (Obj.cells #[Value.bool a.neg, Value.string { data := a.digits.toArray }, Value.int IntKind.i64 a.exp, Value.bool b.neg, Value.string { data := b.digits.toArray }, Value.int IntKind.i64 b.exp, Value.bool c.neg, Value.string { data := c.digits.toArray }, Value.int IntKind.i64 c.exp] 23)).cell? ⟨w.heap.size + 1 + 1, 0, none⟩ = some (.bool c.neg) ∧ (w1.alloc (Obj.cells #[Value.bool a.neg, Value.string { data := a.digits.toArray }, Value.int IntKind.i64 a.exp, Value.bool b.neg, Value.string { data := b.digits.toArray }, Value.int IntKind.i64 b.exp, Value.bool c.neg, Value.string { data := c.digits.toArray }, Value.int IntKind.i64 c.exp] 23)).cell? ⟨w.heap.size + 1 + 1, 1, none⟩ = some (.string ⟨c.digits.toArray⟩) ∧ (w1.alloc (Obj.cells #[Value.bool a.neg, Value.string { data := a.digits.toArray }, Value.int IntKind.i64 a.exp, Value.bool b.neg, Value.string { data := b.digits.toArray }, Value.int IntKind.i64 b.exp, Value.bool c.neg, Value.string { data := c.digits.toArray }, Value.int IntKind.i64 c.exp] 23)).cell? ⟨w.heap.size + 1 + 1, 2, none⟩ = some (.int .i64 c.exp) := ⟨(H2.out (w.heap.size, a) (by simp)).c0, (H2.out (w.heap.size, a) (by simp)).c1, (H2.out (w.heap.size, a) (by simp)).c2, (H2.out (w.heap.size + 1, b) (by simp)).c0, (H2.out (w.heap.size + 1, b) (by simp)).c1, (H2.out (w.heap.size + 1, b) (by simp)).c2, (H2.out (w.heap.size + 1 + 1, c) (by simp)).c0, (H2.out (w.heap.size + 1 + 1, c) (by simp)).c1, (H2.out (w.heap.size + 1 + 1, c) (by simp)).c2⟩
  have M1 := Lib.hid m1
  clear m1
  clear ka0 ka1 ka2 kb0 kb1 kb2 kc0 kc1 kc2
  have hS0 : (fun w' => w'.cell? ⟨w.heap.size, 0, none⟩ = some (.bool a.neg) ∧ w'.cell? ⟨w.heap.size, 1, none⟩ = some (.string ⟨a.digits.toArray⟩) ∧ w'.cell? ⟨w.heap.size, 2, none⟩ = some (.int .i64 a.exp) ∧ w'.cell? ⟨w.heap.size + 1, 0, none⟩ = some (.bool b.neg) ∧ w'.cell? ⟨w.heap.size + 1, 1, none⟩ = some (.string ⟨b.digits.toArray⟩) ∧ w'.cell? ⟨w.heap.size + 1, 2, none⟩ = some (.int .i64 b.exp) ∧ w'.cell? ⟨w.heap.size + 1 + 1, 0, none⟩ = some (.bool c.neg) ∧ w'.cell? ⟨w.heap.size + 1 + 1, 1, none⟩ = some (.string ⟨c.digits.toArray⟩) ∧ w'.cell? ⟨w.heap.size + 1 + 1, 2, none⟩ = some (.int .i64 c.exp)) w1.drew := ⟨(H1.out (w.heap.size, a) (by simp)).c0, (H1.out (w.heap.size, a) (by simp)).c1, (H1.out (w.heap.size, a) (by simp)).c2, (H1.out (w.heap.size + 1, b) (by simp)).c0, (H1.out (w.heap.size + 1, b) (by simp)).c1, (H1.out (w.heap.size + 1, b) (by simp)).c2, (H1.out (w.heap.size + 1 + 1, c) (by simp)).c0, (H1.out (w.heap.size + 1 + 1, c) (by simp)).c1, (H1.out (w.heap.size + 1 + 1, c) (by simp)).c2⟩
  refine wp_region_held_drew (S := (fun w' => w'.cell? ⟨w.heap.size, 0, none⟩ = some (.bool a.neg) ∧ w'.cell? ⟨w.heap.size, 1, none⟩ = some (.string ⟨a.digits.toArray⟩) ∧ w'.cell? ⟨w.heap.size, 2, none⟩ = some (.int .i64 a.exp) ∧ w'.cell? ⟨w.heap.size + 1, 0, none⟩ = some (.bool b.neg) ∧ w'.cell? ⟨w.heap.size + 1, 1, none⟩ = some (.string ⟨b.digits.toArray⟩) ∧ w'.cell? ⟨w.heap.size + 1, 2, none⟩ = some (.int .i64 b.exp) ∧ w'.cell? ⟨w.heap.size + 1 + 1, 0, none⟩ = some (.bool c.neg) ∧ w'.cell? ⟨w.heap.size + 1 + 1, 1, none⟩ = some (.string ⟨c.digits.toArray⟩) ∧ w'.cell? ⟨w.heap.size + 1 + 1, 2, none⟩ = some (.int .i64 c.exp))) (by kernel_rfl) hS0 (fun hHeld0 => ?_)
  refine held_take (i := 0) (v := ?_) rfl (by kernel_rfl) (by kernel_rfl) (by kernel_rfl) (fun _ _ _ h => h) (by rfl) (fun w hSw => ?_) hHeld0 ?_
  rotate_left
  · (try dsimp only at hSw); go_simp; try with_reducible rfl
  simp only [Act.put, List.setIfInBounds_toArray, List.set_cons_zero, List.set_cons_succ]
  refine held_take (i := 1) (v := ?_) rfl (by kernel_rfl) (by kernel_rfl) (by kernel_rfl) (fun _ _ _ h => h) (by rfl) (fun w hSw => ?_) hHeld0 ?_
  rotate_left
  · (try dsimp only at hSw); go_simp; try with_reducible rfl
  simp only [Act.put, List.setIfInBounds_toArray, List.set_cons_zero, List.set_cons_succ]
  refine held_take (i := 2) (v := ?_) rfl (by kernel_rfl) (by kernel_rfl) (by kernel_rfl) (fun _ _ _ h => h) (by rfl) (fun w hSw => ?_) hHeld0 ?_
  rotate_left
  · (try dsimp only at hSw); go_simp; try with_reducible rfl
  simp only [Act.put, List.setIfInBounds_toArray, List.set_cons_zero, List.set_cons_succ]
  refine held_step (i := 3) (by kernel_rfl) rfl (by rfl) (fun K hK => ?_)
  go_simp
  refine hK.out _ _ M1.out (fun hHeld1 => ?_)
  clear hK K hHeld0
  refine held_step (i := 4) (by kernel_rfl) rfl (by rfl) (fun K hK => ?_)
  go_simp
  refine (long_calls _ _ [a, b, c] Hrd.out).mono ?_
  rintro e w2 ⟨rfl, rfl⟩
  dsimp only
  refine hK.out _ _ M1.out (fun hHeld2 => ?_)
  clear hK K hHeld1
  cases hL : longB [a, b, c] with
  | true =>
    refine held_take (i := 5) (v := ?_) rfl (by kernel_rfl) (by kernel_rfl) (by kernel_rfl) (fun _ _ _ h => h) (by rfl) (fun w hSw => ?_) hHeld2 ?_
    rotate_left
    · (try dsimp only at hSw); go_simp; try with_reducible rfl
    simp only [Act.put, List.setIfInBounds_toArray, List.set_cons_zero, List.set_cons_succ]
    refine held_skip (i := 6) rfl (by kernel_rfl) (by kernel_rfl) (by kernel_rfl) (fun _ _ _ h => h) (by rfl) hHeld2 ?_
    simp only [Act.put, List.setIfInBounds_toArray, List.set_cons_zero, List.set_cons_succ]
    refine held_skip (i := 7) rfl (by kernel_rfl) (by kernel_rfl) (by kernel_rfl) (fun _ _ _ h => h) (by rfl) hHeld2 ?_
    simp only [Act.put, List.setIfInBounds_toArray, List.set_cons_zero, List.set_cons_succ]
    refine held_skip (i := 8) rfl (by kernel_rfl) (by kernel_rfl) (by kernel_rfl) (fun _ _ _ h => h) (by rfl) hHeld2 ?_
    simp only [Act.put, List.setIfInBounds_toArray, List.set_cons_zero, List.set_cons_succ]
    refine held_skip (i := 9) rfl (by kernel_rfl) (by kernel_rfl) (by kernel_rfl) (fun _ _ _ h => h) (by rfl) hHeld2 ?_
    simp only [Act.put, List.setIfInBounds_toArray, List.set_cons_zero, List.set_cons_succ]
    refine held_skip (i := 10) rfl (by kernel_rfl) (by kernel_rfl) (by kernel_rfl) (fun _ _ _ h => h) (by rfl) hHeld2 ?_
    simp only [Act.put, List.setIfInBounds_toArray, List.set_cons_zero, List.set_cons_succ]
    refine held_skip (i := 11) rfl (by kernel_rfl) (by kernel_rfl) (by kernel_rfl) (fun _ _ _ h => h) (by rfl) hHeld2 ?_
    simp only [Act.put, List.setIfInBounds_toArray, List.set_cons_zero, List.set_cons_succ]
    refine held_skip (i := 12) rfl (by kernel_rfl) (by kernel_rfl) (by kernel_rfl) (fun _ _ _ h => h) (by rfl) hHeld2 ?_
    simp only [Act.put, List.setIfInBounds_toArray, List.set_cons_zero, List.set_cons_succ]
    refine held_skip (i := 13) rfl (by kernel_rfl) (by kernel_rfl) (by kernel_rfl) (fun _ _ _ h => h) (by rfl) hHeld2 ?_
    simp only [Act.put, List.setIfInBounds_toArray, List.set_cons_zero, List.set_cons_succ]
    refine held_skip (i := 14) rfl (by kernel_rfl) (by kernel_rfl) (by kernel_rfl) (fun _ _ _ h => h) (by rfl) hHeld2 ?_
    simp only [Act.put, List.setIfInBounds_toArray, List.set_cons_zero, List.set_cons_succ]
    refine held_skip (i := 15) rfl (by kernel_rfl) (by kernel_rfl) (by kernel_rfl) (fun _ _ _ h => h) (by rfl) hHeld2 ?_
    simp only [Act.put, List.setIfInBounds_toArray, List.set_cons_zero, List.set_cons_succ]
    refine held_skip (i := 16) rfl (by kernel_rfl) (by kernel_rfl) (by kernel_rfl) (fun _ _ _ h => h) (by rfl) hHeld2 ?_
    simp only [Act.put, List.setIfInBounds_toArray, List.set_cons_zero, List.set_cons_succ]
    refine held_skip (i := 17) rfl (by kernel_rfl) (by kernel_rfl) (by kernel_rfl) (fun _ _ _ h => h) (by rfl) hHeld2 ?_
    simp only [Act.put, List.setIfInBounds_toArray, List.set_cons_zero, List.set_cons_succ]
    refine held_take (i := 18) (v := ?_) rfl (by kernel_rfl) (by kernel_rfl) (by kernel_rfl) (fun _ _ _ h => h) (by rfl) (fun w hSw => ?_) hHeld2 ?_
    rotate_left
    · (try dsimp only at hSw); go_simp; try with_reducible rfl
    simp only [Act.put, List.setIfInBounds_toArray, List.set_cons_zero, List.set_cons_succ]
    refine wpAnyH_done (by kernel_rfl) ?_ _
    clear hHeld2
    clear hS0 M1 Hrd Hsz
    have H3 := H2
    have Ht3 := Ht2
    have hbel3 := hbel2
    clear H1 H2 Ht1 Ht2 hbel1 hbel2 hL
    go_wp2_with fail
    refine (works_calls _ Ht3.out).mono ?_
    rintro e wz ⟨rfl, hbz⟩
    have hbf := hbel3.trans (hbz.mono hbel3.size)
    clear hbz H3 Ht3 hbel3 
    go_wp2_with fail
    go_ret
    exact ⟨rfl, hbf⟩
  | false =>
    obtain ⟨la, lb, lc⟩ := longB_three hL
    clear hL hla hlb hlc
    have hka : Hid (chk a = 0 ↔ mayB a = true) := chk_iff a
    have hkb : Hid (chk b = 0 ↔ mayB b = true) := chk_iff b
    have hkc : Hid (chk c = 0 ↔ mayB c = true) := chk_iff c
    have hla0 := chk_low a
    have hlb0 := chk_low b
    have hlc0 := chk_low c
    refine held_take (i := 5) (v := ?_) rfl (by kernel_rfl) (by kernel_rfl) (by kernel_rfl) (fun _ _ _ h => h) (by rfl) (fun w hSw => ?_) hHeld2 ?_
    rotate_left
    · (try dsimp only at hSw); go_simp; try with_reducible rfl
    simp only [Act.put, List.setIfInBounds_toArray, List.set_cons_zero, List.set_cons_succ]
    refine held_take (i := 6) (v := ?_) rfl (by kernel_rfl) (by kernel_rfl) (by kernel_rfl) (fun _ _ _ h => h) (by rfl) (fun w hSw => ?_) hHeld2 ?_
    rotate_left
    · (try dsimp only at hSw); go_simp; try with_reducible rfl
    simp only [Act.put, List.setIfInBounds_toArray, List.set_cons_zero, List.set_cons_succ]
    refine held_take (i := 9) (v := ?_) rfl (by kernel_rfl) (by kernel_rfl) (by kernel_rfl) (fun _ _ _ h => h) (by rfl) (fun w hSw => ?_) hHeld2 ?_
    rotate_left
    · (try dsimp only at hSw); go_simp; try with_reducible rfl
    simp only [Act.put, List.setIfInBounds_toArray, List.set_cons_zero, List.set_cons_succ]
    refine held_take (i := 13) (v := ?_) rfl (by kernel_rfl) (by kernel_rfl) (by kernel_rfl) (fun _ _ _ h => h) (by rfl) (fun w hSw => ?_) hHeld2 ?_
    rotate_left
    · (try dsimp only at hSw); go_simp; try with_reducible rfl
    simp only [Act.put, List.setIfInBounds_toArray, List.set_cons_zero, List.set_cons_succ]
    refine held_step (i := 7) (by kernel_rfl) rfl (by rfl) (fun K hK => ?_)
    go_simp
    refine (check_calls _ a (by omega)).mono ?_
    rintro e w3 ⟨rfl, hb3⟩
    dsimp only
    have H3 := Lib.hid (H2.out.under hb3)
    have Ht3 := Lib.hid (Ht2.out.below hb3)
    have hbel3 := hbel2.trans (hb3.mono hbel2.size)
    clear hb3 H2 Ht2 hbel2
    refine hK.out _ _ ⟨(H3.out (w.heap.size, a) (by simp)).c0, (H3.out (w.heap.size, a) (by simp)).c1, (H3.out (w.heap.size, a) (by simp)).c2, (H3.out (w.heap.size + 1, b) (by simp)).c0, (H3.out (w.heap.size + 1, b) (by simp)).c1, (H3.out (w.heap.size + 1, b) (by simp)).c2, (H3.out (w.heap.size + 1 + 1, c) (by simp)).c0, (H3.out (w.heap.size + 1 + 1, c) (by simp)).c1, (H3.out (w.heap.size + 1 + 1, c) (by simp)).c2⟩ (fun hHeld3 => ?_)
    clear hK K hHeld2
    refine held_step (i := 8) (by kernel_rfl) rfl (by rfl) (fun K hK => ?_)
    go_simp
    refine (num_calls _ _).mono ?_
    rintro e w88 ⟨rfl, rfl⟩
    dsimp only
    refine hK.out _ _ ⟨(H3.out (w.heap.size, a) (by simp)).c0, (H3.out (w.heap.size, a) (by simp)).c1, (H3.out (w.heap.size, a) (by simp)).c2, (H3.out (w.heap.size + 1, b) (by simp)).c0, (H3.out (w.heap.size + 1, b) (by simp)).c1, (H3.out (w.heap.size + 1, b) (by simp)).c2, (H3.out (w.heap.size + 1 + 1, c) (by simp)).c0, (H3.out (w.heap.size + 1 + 1, c) (by simp)).c1, (H3.out (w.heap.size + 1 + 1, c) (by simp)).c2⟩ (fun hHeld4 => ?_)
    clear hK K hHeld3
    refine held_step (i := 10) (by kernel_rfl) rfl (by rfl) (fun K hK => ?_)
    go_simp
    refine (check_calls _ b (by omega)).mono ?_
    rintro e w4 ⟨rfl, hb4⟩
    dsimp only
    have H4 := Lib.hid (H3.out.under hb4)
    have Ht4 := Lib.hid (Ht3.out.below hb4)
    have hbel4 := hbel3.trans (hb4.mono hbel3.size)
    clear hb4 H3 Ht3 hbel3
    refine hK.out _ _ ⟨(H4.out (w.heap.size, a) (by simp)).c0, (H4.out (w.heap.size, a) (by simp)).c1, (H4.out (w.heap.size, a) (by simp)).c2, (H4.out (w.heap.size + 1, b) (by simp)).c0, (H4.out (w.heap.size + 1, b) (by simp)).c1, (H4.out (w.heap.size + 1, b) (by simp)).c2, (H4.out (w.heap.size + 1 + 1, c) (by simp)).c0, (H4.out (w.heap.size + 1 + 1, c) (by simp)).c1, (H4.out (w.heap.size + 1 + 1, c) (by simp)).c2⟩ (fun hHeld5 => ?_)
    clear hK K hHeld4
    refine held_step (i := 11) (by kernel_rfl) rfl (by rfl) (fun K hK => ?_)
    go_simp
    refine (num_calls _ _).mono ?_
    rintro e w88 ⟨rfl, rfl⟩
    dsimp only
    refine hK.out _ _ ⟨(H4.out (w.heap.size, a) (by simp)).c0, (H4.out (w.heap.size, a) (by simp)).c1, (H4.out (w.heap.size, a) (by simp)).c2, (H4.out (w.heap.size + 1, b) (by simp)).c0, (H4.out (w.heap.size + 1, b) (by simp)).c1, (H4.out (w.heap.size + 1, b) (by simp)).c2, (H4.out (w.heap.size + 1 + 1, c) (by simp)).c0, (H4.out (w.heap.size + 1 + 1, c) (by simp)).c1, (H4.out (w.heap.size + 1 + 1, c) (by simp)).c2⟩ (fun hHeld6 => ?_)
    clear hK K hHeld5
    refine held_take (i := 12) (v := ?_) rfl (by kernel_rfl) (by kernel_rfl) (by kernel_rfl) (fun _ _ _ h => h) (by rfl) (fun w hSw => ?_) hHeld6 ?_
    rotate_left
    · (try dsimp only at hSw); go_simp; try with_reducible rfl
    simp only [Act.put, List.setIfInBounds_toArray, List.set_cons_zero, List.set_cons_succ]
    refine held_step (i := 14) (by kernel_rfl) rfl (by rfl) (fun K hK => ?_)
    go_simp
    refine (check_calls _ c (by omega)).mono ?_
    rintro e w5 ⟨rfl, hb5⟩
    dsimp only
    have H5 := Lib.hid (H4.out.under hb5)
    have Ht5 := Lib.hid (Ht4.out.below hb5)
    have hbel5 := hbel4.trans (hb5.mono hbel4.size)
    clear hb5 H4 Ht4 hbel4
    refine hK.out _ _ ⟨(H5.out (w.heap.size, a) (by simp)).c0, (H5.out (w.heap.size, a) (by simp)).c1, (H5.out (w.heap.size, a) (by simp)).c2, (H5.out (w.heap.size + 1, b) (by simp)).c0, (H5.out (w.heap.size + 1, b) (by simp)).c1, (H5.out (w.heap.size + 1, b) (by simp)).c2, (H5.out (w.heap.size + 1 + 1, c) (by simp)).c0, (H5.out (w.heap.size + 1 + 1, c) (by simp)).c1, (H5.out (w.heap.size + 1 + 1, c) (by simp)).c2⟩ (fun hHeld7 => ?_)
    clear hK K hHeld6
    refine held_step (i := 15) (by kernel_rfl) rfl (by rfl) (fun K hK => ?_)
    go_simp
    refine (num_calls _ _).mono ?_
    rintro e w88 ⟨rfl, rfl⟩
    dsimp only
    refine hK.out _ _ ⟨(H5.out (w.heap.size, a) (by simp)).c0, (H5.out (w.heap.size, a) (by simp)).c1, (H5.out (w.heap.size, a) (by simp)).c2, (H5.out (w.heap.size + 1, b) (by simp)).c0, (H5.out (w.heap.size + 1, b) (by simp)).c1, (H5.out (w.heap.size + 1, b) (by simp)).c2, (H5.out (w.heap.size + 1 + 1, c) (by simp)).c0, (H5.out (w.heap.size + 1 + 1, c) (by simp)).c1, (H5.out (w.heap.size + 1 + 1, c) (by simp)).c2⟩ (fun hHeld8 => ?_)
    clear hK K hHeld7
    refine held_take (i := 16) (v := ?_) rfl (by kernel_rfl) (by kernel_rfl) (by kernel_rfl) (fun _ _ _ h => h) (by rfl) (fun w hSw => ?_) hHeld8 ?_
    rotate_left
    · (try dsimp only at hSw); go_simp; try with_reducible rfl
    simp only [Act.put, List.setIfInBounds_toArray, List.set_cons_zero, List.set_cons_succ]
    refine held_take (i := 17) (v := ?_) rfl (by kernel_rfl) (by kernel_rfl) (by kernel_rfl) (fun _ _ _ h => h) (by rfl) (fun w hSw => ?_) hHeld8 ?_
    rotate_left
    · (try dsimp only at hSw); go_simp; try with_reducible rfl
    simp only [Act.put, List.setIfInBounds_toArray, List.set_cons_zero, List.set_cons_succ]
    refine held_take (i := 18) (v := ?_) rfl (by kernel_rfl) (by kernel_rfl) (by kernel_rfl) (fun _ _ _ h => h) (by rfl) (fun w hSw => ?_) hHeld8 ?_
    rotate_left
    · (try dsimp only at hSw); go_simp; try with_reducible rfl
    simp only [Act.put, List.setIfInBounds_toArray, List.set_cons_zero, List.set_cons_succ]
    refine wpAnyH_done (by kernel_rfl) ?_ _
    clear hHeld8
    clear hS0 M1 Hrd Hsz H1 Ht1 hbel1
    generalize chk a = ka at *
    generalize chk b = kb at *
    generalize chk c = kc at *
    rw [IntWalk.i64_in (ka + kb) (by omega), IntWalk.i64_in (ka + kb + kc) (by omega)]
    by_cases hz : ka + kb + kc = 0
    · obtain rfl : ka = 0 := by omega
      obtain rfl : kb = 0 := by omega
      obtain rfl : kc = 0 := by omega
      have hma := hka.out.1 rfl
      have hmb := hkb.out.1 rfl
      have hmc := hkc.out.1 rfl
      clear hz hka hkb hkc hla0 hlb0 hlc0
      obtain ⟨h1, h2, h3, h4⟩ := order_all hma hmb hmc
      obtain ⟨ab, bc, ac, e1, e2, e3, e4, b1, b2, b3, hs, hx, hy, hw⟩ := h1
      have E1 := Lib.hid e1
      have E2 := Lib.hid e2
      have E3 := Lib.hid e3
      have E4 := Lib.hid e4
      have Hs := Lib.hid hs
      have E5 := Lib.hid h2
      have E6 := Lib.hid h3
      have E7 := Lib.hid h4
      have Hx := Lib.hid hx
      have Hy := Lib.hid hy
      have Hw := Lib.hid hw
      have B1 := Lib.hid b1
      have B2 := Lib.hid b2
      have B3 := Lib.hid b3
      clear e1 e2 e3 e4 h2 h3 h4 hs hx hy hw b1 b2 b3
      have ka0 : w5.cell? ⟨w.heap.size, 0, none⟩ = some (.bool a.neg) := (H5.out (w.heap.size, a) (by simp)).c0
      have ka1 : w5.cell? ⟨w.heap.size, 1, none⟩ = some (.string ⟨a.digits.toArray⟩) := (H5.out (w.heap.size, a) (by simp)).c1
      have ka2 : w5.cell? ⟨w.heap.size, 2, none⟩ = some (.int .i64 a.exp) := (H5.out (w.heap.size, a) (by simp)).c2
      have kb0 : w5.cell? ⟨w.heap.size + 1, 0, none⟩ = some (.bool b.neg) := (H5.out (w.heap.size + 1, b) (by simp)).c0
      have kb1 : w5.cell? ⟨w.heap.size + 1, 1, none⟩ = some (.string ⟨b.digits.toArray⟩) := (H5.out (w.heap.size + 1, b) (by simp)).c1
      have kb2 : w5.cell? ⟨w.heap.size + 1, 2, none⟩ = some (.int .i64 b.exp) := (H5.out (w.heap.size + 1, b) (by simp)).c2
      go_wp2_with (go_at_call 13; refine (num_calls _ _).mono ?_; rintro e w88 ⟨rfl, rfl⟩)
      refine (compare_calls _ a b (by omega) (by omega)).mono ?_
      rintro e w6 ⟨rfl, hb6⟩
      have hc6 := hb6
      have H6 := Lib.hid (H5.out.under hc6)
      have Ht6 := Lib.hid (Ht5.out.below hc6)
      have hbel6 := hbel5.trans (hc6.mono hbel5.size)
      clear hb6 hc6 H5 Ht5 hbel5 ka0 ka1 ka2 kb0 kb1 kb2
      rw [E1.out]
      dsimp only
      have kb0 : w6.cell? ⟨w.heap.size + 1, 0, none⟩ = some (.bool b.neg) := (H6.out (w.heap.size + 1, b) (by simp)).c0
      have kb1 : w6.cell? ⟨w.heap.size + 1, 1, none⟩ = some (.string ⟨b.digits.toArray⟩) := (H6.out (w.heap.size + 1, b) (by simp)).c1
      have kb2 : w6.cell? ⟨w.heap.size + 1, 2, none⟩ = some (.int .i64 b.exp) := (H6.out (w.heap.size + 1, b) (by simp)).c2
      have ka0 : w6.cell? ⟨w.heap.size, 0, none⟩ = some (.bool a.neg) := (H6.out (w.heap.size, a) (by simp)).c0
      have ka1 : w6.cell? ⟨w.heap.size, 1, none⟩ = some (.string ⟨a.digits.toArray⟩) := (H6.out (w.heap.size, a) (by simp)).c1
      have ka2 : w6.cell? ⟨w.heap.size, 2, none⟩ = some (.int .i64 a.exp) := (H6.out (w.heap.size, a) (by simp)).c2
      go_wp2_with (go_at_call 13; refine (num_calls _ _).mono ?_; rintro e w88 ⟨rfl, rfl⟩)
      refine (compare_calls _ b a (by omega) (by omega)).mono ?_
      rintro e w7 ⟨rfl, hb7⟩
      have hc7 := hb7
      have H7 := Lib.hid (H6.out.under hc7)
      have Ht7 := Lib.hid (Ht6.out.below hc7)
      have hbel7 := hbel6.trans (hc7.mono hbel6.size)
      clear hb7 hc7 H6 Ht6 hbel6 kb0 kb1 kb2 ka0 ka1 ka2
      rw [E2.out]
      dsimp only
      have kb0 : w7.cell? ⟨w.heap.size + 1, 0, none⟩ = some (.bool b.neg) := (H7.out (w.heap.size + 1, b) (by simp)).c0
      have kb1 : w7.cell? ⟨w.heap.size + 1, 1, none⟩ = some (.string ⟨b.digits.toArray⟩) := (H7.out (w.heap.size + 1, b) (by simp)).c1
      have kb2 : w7.cell? ⟨w.heap.size + 1, 2, none⟩ = some (.int .i64 b.exp) := (H7.out (w.heap.size + 1, b) (by simp)).c2
      have kc0 : w7.cell? ⟨w.heap.size + 1 + 1, 0, none⟩ = some (.bool c.neg) := (H7.out (w.heap.size + 1 + 1, c) (by simp)).c0
      have kc1 : w7.cell? ⟨w.heap.size + 1 + 1, 1, none⟩ = some (.string ⟨c.digits.toArray⟩) := (H7.out (w.heap.size + 1 + 1, c) (by simp)).c1
      have kc2 : w7.cell? ⟨w.heap.size + 1 + 1, 2, none⟩ = some (.int .i64 c.exp) := (H7.out (w.heap.size + 1 + 1, c) (by simp)).c2
      go_wp2_with (go_at_call 13; refine (num_calls _ _).mono ?_; rintro e w88 ⟨rfl, rfl⟩)
      refine (compare_calls _ b c (by omega) (by omega)).mono ?_
      rintro e w8 ⟨rfl, hb8⟩
      have hc8 := hb8
      have H8 := Lib.hid (H7.out.under hc8)
      have Ht8 := Lib.hid (Ht7.out.below hc8)
      have hbel8 := hbel7.trans (hc8.mono hbel7.size)
      clear hb8 hc8 H7 Ht7 hbel7 kb0 kb1 kb2 kc0 kc1 kc2
      rw [E3.out]
      dsimp only
      have ka0 : w8.cell? ⟨w.heap.size, 0, none⟩ = some (.bool a.neg) := (H8.out (w.heap.size, a) (by simp)).c0
      have ka1 : w8.cell? ⟨w.heap.size, 1, none⟩ = some (.string ⟨a.digits.toArray⟩) := (H8.out (w.heap.size, a) (by simp)).c1
      have ka2 : w8.cell? ⟨w.heap.size, 2, none⟩ = some (.int .i64 a.exp) := (H8.out (w.heap.size, a) (by simp)).c2
      have kc0 : w8.cell? ⟨w.heap.size + 1 + 1, 0, none⟩ = some (.bool c.neg) := (H8.out (w.heap.size + 1 + 1, c) (by simp)).c0
      have kc1 : w8.cell? ⟨w.heap.size + 1 + 1, 1, none⟩ = some (.string ⟨c.digits.toArray⟩) := (H8.out (w.heap.size + 1 + 1, c) (by simp)).c1
      have kc2 : w8.cell? ⟨w.heap.size + 1 + 1, 2, none⟩ = some (.int .i64 c.exp) := (H8.out (w.heap.size + 1 + 1, c) (by simp)).c2
      go_wp2_with (go_at_call 13; refine (num_calls _ _).mono ?_; rintro e w88 ⟨rfl, rfl⟩)
      refine (compare_calls _ a c (by omega) (by omega)).mono ?_
      rintro e w9 ⟨rfl, hb9⟩
      have hc9 := hb9
      have H9 := Lib.hid (H8.out.under hc9)
      have Ht9 := Lib.hid (Ht8.out.below hc9)
      have hbel9 := hbel8.trans (hc9.mono hbel8.size)
      clear hb9 hc9 H8 Ht8 hbel8 ka0 ka1 ka2 kc0 kc1 kc2
      rw [E4.out]
      dsimp only
      clear E1 E2 E3 E4
      have ka0 : w9.cell? ⟨w.heap.size, 0, none⟩ = some (.bool a.neg) := (H9.out (w.heap.size, a) (by simp)).c0
      have ka1 : w9.cell? ⟨w.heap.size, 1, none⟩ = some (.string ⟨a.digits.toArray⟩) := (H9.out (w.heap.size, a) (by simp)).c1
      have ka2 : w9.cell? ⟨w.heap.size, 2, none⟩ = some (.int .i64 a.exp) := (H9.out (w.heap.size, a) (by simp)).c2
      have kb0 : w9.cell? ⟨w.heap.size + 1, 0, none⟩ = some (.bool b.neg) := (H9.out (w.heap.size + 1, b) (by simp)).c0
      have kb1 : w9.cell? ⟨w.heap.size + 1, 1, none⟩ = some (.string ⟨b.digits.toArray⟩) := (H9.out (w.heap.size + 1, b) (by simp)).c1
      have kb2 : w9.cell? ⟨w.heap.size + 1, 2, none⟩ = some (.int .i64 b.exp) := (H9.out (w.heap.size + 1, b) (by simp)).c2
      go_upto_region 7 with fail
      go_cut [120] (fun u wc => u = .bool false ∧ AllAt wc [(w.heap.size, a), (w.heap.size + 1, b), (w.heap.size + 1 + 1, c)] ∧ Tab wc ∧ Below w.heap.size w wc)
      case first =>
        have heq := run_eql_dec a b
        have hs1 : sameB a b = decide (ab = 0) := by rw [Bool.eq_iff_iff, sameB_iff, decide_eq_true_eq]; exact Hs.out.symm
        rw [hs1] at heq
        clear hs1
        have b1 := B1.out
        have b2 := B2.out
        have b3 := B3.out
        rcases b1 with rfl | rfl | rfl
        all_goals rcases b2 with rfl | rfl | rfl
        all_goals rcases b3 with rfl | rfl | rfl
        all_goals first
          | (exfalso; have := Hx.out; omega)
          | skip
        all_goals clear Hx
        all_goals go_wp2_with (go_at_call 13; refine (num_calls _ _).mono ?_; rintro e w88 ⟨rfl, rfl⟩)
        all_goals go_meet
        all_goals exact ⟨rfl, H9.out, Ht9.out, hbel9⟩
      case rest =>
        obtain ⟨rfl, hcw, htc, hbc⟩ := hcut
        have H10 := Lib.hid hcw
        have Ht10 := Lib.hid htc
        have hbel10 := hbc
        clear hcw htc hbc H9 Ht9 hbel9 ka0 ka1 ka2 kb0 kb1 kb2
        clear Hx Hs B1 B2 B3
        have ka0 : wc.cell? ⟨w.heap.size, 0, none⟩ = some (.bool a.neg) := (H10.out (w.heap.size, a) (by simp)).c0
        have ka1 : wc.cell? ⟨w.heap.size, 1, none⟩ = some (.string ⟨a.digits.toArray⟩) := (H10.out (w.heap.size, a) (by simp)).c1
        have ka2 : wc.cell? ⟨w.heap.size, 2, none⟩ = some (.int .i64 a.exp) := (H10.out (w.heap.size, a) (by simp)).c2
        go_wp2_with fail
        refine (neg_calls _ a (by omega)).mono ?_
        rintro e w11 ⟨rfl, hb11⟩
        have hc11 := hb11
        have H11 := Lib.hid (H10.out.under hc11)
        have Ht11 := Lib.hid (Ht10.out.below hc11)
        have hbel11 := hbel10.trans (hc11.mono hbel10.size)
        clear hb11 hc11 H10 Ht10 hbel10 ka0 ka1 ka2
        rw [E5.out]
        simp only [DecV]
        have lna : (negD a).digits.length ≤ 1000 := la
        generalize negD a = na at *
        have H12 := Lib.hid ((H11.out.alloc (Obj.cells #[Value.bool na.neg, Value.string { data := na.digits.toArray }, Value.int IntKind.i64 na.exp] 23)).push (DecAt.at w11 na _ rfl))
        have Ht12 := Lib.hid (Ht11.out.alloc (Obj.cells #[Value.bool na.neg, Value.string { data := na.digits.toArray }, Value.int IntKind.i64 na.exp] 23))
        have hbel12 := hbel11.alloc hbel11.size (Obj.cells #[Value.bool na.neg, Value.string { data := na.digits.toArray }, Value.int IntKind.i64 na.exp] 23)
        clear H11 Ht11 hbel11
        have kb0 : (w11.alloc (Obj.cells #[Value.bool na.neg, Value.string { data := na.digits.toArray }, Value.int IntKind.i64 na.exp] 23)).cell? ⟨w.heap.size + 1, 0, none⟩ = some (.bool b.neg) := (H12.out (w.heap.size + 1, b) (by simp)).c0
        have kb1 : (w11.alloc (Obj.cells #[Value.bool na.neg, Value.string { data := na.digits.toArray }, Value.int IntKind.i64 na.exp] 23)).cell? ⟨w.heap.size + 1, 1, none⟩ = some (.string ⟨b.digits.toArray⟩) := (H12.out (w.heap.size + 1, b) (by simp)).c1
        have kb2 : (w11.alloc (Obj.cells #[Value.bool na.neg, Value.string { data := na.digits.toArray }, Value.int IntKind.i64 na.exp] 23)).cell? ⟨w.heap.size + 1, 2, none⟩ = some (.int .i64 b.exp) := (H12.out (w.heap.size + 1, b) (by simp)).c2
        go_wp2_with fail
        refine (neg_calls _ b (by omega)).mono ?_
        rintro e w13 ⟨rfl, hb13⟩
        have hc13 := hb13
        have H13 := Lib.hid (H12.out.under hc13)
        have Ht13 := Lib.hid (Ht12.out.below hc13)
        have hbel13 := hbel12.trans (hc13.mono hbel12.size)
        clear hb13 hc13 H12 Ht12 hbel12 kb0 kb1 kb2
        rw [E6.out]
        simp only [DecV]
        have lnb : (negD b).digits.length ≤ 1000 := lb
        generalize negD b = nb at *
        have H14 := Lib.hid ((H13.out.alloc (Obj.cells #[Value.bool nb.neg, Value.string { data := nb.digits.toArray }, Value.int IntKind.i64 nb.exp] 23)).push (DecAt.at w13 nb _ rfl))
        have Ht14 := Lib.hid (Ht13.out.alloc (Obj.cells #[Value.bool nb.neg, Value.string { data := nb.digits.toArray }, Value.int IntKind.i64 nb.exp] 23))
        have hbel14 := hbel13.alloc hbel13.size (Obj.cells #[Value.bool nb.neg, Value.string { data := nb.digits.toArray }, Value.int IntKind.i64 nb.exp] 23)
        clear H13 Ht13 hbel13
        have kx0 : (w13.alloc (Obj.cells #[Value.bool nb.neg, Value.string { data := nb.digits.toArray }, Value.int IntKind.i64 nb.exp] 23)).cell? ⟨w11.heap.size, 0, none⟩ = some (.bool na.neg) := (H14.out (w11.heap.size, na) (by simp)).c0
        have kx1 : (w13.alloc (Obj.cells #[Value.bool nb.neg, Value.string { data := nb.digits.toArray }, Value.int IntKind.i64 nb.exp] 23)).cell? ⟨w11.heap.size, 1, none⟩ = some (.string ⟨na.digits.toArray⟩) := (H14.out (w11.heap.size, na) (by simp)).c1
        have kx2 : (w13.alloc (Obj.cells #[Value.bool nb.neg, Value.string { data := nb.digits.toArray }, Value.int IntKind.i64 nb.exp] 23)).cell? ⟨w11.heap.size, 2, none⟩ = some (.int .i64 na.exp) := (H14.out (w11.heap.size, na) (by simp)).c2
        have ky0 : (w13.alloc (Obj.cells #[Value.bool nb.neg, Value.string { data := nb.digits.toArray }, Value.int IntKind.i64 nb.exp] 23)).cell? ⟨w13.heap.size, 0, none⟩ = some (.bool nb.neg) := (H14.out (w13.heap.size, nb) (by simp)).c0
        have ky1 : (w13.alloc (Obj.cells #[Value.bool nb.neg, Value.string { data := nb.digits.toArray }, Value.int IntKind.i64 nb.exp] 23)).cell? ⟨w13.heap.size, 1, none⟩ = some (.string ⟨nb.digits.toArray⟩) := (H14.out (w13.heap.size, nb) (by simp)).c1
        have ky2 : (w13.alloc (Obj.cells #[Value.bool nb.neg, Value.string { data := nb.digits.toArray }, Value.int IntKind.i64 nb.exp] 23)).cell? ⟨w13.heap.size, 2, none⟩ = some (.int .i64 nb.exp) := (H14.out (w13.heap.size, nb) (by simp)).c2
        go_wp2_with fail
        refine (compare_calls _ na nb (by omega) (by omega)).mono ?_
        rintro e w15 ⟨rfl, hb15⟩
        have hc15 := hb15
        have H15 := Lib.hid (H14.out.under hc15)
        have Ht15 := Lib.hid (Ht14.out.below hc15)
        have hbel15 := hbel14.trans (hc15.mono hbel14.size)
        clear hb15 hc15 H14 Ht14 hbel14 kx0 kx1 kx2 ky0 ky1 ky2
        rw [Hy.out]
        dsimp only
        have ka0 : w15.cell? ⟨w.heap.size, 0, none⟩ = some (.bool a.neg) := (H15.out (w.heap.size, a) (by simp)).c0
        have ka1 : w15.cell? ⟨w.heap.size, 1, none⟩ = some (.string ⟨a.digits.toArray⟩) := (H15.out (w.heap.size, a) (by simp)).c1
        have ka2 : w15.cell? ⟨w.heap.size, 2, none⟩ = some (.int .i64 a.exp) := (H15.out (w.heap.size, a) (by simp)).c2
        have kx0 : w15.cell? ⟨w11.heap.size, 0, none⟩ = some (.bool na.neg) := (H15.out (w11.heap.size, na) (by simp)).c0
        have kx1 : w15.cell? ⟨w11.heap.size, 1, none⟩ = some (.string ⟨na.digits.toArray⟩) := (H15.out (w11.heap.size, na) (by simp)).c1
        have kx2 : w15.cell? ⟨w11.heap.size, 2, none⟩ = some (.int .i64 na.exp) := (H15.out (w11.heap.size, na) (by simp)).c2
        go_wp2_with fail
        refine (sum_calls _ _ [a, na] (DecsAt.two _ a na (by omega) (by omega)) (by simp)).mono ?_
        rintro e w16 ⟨rfl, hb16⟩
        have hc16 : Below w15.heap.size w15 w16 := ((Below.refl _ _).alloc (Nat.le_refl _) (Obj.cells #[Value.bool a.neg, Value.string { data := a.digits.toArray }, Value.int IntKind.i64 a.exp, Value.bool na.neg, Value.string { data := na.digits.toArray }, Value.int IntKind.i64 na.exp] 23)).trans (hb16.mono (by simp))
        have H16 := Lib.hid (H15.out.under hc16)
        have Ht16 := Lib.hid (Ht15.out.below hc16)
        have hbel16 := hbel15.trans (hc16.mono hbel15.size)
        clear hb16 hc16 H15 Ht15 hbel15 ka0 ka1 ka2 kx0 kx1 kx2
        rw [E7.out]
        simp only [DecV, Dec.zero]
        clear Hy E5 E6 E7
        have H17 := Lib.hid ((H16.out.alloc (Obj.cells #[Value.bool false, Value.string { data := #[] }, Value.int IntKind.i64 0] 23)).push (DecAt.at w16 Dec.zero _ rfl))
        have Ht17 := Lib.hid (Ht16.out.alloc (Obj.cells #[Value.bool false, Value.string { data := #[] }, Value.int IntKind.i64 0] 23))
        have hbel17 := hbel16.alloc hbel16.size (Obj.cells #[Value.bool false, Value.string { data := #[] }, Value.int IntKind.i64 0] 23)
        clear H16 Ht16 hbel16
        have kzz0 : (w16.alloc (Obj.cells #[Value.bool false, Value.string { data := #[] }, Value.int IntKind.i64 0] 23)).cell? ⟨w16.heap.size, 0, none⟩ = some (.bool false) := (H17.out (w16.heap.size, Dec.zero) (by simp)).c0
        have kzz1 : (w16.alloc (Obj.cells #[Value.bool false, Value.string { data := #[] }, Value.int IntKind.i64 0] 23)).cell? ⟨w16.heap.size, 1, none⟩ = some (.string ⟨#[]⟩) := (H17.out (w16.heap.size, Dec.zero) (by simp)).c1
        have kzz2 : (w16.alloc (Obj.cells #[Value.bool false, Value.string { data := #[] }, Value.int IntKind.i64 0] 23)).cell? ⟨w16.heap.size, 2, none⟩ = some (.int .i64 0) := (H17.out (w16.heap.size, Dec.zero) (by simp)).c2
        have ka0 : (w16.alloc (Obj.cells #[Value.bool false, Value.string { data := #[] }, Value.int IntKind.i64 0] 23)).cell? ⟨w.heap.size, 0, none⟩ = some (.bool a.neg) := (H17.out (w.heap.size, a) (by simp)).c0
        have ka1 : (w16.alloc (Obj.cells #[Value.bool false, Value.string { data := #[] }, Value.int IntKind.i64 0] 23)).cell? ⟨w.heap.size, 1, none⟩ = some (.string ⟨a.digits.toArray⟩) := (H17.out (w.heap.size, a) (by simp)).c1
        have ka2 : (w16.alloc (Obj.cells #[Value.bool false, Value.string { data := #[] }, Value.int IntKind.i64 0] 23)).cell? ⟨w.heap.size, 2, none⟩ = some (.int .i64 a.exp) := (H17.out (w.heap.size, a) (by simp)).c2
        have kc0 : (w16.alloc (Obj.cells #[Value.bool false, Value.string { data := #[] }, Value.int IntKind.i64 0] 23)).cell? ⟨w.heap.size + 1 + 1, 0, none⟩ = some (.bool c.neg) := (H17.out (w.heap.size + 1 + 1, c) (by simp)).c0
        have kc1 : (w16.alloc (Obj.cells #[Value.bool false, Value.string { data := #[] }, Value.int IntKind.i64 0] 23)).cell? ⟨w.heap.size + 1 + 1, 1, none⟩ = some (.string ⟨c.digits.toArray⟩) := (H17.out (w.heap.size + 1 + 1, c) (by simp)).c1
        have kc2 : (w16.alloc (Obj.cells #[Value.bool false, Value.string { data := #[] }, Value.int IntKind.i64 0] 23)).cell? ⟨w.heap.size + 1 + 1, 2, none⟩ = some (.int .i64 c.exp) := (H17.out (w.heap.size + 1 + 1, c) (by simp)).c2
        go_wp2_with (go_at_call 13; refine (num_calls _ _).mono ?_; rintro e w88 ⟨rfl, rfl⟩)
        refine (sum_calls _ _ [a, c] (DecsAt.two1 _ _ a c (by omega) (by omega)) (by simp)).mono ?_
        rintro e w18 ⟨rfl, hb18⟩
        have hc18 : Below (w16.alloc (Obj.cells #[Value.bool false, Value.string { data := #[] }, Value.int IntKind.i64 0] 23)).heap.size (w16.alloc (Obj.cells #[Value.bool false, Value.string { data := #[] }, Value.int IntKind.i64 0] 23)) w18 := ((Below.refl _ _).alloc (Nat.le_refl _) (Obj.cells #[Value.bool a.neg, Value.string { data := a.digits.toArray }, Value.int IntKind.i64 a.exp, Value.bool c.neg, Value.string { data := c.digits.toArray }, Value.int IntKind.i64 c.exp] 23)).trans (hb18.mono (by simp))
        have H18 := Lib.hid (H17.out.under hc18)
        have Ht18 := Lib.hid (Ht17.out.below hc18)
        have hbel18 := hbel17.trans (hc18.mono hbel17.size)
        clear hb18 hc18 H17 Ht17 hbel17 kzz0 kzz1 kzz2 ka0 ka1 ka2 kc0 kc1 kc2
        simp only [DecV]
        have lp := sum_len [a, c]
        generalize sumS [a, c] = q at *
        obtain ⟨p, ep⟩ := q
        simp only at *
        have H19 := Lib.hid ((H18.out.alloc (Obj.cells #[Value.bool p.neg, Value.string { data := p.digits.toArray }, Value.int IntKind.i64 p.exp] 23)).push (DecAt.at w18 p _ rfl))
        have Ht19 := Lib.hid (Ht18.out.alloc (Obj.cells #[Value.bool p.neg, Value.string { data := p.digits.toArray }, Value.int IntKind.i64 p.exp] 23))
        have hbel19 := hbel18.alloc hbel18.size (Obj.cells #[Value.bool p.neg, Value.string { data := p.digits.toArray }, Value.int IntKind.i64 p.exp] 23)
        clear H18 Ht18 hbel18
        have kb0 : (w18.alloc (Obj.cells #[Value.bool p.neg, Value.string { data := p.digits.toArray }, Value.int IntKind.i64 p.exp] 23)).cell? ⟨w.heap.size + 1, 0, none⟩ = some (.bool b.neg) := (H19.out (w.heap.size + 1, b) (by simp)).c0
        have kb1 : (w18.alloc (Obj.cells #[Value.bool p.neg, Value.string { data := p.digits.toArray }, Value.int IntKind.i64 p.exp] 23)).cell? ⟨w.heap.size + 1, 1, none⟩ = some (.string ⟨b.digits.toArray⟩) := (H19.out (w.heap.size + 1, b) (by simp)).c1
        have kb2 : (w18.alloc (Obj.cells #[Value.bool p.neg, Value.string { data := p.digits.toArray }, Value.int IntKind.i64 p.exp] 23)).cell? ⟨w.heap.size + 1, 2, none⟩ = some (.int .i64 b.exp) := (H19.out (w.heap.size + 1, b) (by simp)).c2
        have kc0 : (w18.alloc (Obj.cells #[Value.bool p.neg, Value.string { data := p.digits.toArray }, Value.int IntKind.i64 p.exp] 23)).cell? ⟨w.heap.size + 1 + 1, 0, none⟩ = some (.bool c.neg) := (H19.out (w.heap.size + 1 + 1, c) (by simp)).c0
        have kc1 : (w18.alloc (Obj.cells #[Value.bool p.neg, Value.string { data := p.digits.toArray }, Value.int IntKind.i64 p.exp] 23)).cell? ⟨w.heap.size + 1 + 1, 1, none⟩ = some (.string ⟨c.digits.toArray⟩) := (H19.out (w.heap.size + 1 + 1, c) (by simp)).c1
        have kc2 : (w18.alloc (Obj.cells #[Value.bool p.neg, Value.string { data := p.digits.toArray }, Value.int IntKind.i64 p.exp] 23)).cell? ⟨w.heap.size + 1 + 1, 2, none⟩ = some (.int .i64 c.exp) := (H19.out (w.heap.size + 1 + 1, c) (by simp)).c2
        go_wp2_with fail
        refine (sum_calls _ _ [b, c] (DecsAt.two1 _ _ b c (by omega) (by omega)) (by simp)).mono ?_
        rintro e w20 ⟨rfl, hb20⟩
        have hc20 : Below (w18.alloc (Obj.cells #[Value.bool p.neg, Value.string { data := p.digits.toArray }, Value.int IntKind.i64 p.exp] 23)).heap.size (w18.alloc (Obj.cells #[Value.bool p.neg, Value.string { data := p.digits.toArray }, Value.int IntKind.i64 p.exp] 23)) w20 := ((Below.refl _ _).alloc (Nat.le_refl _) (Obj.cells #[Value.bool b.neg, Value.string { data := b.digits.toArray }, Value.int IntKind.i64 b.exp, Value.bool c.neg, Value.string { data := c.digits.toArray }, Value.int IntKind.i64 c.exp] 23)).trans (hb20.mono (by simp))
        have H20 := Lib.hid (H19.out.under hc20)
        have Ht20 := Lib.hid (Ht19.out.below hc20)
        have hbel20 := hbel19.trans (hc20.mono hbel19.size)
        clear hb20 hc20 H19 Ht19 hbel19 kb0 kb1 kb2 kc0 kc1 kc2
        simp only [DecV]
        have lq := sum_len [b, c]
        generalize sumS [b, c] = q at *
        obtain ⟨q, eq⟩ := q
        simp only at *
        have H21 := Lib.hid ((H20.out.alloc (Obj.cells #[Value.bool q.neg, Value.string { data := q.digits.toArray }, Value.int IntKind.i64 q.exp] 23)).push (DecAt.at w20 q _ rfl))
        have Ht21 := Lib.hid (Ht20.out.alloc (Obj.cells #[Value.bool q.neg, Value.string { data := q.digits.toArray }, Value.int IntKind.i64 q.exp] 23))
        have hbel21 := hbel20.alloc hbel20.size (Obj.cells #[Value.bool q.neg, Value.string { data := q.digits.toArray }, Value.int IntKind.i64 q.exp] 23)
        clear H20 Ht20 hbel20
        by_cases hep : ep = 0
        · subst hep
          by_cases heq : eq = 0
          · subst heq
            have hw := Hw.out rfl rfl
            have Hw2 := Lib.hid hw
            clear hw Hw
            have kp0 : (w20.alloc (Obj.cells #[Value.bool q.neg, Value.string { data := q.digits.toArray }, Value.int IntKind.i64 q.exp] 23)).cell? ⟨w18.heap.size, 0, none⟩ = some (.bool p.neg) := (H21.out (w18.heap.size, p) (by simp)).c0
            have kp1 : (w20.alloc (Obj.cells #[Value.bool q.neg, Value.string { data := q.digits.toArray }, Value.int IntKind.i64 q.exp] 23)).cell? ⟨w18.heap.size, 1, none⟩ = some (.string ⟨p.digits.toArray⟩) := (H21.out (w18.heap.size, p) (by simp)).c1
            have kp2 : (w20.alloc (Obj.cells #[Value.bool q.neg, Value.string { data := q.digits.toArray }, Value.int IntKind.i64 q.exp] 23)).cell? ⟨w18.heap.size, 2, none⟩ = some (.int .i64 p.exp) := (H21.out (w18.heap.size, p) (by simp)).c2
            have kq0 : (w20.alloc (Obj.cells #[Value.bool q.neg, Value.string { data := q.digits.toArray }, Value.int IntKind.i64 q.exp] 23)).cell? ⟨w20.heap.size, 0, none⟩ = some (.bool q.neg) := (H21.out (w20.heap.size, q) (by simp)).c0
            have kq1 : (w20.alloc (Obj.cells #[Value.bool q.neg, Value.string { data := q.digits.toArray }, Value.int IntKind.i64 q.exp] 23)).cell? ⟨w20.heap.size, 1, none⟩ = some (.string ⟨q.digits.toArray⟩) := (H21.out (w20.heap.size, q) (by simp)).c1
            have kq2 : (w20.alloc (Obj.cells #[Value.bool q.neg, Value.string { data := q.digits.toArray }, Value.int IntKind.i64 q.exp] 23)).cell? ⟨w20.heap.size, 2, none⟩ = some (.int .i64 q.exp) := (H21.out (w20.heap.size, q) (by simp)).c2
            go_wp2_with (go_at_call 13; refine (num_calls _ _).mono ?_; rintro e w88 ⟨rfl, rfl⟩)
            refine (compare_calls _ p q (by omega) (by omega)).mono ?_
            rintro e w22 ⟨rfl, hb22⟩
            have hc22 := hb22
            have H22 := Lib.hid (H21.out.under hc22)
            have Ht22 := Lib.hid (Ht21.out.below hc22)
            have hbel22 := hbel21.trans (hc22.mono hbel21.size)
            clear hb22 hc22 H21 Ht21 hbel21 kp0 kp1 kp2 kq0 kq1 kq2
            rw [Hw2.out]
            dsimp only
            have ka0 : w22.cell? ⟨w.heap.size, 0, none⟩ = some (.bool a.neg) := (H22.out (w.heap.size, a) (by simp)).c0
            have ka1 : w22.cell? ⟨w.heap.size, 1, none⟩ = some (.string ⟨a.digits.toArray⟩) := (H22.out (w.heap.size, a) (by simp)).c1
            have ka2 : w22.cell? ⟨w.heap.size, 2, none⟩ = some (.int .i64 a.exp) := (H22.out (w.heap.size, a) (by simp)).c2
            have kb0 : w22.cell? ⟨w.heap.size + 1, 0, none⟩ = some (.bool b.neg) := (H22.out (w.heap.size + 1, b) (by simp)).c0
            have kb1 : w22.cell? ⟨w.heap.size + 1, 1, none⟩ = some (.string ⟨b.digits.toArray⟩) := (H22.out (w.heap.size + 1, b) (by simp)).c1
            have kb2 : w22.cell? ⟨w.heap.size + 1, 2, none⟩ = some (.int .i64 b.exp) := (H22.out (w.heap.size + 1, b) (by simp)).c2
            have kc0 : w22.cell? ⟨w.heap.size + 1 + 1, 0, none⟩ = some (.bool c.neg) := (H22.out (w.heap.size + 1 + 1, c) (by simp)).c0
            have kc1 : w22.cell? ⟨w.heap.size + 1 + 1, 1, none⟩ = some (.string ⟨c.digits.toArray⟩) := (H22.out (w.heap.size + 1 + 1, c) (by simp)).c1
            have kc2 : w22.cell? ⟨w.heap.size + 1 + 1, 2, none⟩ = some (.int .i64 c.exp) := (H22.out (w.heap.size + 1 + 1, c) (by simp)).c2
            go_wp2_with (go_at_call 13; refine (num_calls _ _).mono ?_; rintro e w88 ⟨rfl, rfl⟩)
            refine (times_calls _ a b c la lb lc Ht22.out).mono ?_
            rintro e w23 ⟨rfl, hb23⟩
            have hc23 := hb23
            have H23 := Lib.hid (H22.out.under hc23)
            have Ht23 := Lib.hid (Ht22.out.below hc23)
            have hbel23 := hbel22.trans (hc23.mono hbel22.size)
            clear hb23 hc23 H22 Ht22 hbel22 ka0 ka1 ka2 kb0 kb1 kb2 kc0 kc1 kc2
            go_wp2_with fail
            refine (works_calls _ Ht23.out).mono ?_
            rintro e wz ⟨rfl, hbz⟩
            have hbf := hbel23.trans (hbz.mono hbel23.size)
            clear hbz H23 Ht23 hbel23 
            go_wp2_with fail
            go_ret
            exact ⟨rfl, hbf⟩
          · clear Hw
            have ka0 : (w20.alloc (Obj.cells #[Value.bool q.neg, Value.string { data := q.digits.toArray }, Value.int IntKind.i64 q.exp] 23)).cell? ⟨w.heap.size, 0, none⟩ = some (.bool a.neg) := (H21.out (w.heap.size, a) (by simp)).c0
            have ka1 : (w20.alloc (Obj.cells #[Value.bool q.neg, Value.string { data := q.digits.toArray }, Value.int IntKind.i64 q.exp] 23)).cell? ⟨w.heap.size, 1, none⟩ = some (.string ⟨a.digits.toArray⟩) := (H21.out (w.heap.size, a) (by simp)).c1
            have ka2 : (w20.alloc (Obj.cells #[Value.bool q.neg, Value.string { data := q.digits.toArray }, Value.int IntKind.i64 q.exp] 23)).cell? ⟨w.heap.size, 2, none⟩ = some (.int .i64 a.exp) := (H21.out (w.heap.size, a) (by simp)).c2
            have kb0 : (w20.alloc (Obj.cells #[Value.bool q.neg, Value.string { data := q.digits.toArray }, Value.int IntKind.i64 q.exp] 23)).cell? ⟨w.heap.size + 1, 0, none⟩ = some (.bool b.neg) := (H21.out (w.heap.size + 1, b) (by simp)).c0
            have kb1 : (w20.alloc (Obj.cells #[Value.bool q.neg, Value.string { data := q.digits.toArray }, Value.int IntKind.i64 q.exp] 23)).cell? ⟨w.heap.size + 1, 1, none⟩ = some (.string ⟨b.digits.toArray⟩) := (H21.out (w.heap.size + 1, b) (by simp)).c1
            have kb2 : (w20.alloc (Obj.cells #[Value.bool q.neg, Value.string { data := q.digits.toArray }, Value.int IntKind.i64 q.exp] 23)).cell? ⟨w.heap.size + 1, 2, none⟩ = some (.int .i64 b.exp) := (H21.out (w.heap.size + 1, b) (by simp)).c2
            have kc0 : (w20.alloc (Obj.cells #[Value.bool q.neg, Value.string { data := q.digits.toArray }, Value.int IntKind.i64 q.exp] 23)).cell? ⟨w.heap.size + 1 + 1, 0, none⟩ = some (.bool c.neg) := (H21.out (w.heap.size + 1 + 1, c) (by simp)).c0
            have kc1 : (w20.alloc (Obj.cells #[Value.bool q.neg, Value.string { data := q.digits.toArray }, Value.int IntKind.i64 q.exp] 23)).cell? ⟨w.heap.size + 1 + 1, 1, none⟩ = some (.string ⟨c.digits.toArray⟩) := (H21.out (w.heap.size + 1 + 1, c) (by simp)).c1
            have kc2 : (w20.alloc (Obj.cells #[Value.bool q.neg, Value.string { data := q.digits.toArray }, Value.int IntKind.i64 q.exp] 23)).cell? ⟨w.heap.size + 1 + 1, 2, none⟩ = some (.int .i64 c.exp) := (H21.out (w.heap.size + 1 + 1, c) (by simp)).c2
            go_wp2_with (go_at_call 13; refine (num_calls _ _).mono ?_; rintro e w88 ⟨rfl, rfl⟩)
            refine (times_calls _ a b c la lb lc Ht21.out).mono ?_
            rintro e w22 ⟨rfl, hb22⟩
            have hc22 := hb22
            have H22 := Lib.hid (H21.out.under hc22)
            have Ht22 := Lib.hid (Ht21.out.below hc22)
            have hbel22 := hbel21.trans (hc22.mono hbel21.size)
            clear hb22 hc22 H21 Ht21 hbel21 ka0 ka1 ka2 kb0 kb1 kb2 kc0 kc1 kc2
            go_wp2_with fail
            refine (works_calls _ Ht22.out).mono ?_
            rintro e wz ⟨rfl, hbz⟩
            have hbf := hbel22.trans (hbz.mono hbel22.size)
            clear hbz H22 Ht22 hbel22 
            go_wp2_with fail
            go_ret
            exact ⟨rfl, hbf⟩
        · clear Hw
          have ka0 : (w20.alloc (Obj.cells #[Value.bool q.neg, Value.string { data := q.digits.toArray }, Value.int IntKind.i64 q.exp] 23)).cell? ⟨w.heap.size, 0, none⟩ = some (.bool a.neg) := (H21.out (w.heap.size, a) (by simp)).c0
          have ka1 : (w20.alloc (Obj.cells #[Value.bool q.neg, Value.string { data := q.digits.toArray }, Value.int IntKind.i64 q.exp] 23)).cell? ⟨w.heap.size, 1, none⟩ = some (.string ⟨a.digits.toArray⟩) := (H21.out (w.heap.size, a) (by simp)).c1
          have ka2 : (w20.alloc (Obj.cells #[Value.bool q.neg, Value.string { data := q.digits.toArray }, Value.int IntKind.i64 q.exp] 23)).cell? ⟨w.heap.size, 2, none⟩ = some (.int .i64 a.exp) := (H21.out (w.heap.size, a) (by simp)).c2
          have kb0 : (w20.alloc (Obj.cells #[Value.bool q.neg, Value.string { data := q.digits.toArray }, Value.int IntKind.i64 q.exp] 23)).cell? ⟨w.heap.size + 1, 0, none⟩ = some (.bool b.neg) := (H21.out (w.heap.size + 1, b) (by simp)).c0
          have kb1 : (w20.alloc (Obj.cells #[Value.bool q.neg, Value.string { data := q.digits.toArray }, Value.int IntKind.i64 q.exp] 23)).cell? ⟨w.heap.size + 1, 1, none⟩ = some (.string ⟨b.digits.toArray⟩) := (H21.out (w.heap.size + 1, b) (by simp)).c1
          have kb2 : (w20.alloc (Obj.cells #[Value.bool q.neg, Value.string { data := q.digits.toArray }, Value.int IntKind.i64 q.exp] 23)).cell? ⟨w.heap.size + 1, 2, none⟩ = some (.int .i64 b.exp) := (H21.out (w.heap.size + 1, b) (by simp)).c2
          have kc0 : (w20.alloc (Obj.cells #[Value.bool q.neg, Value.string { data := q.digits.toArray }, Value.int IntKind.i64 q.exp] 23)).cell? ⟨w.heap.size + 1 + 1, 0, none⟩ = some (.bool c.neg) := (H21.out (w.heap.size + 1 + 1, c) (by simp)).c0
          have kc1 : (w20.alloc (Obj.cells #[Value.bool q.neg, Value.string { data := q.digits.toArray }, Value.int IntKind.i64 q.exp] 23)).cell? ⟨w.heap.size + 1 + 1, 1, none⟩ = some (.string ⟨c.digits.toArray⟩) := (H21.out (w.heap.size + 1 + 1, c) (by simp)).c1
          have kc2 : (w20.alloc (Obj.cells #[Value.bool q.neg, Value.string { data := q.digits.toArray }, Value.int IntKind.i64 q.exp] 23)).cell? ⟨w.heap.size + 1 + 1, 2, none⟩ = some (.int .i64 c.exp) := (H21.out (w.heap.size + 1 + 1, c) (by simp)).c2
          go_wp2_with (go_at_call 13; refine (num_calls _ _).mono ?_; rintro e w88 ⟨rfl, rfl⟩)
          refine (times_calls _ a b c la lb lc Ht21.out).mono ?_
          rintro e w22 ⟨rfl, hb22⟩
          have hc22 := hb22
          have H22 := Lib.hid (H21.out.under hc22)
          have Ht22 := Lib.hid (Ht21.out.below hc22)
          have hbel22 := hbel21.trans (hc22.mono hbel21.size)
          clear hb22 hc22 H21 Ht21 hbel21 ka0 ka1 ka2 kb0 kb1 kb2 kc0 kc1 kc2
          go_wp2_with fail
          refine (works_calls _ Ht22.out).mono ?_
          rintro e wz ⟨rfl, hbz⟩
          have hbf := hbel22.trans (hbz.mono hbel22.size)
          clear hbz H22 Ht22 hbel22 
          go_wp2_with fail
          go_ret
          exact ⟨rfl, hbf⟩
    · have hz1 : ((ka + kb + kc) != 0) = true := by rw [bne_iff_ne]; exact hz
      clear hka hkb hkc
      go_wp2_with fail
      refine (works_calls _ Ht5.out).mono ?_
      rintro e wz ⟨rfl, hbz⟩
      have hbf := hbel5.trans (hbz.mono hbel5.size)
      clear hbz H5 Ht5 hbel5 
      go_wp2_with fail
      go_ret
      exact ⟨rfl, hbf⟩
end Go.Proofs.YtkakmjdfecbhaaaDoor
