/- How replies are told: of the code and of the reference. Printed by gen_reply.py. -/
import Derived.Test.YtgdfgppgfkkncaaGreatDoorHtW
import Derived.Lib.ItoaLen
namespace Go.Proofs.YtgdfgppgfkkncaaGreatDoor
open Go.RowKit

def rCodes : List Int := [200, 400, 404, 405, 409, 413, 422, 431, 500, 501, 505, 507]
def rTexts : List (List UInt8) := [[79, 75], [66, 97, 100, 32, 82, 101, 113, 117, 101, 115, 116], [78, 111, 116, 32, 70, 111, 117, 110, 100], [77, 101, 116, 104, 111, 100, 32, 78, 111, 116, 32, 65, 108, 108, 111, 119, 101, 100], [67, 111, 110, 102, 108, 105, 99, 116], [67, 111, 110, 116, 101, 110, 116, 32, 84, 111, 111, 32, 76, 97, 114, 103, 101], [85, 110, 112, 114, 111, 99, 101, 115, 115, 97, 98, 108, 101, 32, 67, 111, 110, 116, 101, 110, 116], [82, 101, 113, 117, 101, 115, 116, 32, 72, 101, 97, 100, 101, 114, 32, 70, 105, 101, 108, 100, 115, 32, 84, 111, 111, 32, 76, 97, 114, 103, 101], [73, 110, 116, 101, 114, 110, 97, 108, 32, 83, 101, 114, 118, 101, 114, 32, 69, 114, 114, 111, 114], [78, 111, 116, 32, 73, 109, 112, 108, 101, 109, 101, 110, 116, 101, 100], [72, 84, 84, 80, 32, 86, 101, 114, 115, 105, 111, 110, 32, 78, 111, 116, 32, 83, 117, 112, 112, 111, 114, 116, 101, 100], [73, 110, 115, 117, 102, 102, 105, 99, 105, 101, 110, 116, 32, 83, 116, 111, 114, 97, 103, 101]]
def rElse : List UInt8 := [83, 116, 97, 116, 117, 115]
def reasonL : List Int → List (List UInt8) → Int → List UInt8
  | c :: cs, t :: ts, n => if c = n then t else reasonL cs ts n
  | _, _, _ => rElse
def reasonS (n : Int) : List UInt8 := reasonL rCodes rTexts n
theorem reason_len (n : Int) : (reasonS n).length ≤ 40 := by
  have h : ∀ (cs : List Int) (ts : List (List UInt8)), (∀ t ∈ ts, t.length ≤ 40) → (reasonL cs ts n).length ≤ 40 := by
    intro cs
    induction cs with
    | nil => intro ts _; unfold reasonL; decide
    | cons c cs ih =>
      intro ts ht
      cases ts with
      | nil => unfold reasonL; decide
      | cons t ts =>
        unfold reasonL
        split
        · exact ht t List.mem_cons_self
        · exact ih ts (fun x hx => ht x (List.mem_cons_of_mem _ hx))
  exact h _ _ (by decide)
set_option maxRecDepth 100000
set_option maxHeartbeats 2000000 in
theorem reason_calls (w : World) (n : Int) : Calls Tryz.prog 26 #[.int .i64 n] w fun e w' => e = .returned (.string ⟨(reasonS n).toArray⟩) ∧ w = w' := by
  by_cases h200 : n = 200
  · subst h200
    go_enter Tryz.func26, Tryz.ntmps26
    go_wp2
    go_ret
    exact ⟨rfl, rfl⟩
  by_cases h400 : n = 400
  · subst h400
    go_enter Tryz.func26, Tryz.ntmps26
    go_wp2
    go_ret
    exact ⟨rfl, rfl⟩
  by_cases h404 : n = 404
  · subst h404
    go_enter Tryz.func26, Tryz.ntmps26
    go_wp2
    go_ret
    exact ⟨rfl, rfl⟩
  by_cases h405 : n = 405
  · subst h405
    go_enter Tryz.func26, Tryz.ntmps26
    go_wp2
    go_ret
    exact ⟨rfl, rfl⟩
  by_cases h409 : n = 409
  · subst h409
    go_enter Tryz.func26, Tryz.ntmps26
    go_wp2
    go_ret
    exact ⟨rfl, rfl⟩
  by_cases h413 : n = 413
  · subst h413
    go_enter Tryz.func26, Tryz.ntmps26
    go_wp2
    go_ret
    exact ⟨rfl, rfl⟩
  by_cases h422 : n = 422
  · subst h422
    go_enter Tryz.func26, Tryz.ntmps26
    go_wp2
    go_ret
    exact ⟨rfl, rfl⟩
  by_cases h431 : n = 431
  · subst h431
    go_enter Tryz.func26, Tryz.ntmps26
    go_wp2
    go_ret
    exact ⟨rfl, rfl⟩
  by_cases h500 : n = 500
  · subst h500
    go_enter Tryz.func26, Tryz.ntmps26
    go_wp2
    go_ret
    exact ⟨rfl, rfl⟩
  by_cases h501 : n = 501
  · subst h501
    go_enter Tryz.func26, Tryz.ntmps26
    go_wp2
    go_ret
    exact ⟨rfl, rfl⟩
  by_cases h505 : n = 505
  · subst h505
    go_enter Tryz.func26, Tryz.ntmps26
    go_wp2
    go_ret
    exact ⟨rfl, rfl⟩
  by_cases h507 : n = 507
  · subst h507
    go_enter Tryz.func26, Tryz.ntmps26
    go_wp2
    go_ret
    exact ⟨rfl, rfl⟩
  have hS : reasonS n = rElse := by simp [reasonS, reasonL, rCodes, rTexts, Ne.symm h200, Ne.symm h400, Ne.symm h404, Ne.symm h405, Ne.symm h409, Ne.symm h413, Ne.symm h422, Ne.symm h431, Ne.symm h500, Ne.symm h501, Ne.symm h505, Ne.symm h507]
  rw [hS]
  go_enter Tryz.func26, Tryz.ntmps26
  go_wp2
  go_ret
  exact ⟨rfl, rfl⟩
theorem reason_step (j : Nat) (hj : j < 12) (n : Int) : reasonL (rCodes.drop j) (rTexts.drop j) n = if rCodes.getD j 0 = n then rTexts.getD j [] else reasonL (rCodes.drop (j + 1)) (rTexts.drop (j + 1)) n := by
  match j, hj with
  | 0, _ | 1, _ | 2, _ | 3, _ | 4, _ | 5, _ | 6, _ | 7, _ | 8, _ | 9, _ | 10, _ | 11, _ => rfl
theorem rCells_int (j : Nat) (hj : j < 12) : (#[Value.int IntKind.i64 200, Value.int IntKind.i64 400, Value.int IntKind.i64 404, Value.int IntKind.i64 405, Value.int IntKind.i64 409, Value.int IntKind.i64 413, Value.int IntKind.i64 422, Value.int IntKind.i64 431, Value.int IntKind.i64 500, Value.int IntKind.i64 501, Value.int IntKind.i64 505, Value.int IntKind.i64 507] : Array Value).toList[j]? = some (.int .i64 (rCodes.getD j 0)) := by
  match j, hj with
  | 0, _ | 1, _ | 2, _ | 3, _ | 4, _ | 5, _ | 6, _ | 7, _ | 8, _ | 9, _ | 10, _ | 11, _ => rfl
theorem rCells_str (j : Nat) (hj : j < 12) : (#[Value.string { data := #[79, 75] }, Value.string { data := #[66, 97, 100, 32, 82, 101, 113, 117, 101, 115, 116] }, Value.string { data := #[78, 111, 116, 32, 70, 111, 117, 110, 100] }, Value.string { data := #[77, 101, 116, 104, 111, 100, 32, 78, 111, 116, 32, 65, 108, 108, 111, 119, 101, 100] }, Value.string { data := #[67, 111, 110, 102, 108, 105, 99, 116] }, Value.string { data := #[67, 111, 110, 116, 101, 110, 116, 32, 84, 111, 111, 32, 76, 97, 114, 103, 101] }, Value.string { data := #[85, 110, 112, 114, 111, 99, 101, 115, 115, 97, 98, 108, 101, 32, 67, 111, 110, 116, 101, 110, 116] }, Value.string { data := #[82, 101, 113, 117, 101, 115, 116, 32, 72, 101, 97, 100, 101, 114, 32, 70, 105, 101, 108, 100, 115, 32, 84, 111, 111, 32, 76, 97, 114, 103, 101] }, Value.string { data := #[73, 110, 116, 101, 114, 110, 97, 108, 32, 83, 101, 114, 118, 101, 114, 32, 69, 114, 114, 111, 114] }, Value.string { data := #[78, 111, 116, 32, 73, 109, 112, 108, 101, 109, 101, 110, 116, 101, 100] }, Value.string { data := #[72, 84, 84, 80, 32, 86, 101, 114, 115, 105, 111, 110, 32, 78, 111, 116, 32, 83, 117, 112, 112, 111, 114, 116, 101, 100] }, Value.string { data := #[73, 110, 115, 117, 102, 102, 105, 99, 105, 101, 110, 116, 32, 83, 116, 111, 114, 97, 103, 101] }] : Array Value).toList[j]? = some (.string ⟨(rTexts.getD j []).toArray⟩) := by
  match j, hj with
  | 0, _ | 1, _ | 2, _ | 3, _ | 4, _ | 5, _ | 6, _ | 7, _ | 8, _ | 9, _ | 10, _ | 11, _ => rfl
set_option maxHeartbeats 2000000 in
theorem reasonR_calls (w : World) (n : Int) : Calls Tryz.prog 27 #[.int .i64 n] w fun e w' => e = .returned (.string ⟨(reasonS n).toArray⟩) ∧ Below w.heap.size w w' := by
  go_enter Tryz.func27, Tryz.ntmps27
  go_upto_region 3 with fail
  have R1 := (RowAt.new w #[Value.int IntKind.i64 200, Value.int IntKind.i64 400, Value.int IntKind.i64 404, Value.int IntKind.i64 405, Value.int IntKind.i64 409, Value.int IntKind.i64 413, Value.int IntKind.i64 422, Value.int IntKind.i64 431, Value.int IntKind.i64 500, Value.int IntKind.i64 501, Value.int IntKind.i64 505, Value.int IntKind.i64 507] 3).alloc (Obj.cells #[Value.string { data := #[79, 75] }, Value.string { data := #[66, 97, 100, 32, 82, 101, 113, 117, 101, 115, 116] }, Value.string { data := #[78, 111, 116, 32, 70, 111, 117, 110, 100] }, Value.string { data := #[77, 101, 116, 104, 111, 100, 32, 78, 111, 116, 32, 65, 108, 108, 111, 119, 101, 100] }, Value.string { data := #[67, 111, 110, 102, 108, 105, 99, 116] }, Value.string { data := #[67, 111, 110, 116, 101, 110, 116, 32, 84, 111, 111, 32, 76, 97, 114, 103, 101] }, Value.string { data := #[85, 110, 112, 114, 111, 99, 101, 115, 115, 97, 98, 108, 101, 32, 67, 111, 110, 116, 101, 110, 116] }, Value.string { data := #[82, 101, 113, 117, 101, 115, 116, 32, 72, 101, 97, 100, 101, 114, 32, 70, 105, 101, 108, 100, 115, 32, 84, 111, 111, 32, 76, 97, 114, 103, 101] }, Value.string { data := #[73, 110, 116, 101, 114, 110, 97, 108, 32, 83, 101, 114, 118, 101, 114, 32, 69, 114, 114, 111, 114] }, Value.string { data := #[78, 111, 116, 32, 73, 109, 112, 108, 101, 109, 101, 110, 116, 101, 100] }, Value.string { data := #[72, 84, 84, 80, 32, 86, 101, 114, 115, 105, 111, 110, 32, 78, 111, 116, 32, 83, 117, 112, 112, 111, 114, 116, 101, 100] }, Value.string { data := #[73, 110, 115, 117, 102, 102, 105, 99, 105, 101, 110, 116, 32, 83, 116, 111, 114, 97, 103, 101] }] 9)
  have R2 := RowAt.new (w.alloc (Obj.cells #[Value.int IntKind.i64 200, Value.int IntKind.i64 400, Value.int IntKind.i64 404, Value.int IntKind.i64 405, Value.int IntKind.i64 409, Value.int IntKind.i64 413, Value.int IntKind.i64 422, Value.int IntKind.i64 431, Value.int IntKind.i64 500, Value.int IntKind.i64 501, Value.int IntKind.i64 505, Value.int IntKind.i64 507] 3)) #[Value.string { data := #[79, 75] }, Value.string { data := #[66, 97, 100, 32, 82, 101, 113, 117, 101, 115, 116] }, Value.string { data := #[78, 111, 116, 32, 70, 111, 117, 110, 100] }, Value.string { data := #[77, 101, 116, 104, 111, 100, 32, 78, 111, 116, 32, 65, 108, 108, 111, 119, 101, 100] }, Value.string { data := #[67, 111, 110, 102, 108, 105, 99, 116] }, Value.string { data := #[67, 111, 110, 116, 101, 110, 116, 32, 84, 111, 111, 32, 76, 97, 114, 103, 101] }, Value.string { data := #[85, 110, 112, 114, 111, 99, 101, 115, 115, 97, 98, 108, 101, 32, 67, 111, 110, 116, 101, 110, 116] }, Value.string { data := #[82, 101, 113, 117, 101, 115, 116, 32, 72, 101, 97, 100, 101, 114, 32, 70, 105, 101, 108, 100, 115, 32, 84, 111, 111, 32, 76, 97, 114, 103, 101] }, Value.string { data := #[73, 110, 116, 101, 114, 110, 97, 108, 32, 83, 101, 114, 118, 101, 114, 32, 69, 114, 114, 111, 114] }, Value.string { data := #[78, 111, 116, 32, 73, 109, 112, 108, 101, 109, 101, 110, 116, 101, 100] }, Value.string { data := #[72, 84, 84, 80, 32, 86, 101, 114, 115, 105, 111, 110, 32, 78, 111, 116, 32, 83, 117, 112, 112, 111, 114, 116, 101, 100] }, Value.string { data := #[73, 110, 115, 117, 102, 102, 105, 99, 105, 101, 110, 116, 32, 83, 116, 111, 114, 97, 103, 101] }] 9
  have hb1 : Below w.heap.size w ((w.alloc (Obj.cells #[Value.int IntKind.i64 200, Value.int IntKind.i64 400, Value.int IntKind.i64 404, Value.int IntKind.i64 405, Value.int IntKind.i64 409, Value.int IntKind.i64 413, Value.int IntKind.i64 422, Value.int IntKind.i64 431, Value.int IntKind.i64 500, Value.int IntKind.i64 501, Value.int IntKind.i64 505, Value.int IntKind.i64 507] 3)).alloc (Obj.cells #[Value.string { data := #[79, 75] }, Value.string { data := #[66, 97, 100, 32, 82, 101, 113, 117, 101, 115, 116] }, Value.string { data := #[78, 111, 116, 32, 70, 111, 117, 110, 100] }, Value.string { data := #[77, 101, 116, 104, 111, 100, 32, 78, 111, 116, 32, 65, 108, 108, 111, 119, 101, 100] }, Value.string { data := #[67, 111, 110, 102, 108, 105, 99, 116] }, Value.string { data := #[67, 111, 110, 116, 101, 110, 116, 32, 84, 111, 111, 32, 76, 97, 114, 103, 101] }, Value.string { data := #[85, 110, 112, 114, 111, 99, 101, 115, 115, 97, 98, 108, 101, 32, 67, 111, 110, 116, 101, 110, 116] }, Value.string { data := #[82, 101, 113, 117, 101, 115, 116, 32, 72, 101, 97, 100, 101, 114, 32, 70, 105, 101, 108, 100, 115, 32, 84, 111, 111, 32, 76, 97, 114, 103, 101] }, Value.string { data := #[73, 110, 116, 101, 114, 110, 97, 108, 32, 83, 101, 114, 118, 101, 114, 32, 69, 114, 114, 111, 114] }, Value.string { data := #[78, 111, 116, 32, 73, 109, 112, 108, 101, 109, 101, 110, 116, 101, 100] }, Value.string { data := #[72, 84, 84, 80, 32, 86, 101, 114, 115, 105, 111, 110, 32, 78, 111, 116, 32, 83, 117, 112, 112, 111, 114, 116, 101, 100] }, Value.string { data := #[73, 110, 115, 117, 102, 102, 105, 99, 105, 101, 110, 116, 32, 83, 116, 111, 114, 97, 103, 101] }] 9)) := ((Below.refl _ _).alloc (Nat.le_refl _) _).alloc (by simp) _
  rw [show (w.alloc (Obj.cells #[Value.int IntKind.i64 200, Value.int IntKind.i64 400, Value.int IntKind.i64 404, Value.int IntKind.i64 405, Value.int IntKind.i64 409, Value.int IntKind.i64 413, Value.int IntKind.i64 422, Value.int IntKind.i64 431, Value.int IntKind.i64 500, Value.int IntKind.i64 501, Value.int IntKind.i64 505, Value.int IntKind.i64 507] 3)).heap.size = w.heap.size + 1 by simp] at R2
  generalize (w.alloc (Obj.cells #[Value.int IntKind.i64 200, Value.int IntKind.i64 400, Value.int IntKind.i64 404, Value.int IntKind.i64 405, Value.int IntKind.i64 409, Value.int IntKind.i64 413, Value.int IntKind.i64 422, Value.int IntKind.i64 431, Value.int IntKind.i64 500, Value.int IntKind.i64 501, Value.int IntKind.i64 505, Value.int IntKind.i64 507] 3)).alloc (Obj.cells #[Value.string { data := #[79, 75] }, Value.string { data := #[66, 97, 100, 32, 82, 101, 113, 117, 101, 115, 116] }, Value.string { data := #[78, 111, 116, 32, 70, 111, 117, 110, 100] }, Value.string { data := #[77, 101, 116, 104, 111, 100, 32, 78, 111, 116, 32, 65, 108, 108, 111, 119, 101, 100] }, Value.string { data := #[67, 111, 110, 102, 108, 105, 99, 116] }, Value.string { data := #[67, 111, 110, 116, 101, 110, 116, 32, 84, 111, 111, 32, 76, 97, 114, 103, 101] }, Value.string { data := #[85, 110, 112, 114, 111, 99, 101, 115, 115, 97, 98, 108, 101, 32, 67, 111, 110, 116, 101, 110, 116] }, Value.string { data := #[82, 101, 113, 117, 101, 115, 116, 32, 72, 101, 97, 100, 101, 114, 32, 70, 105, 101, 108, 100, 115, 32, 84, 111, 111, 32, 76, 97, 114, 103, 101] }, Value.string { data := #[73, 110, 116, 101, 114, 110, 97, 108, 32, 83, 101, 114, 118, 101, 114, 32, 69, 114, 114, 111, 114] }, Value.string { data := #[78, 111, 116, 32, 73, 109, 112, 108, 101, 109, 101, 110, 116, 101, 100] }, Value.string { data := #[72, 84, 84, 80, 32, 86, 101, 114, 115, 105, 111, 110, 32, 78, 111, 116, 32, 83, 117, 112, 112, 111, 114, 116, 101, 100] }, Value.string { data := #[73, 110, 115, 117, 102, 102, 105, 99, 105, 101, 110, 116, 32, 83, 116, 111, 114, 97, 103, 101] }] 9) = w1 at *
  have H1 := Lib.hid R1
  have H2 := Lib.hid R2
  clear R1 R2
  go_wp2_with fail
  go_loopg [5] 12 (fun k i wr => ∃ j : Nat, k = 12 - j ∧ j ≤ 12 ∧ i = .int .i64 (j : Int) ∧ wr = w1 ∧ reasonL (rCodes.drop j) (rTexts.drop j) n = reasonS n)
  case atStart => exact ⟨0, rfl, by omega, rfl, rfl, rfl⟩
  case round =>
    obtain ⟨j, hk, hj, rfl, rfl, hrel⟩ := hrel
    have Hk := Lib.hid hk
    have Hr := Lib.hid hrel
    clear hk hrel
    by_cases hlt : j < 12
    ·
      have hlt2 : (j : Int) < 12 := by omega
      have ci := H1.out.cell j _ (rCells_int j hlt)
      have cs := H2.out.cell j _ (rCells_str j hlt)
      have hst := reason_step j hlt n
      rw [Hr.out] at hst
      obtain ⟨cj, hcj⟩ : ∃ x, rCodes.getD j 0 = x := ⟨_, rfl⟩
      obtain ⟨tj, htj⟩ : ∃ x, rTexts.getD j [] = x := ⟨_, rfl⟩
      rw [hcj] at ci hst
      rw [htj] at cs hst
      have Hst := Lib.hid hst
      clear hst hcj htj
      by_cases he : cj = n
      · subst he
        have HT := Lib.hid (Hst.out.trans (if_pos rfl))
        clear Hst
        go_wp2_with fail
        go_ret
        exact ⟨by rw [HT.out]; rfl, hb1⟩
      · have he2 : (cj == n) = false := by rw [beq_eq_false_iff_ne]; exact he
        have hne : Hid (¬ cj = n) := he
        clear he
        go_wp2_with fail
        go_roundg (12 - (j + 1))
        case measure => have := Hk.out; omega
        case rel => exact ⟨j + 1, rfl, by omega, by go_num, rfl, by rw [Hst.out, if_neg hne.out]⟩
    ·
      obtain rfl : j = 12 := by omega
      have hlt2 : ¬ (12 : Int) < 12 := by omega
      have hs : reasonS n = rElse := by rw [← Hr.out]; rfl
      have Hs := Lib.hid hs
      clear hs
      go_wp2_with fail
      go_ret
      exact ⟨by rw [Hs.out]; rfl, hb1⟩
theorem statusR_calls (w : World) (n : Int) : Calls Tryz.prog 29 #[.int .i64 n] w fun e w' => e = .returned (.int .i64 (statusS n)) ∧ w = w' := by
  unfold statusS
  by_cases h0 : n = 380
  · subst h0
    go_enter Tryz.func29, Tryz.ntmps29
    go_wp2
    go_ret
    exact ⟨rfl, rfl⟩
  by_cases h1 : n = 381
  · subst h1
    go_enter Tryz.func29, Tryz.ntmps29
    go_wp2
    go_ret
    exact ⟨rfl, rfl⟩
  by_cases h2 : n = 382
  · subst h2
    go_enter Tryz.func29, Tryz.ntmps29
    go_wp2
    go_ret
    exact ⟨rfl, rfl⟩
  by_cases h3 : n = 383
  · subst h3
    go_enter Tryz.func29, Tryz.ntmps29
    go_wp2
    go_ret
    exact ⟨rfl, rfl⟩
  by_cases h4 : n = 384
  · subst h4
    go_enter Tryz.func29, Tryz.ntmps29
    go_wp2
    go_ret
    exact ⟨rfl, rfl⟩
  rw [if_neg h0, if_neg h1, if_neg h2, if_neg h3, if_neg h4]
  go_enter Tryz.func29, Tryz.ntmps29
  go_wp2
  go_ret
  exact ⟨rfl, rfl⟩
/-- A reply's head. -/
def rHead : List UInt8 := [72, 84, 84, 80, 47, 49, 46, 49, 32]
def rType : List UInt8 := [67, 111, 110, 116, 101, 110, 116, 45, 84, 121, 112, 101, 58, 32, 97, 112, 112, 108, 105, 99, 97, 116, 105, 111, 110, 47, 118, 110, 100, 46, 115, 99, 104, 101, 109, 97, 114, 101, 103, 105, 115, 116, 114, 121, 46, 118, 49, 43, 106, 115, 111, 110]
def rLen : List UInt8 := [67, 111, 110, 116, 101, 110, 116, 45, 76, 101, 110, 103, 116, 104, 58, 32]
def rConn : List UInt8 := [67, 111, 110, 110, 101, 99, 116, 105, 111, 110, 58, 32, 99, 108, 111, 115, 101]
def responseS (st : Int) (n : Nat) (close : Bool) (body : List UInt8) : List UInt8 :=
  rHead ++ Lib.itoa st ++ [32] ++ reasonS st ++ ([13, 10] ++ rType ++ [13, 10] ++ rLen) ++ Lib.itoa n ++ [13, 10] ++ (if close then rConn ++ [13, 10] else []) ++ [13, 10] ++ body
def stS (status : Int) : Int := if status < 100 ∨ 599 < status then 500 else status
theorem below_grow (w : World) (k : Nat) (os : Array Obj) : Below w.heap.size w (Sort.grow (w.drewN k) os) :=
  ⟨rfl, rfl, rfl, by simp [Sort.grow], fun j hj => by show ((w.drewN k).heap ++ os)[j]? = _; rw [Array.getElem?_append_left (by simpa using hj)]; rfl⟩
theorem itoa_calls (w : World) (he : Env w) (n : Int) (h0 : -9223372036854775808 ≤ n) (h1 : n ≤ 9223372036854775807) : Calls Tryz.prog 53 #[.int .i64 n] w fun e w' => e = .returned (.string ⟨(Lib.itoa n).toArray⟩) ∧ Below w.heap.size w w' := by
  refine (Tryz.strconv_Itoa n h0 h1 w he.tab).mono ?_
  rintro e w' ⟨rfl, k, os, rfl⟩
  exact ⟨rfl, below_grow w k os⟩
set_option maxHeartbeats 4000000 in
theorem responseR_calls (w : World) (he : Env w) (status : Int) (close : Bool) (x : Value) (l : List UInt8) (hx : BytS w x l) (hl : l.length ≤ 100000) (h0 : -9223372036854775808 ≤ status) (h1 : status ≤ 9223372036854775807) :
    Calls Tryz.prog 25 #[.int .i64 status, .bool close, x] w fun e w' => e = .returned (.string ⟨(responseS (stS status) l.length close l).toArray⟩) ∧ Below w.heap.size w w' := by
  obtain ⟨px, cx, rfl, hlx, _, _⟩ := hx.open
  have He := Lib.hid he
  have Hx := Lib.hid hx
  clear he hx
  unfold stS
  go_enter Tryz.func25, Tryz.ntmps25
  by_cases ha : status < 100
  ·
    rw [if_pos (.inl ha)]
    go_wp2_with fail
    refine (itoa_calls w He.out 500 (by omega) (by omega)).mono ?_
    rintro e w1 ⟨rfl, hb1⟩
    have hi1 := Lib.itoa_length_le 500 (by omega) (by omega)
    generalize hI1 : Lib.itoa 500 = i1 at *
    have Hb1 := Lib.hid hb1
    have HI1 := Lib.hid hI1
    clear hb1 hI1
    have z1 : ¬ 9223372036854775807 < 9 + i1.length := by omega
    have z2 : ¬ 9223372036854775807 < 9 + i1.length + 1 := by omega
    go_wp2_with fail
    refine (reasonR_calls w1 500).mono ?_
    rintro e w2 ⟨rfl, hb2⟩
    have hi2 := reason_len 500
    generalize hI2 : reasonS 500 = i2 at *
    have Hb2 := Lib.hid (Hb1.out.trans (hb2.mono Hb1.out.size))
    have HI2 := Lib.hid hI2
    clear hb2 hI2
    go_wp2_with fail
    refine (itoa_calls w2 (He.out.below Hb2.out) (l.length : Int) (by omega) (by omega)).mono ?_
    rintro e w3 ⟨rfl, hb3⟩
    have hi3 := Lib.itoa_length_le (l.length : Int) (by omega) (by omega)
    generalize hI3 : Lib.itoa (l.length : Int) = i3 at *
    have Hb3 := Lib.hid (Hb2.out.trans (hb3.mono Hb2.out.size))
    have HI3 := Lib.hid hI3
    clear hb3 hI3
    have hstr := (Hx.out.below Hb3.out).string
    cases close with
    | true =>
      go_wp2_with fail
      go_ret
      refine ⟨congrArg (fun b => Ending.returned (Value.string b)) (bytes_eq ?_), Hb3.out⟩
      unfold responseS
      rw [HI1.out, HI2.out, HI3.out]
      simp [ByteArray.data_append, rHead, rType, rLen, rConn]
    | false =>
      go_wp2_with fail
      go_ret
      refine ⟨congrArg (fun b => Ending.returned (Value.string b)) (bytes_eq ?_), Hb3.out⟩
      unfold responseS
      rw [HI1.out, HI2.out, HI3.out]
      simp [ByteArray.data_append, rHead, rType, rLen]
  by_cases hc : 599 < status
  ·
    rw [if_pos (.inr hc)]
    go_wp2_with fail
    refine (itoa_calls w He.out 500 (by omega) (by omega)).mono ?_
    rintro e w1 ⟨rfl, hb1⟩
    have hi1 := Lib.itoa_length_le 500 (by omega) (by omega)
    generalize hI1 : Lib.itoa 500 = i1 at *
    have Hb1 := Lib.hid hb1
    have HI1 := Lib.hid hI1
    clear hb1 hI1
    have z1 : ¬ 9223372036854775807 < 9 + i1.length := by omega
    have z2 : ¬ 9223372036854775807 < 9 + i1.length + 1 := by omega
    go_wp2_with fail
    refine (reasonR_calls w1 500).mono ?_
    rintro e w2 ⟨rfl, hb2⟩
    have hi2 := reason_len 500
    generalize hI2 : reasonS 500 = i2 at *
    have Hb2 := Lib.hid (Hb1.out.trans (hb2.mono Hb1.out.size))
    have HI2 := Lib.hid hI2
    clear hb2 hI2
    go_wp2_with fail
    refine (itoa_calls w2 (He.out.below Hb2.out) (l.length : Int) (by omega) (by omega)).mono ?_
    rintro e w3 ⟨rfl, hb3⟩
    have hi3 := Lib.itoa_length_le (l.length : Int) (by omega) (by omega)
    generalize hI3 : Lib.itoa (l.length : Int) = i3 at *
    have Hb3 := Lib.hid (Hb2.out.trans (hb3.mono Hb2.out.size))
    have HI3 := Lib.hid hI3
    clear hb3 hI3
    have hstr := (Hx.out.below Hb3.out).string
    cases close with
    | true =>
      go_wp2_with fail
      go_ret
      refine ⟨congrArg (fun b => Ending.returned (Value.string b)) (bytes_eq ?_), Hb3.out⟩
      unfold responseS
      rw [HI1.out, HI2.out, HI3.out]
      simp [ByteArray.data_append, rHead, rType, rLen, rConn]
    | false =>
      go_wp2_with fail
      go_ret
      refine ⟨congrArg (fun b => Ending.returned (Value.string b)) (bytes_eq ?_), Hb3.out⟩
      unfold responseS
      rw [HI1.out, HI2.out, HI3.out]
      simp [ByteArray.data_append, rHead, rType, rLen]
  rw [if_neg (by omega)]
  go_wp2_with fail
  refine (itoa_calls w He.out status (by omega) (by omega)).mono ?_
  rintro e w1 ⟨rfl, hb1⟩
  have hi1 := Lib.itoa_length_le status (by omega) (by omega)
  generalize hI1 : Lib.itoa status = i1 at *
  have Hb1 := Lib.hid hb1
  have HI1 := Lib.hid hI1
  clear hb1 hI1
  have z1 : ¬ 9223372036854775807 < 9 + i1.length := by omega
  have z2 : ¬ 9223372036854775807 < 9 + i1.length + 1 := by omega
  go_wp2_with fail
  refine (reasonR_calls w1 status).mono ?_
  rintro e w2 ⟨rfl, hb2⟩
  have hi2 := reason_len status
  generalize hI2 : reasonS status = i2 at *
  have Hb2 := Lib.hid (Hb1.out.trans (hb2.mono Hb1.out.size))
  have HI2 := Lib.hid hI2
  clear hb2 hI2
  go_wp2_with fail
  refine (itoa_calls w2 (He.out.below Hb2.out) (l.length : Int) (by omega) (by omega)).mono ?_
  rintro e w3 ⟨rfl, hb3⟩
  have hi3 := Lib.itoa_length_le (l.length : Int) (by omega) (by omega)
  generalize hI3 : Lib.itoa (l.length : Int) = i3 at *
  have Hb3 := Lib.hid (Hb2.out.trans (hb3.mono Hb2.out.size))
  have HI3 := Lib.hid hI3
  clear hb3 hI3
  have hstr := (Hx.out.below Hb3.out).string
  cases close with
  | true =>
    go_wp2_with fail
    go_ret
    refine ⟨congrArg (fun b => Ending.returned (Value.string b)) (bytes_eq ?_), Hb3.out⟩
    unfold responseS
    rw [HI1.out, HI2.out, HI3.out]
    simp [ByteArray.data_append, rHead, rType, rLen, rConn]
  | false =>
    go_wp2_with fail
    go_ret
    refine ⟨congrArg (fun b => Ending.returned (Value.string b)) (bytes_eq ?_), Hb3.out⟩
    unfold responseS
    rw [HI1.out, HI2.out, HI3.out]
    simp [ByteArray.data_append, rHead, rType, rLen]
theorem BytS.cast {w : World} {v : Value} {a b : List UInt8} (h : BytS w v a) (e : a = b) : BytS w v b := e ▸ h
theorem join3 (a b c sep : List UInt8) : Lib.join [a, b, c] sep = a ++ sep ++ b ++ sep ++ c := by simp [Lib.join, List.intercalate, List.intersperse]
theorem join4 (a b c d sep : List UInt8) : Lib.join [a, b, c, d] sep = a ++ sep ++ b ++ sep ++ c ++ sep ++ d := by simp [Lib.join, List.intercalate, List.intersperse]
theorem Tryz.info9 : (Tryz.prog.info? 9).map (fun i => (i.zero, i.size, i.bytes)) = some (some (.string .empty), 1, 16) := by kernel_rfl
/-- 'append(l, s)' of three texts and one. -/
theorem wpList_append_one {w : World} {ops : Array Oper} {rest : List Oper} {o : Oper} {a : Act} {Q : Exit → Act → World → Prop} (hgd : o.guard = none) (s x : Operand)
    (ho : o.op = .call { callee := .builtin .append, args := #[s, x], argTypes := #[79, 79] })
    (g g2 : Nat) (u0 u1 u2 u3 : List UInt8) (hs : a.eval s = .slice (some ⟨g, 0, none⟩) 3 3) (h3 : RowAt w g (strs [u0, u1, u2])) (hx : a.eval x = .slice (some ⟨g2, 0, none⟩) 1 1) (h1 : RowAt w g2 (strs [u3]))
    (hK : ∀ g4 cap w', RowAt w' g4 (strs [u0, u1, u2, u3]) → 4 ≤ cap → Below w.heap.size w w' → wpList Tryz.prog ops Q rest (a.put o.dst (.slice (some ⟨g4, 0, none⟩) 4 cap)) w') :
    wpList Tryz.prog ops Q (o :: rest) a w := by
  obtain ⟨i0, hi, hz0, hz1, hz2⟩ := info_parts Tryz.info9
  refine wpList_plain hgd fun K hK' => ?_
  obtain ⟨v', w', hrun, ho2, hg⟩ := run_append_arg_grows (P := Tryz.prog) w 79 o.type 9 i0 _ 1 16 Tryz.underlying79 hi hz0 hz1 hz2 rfl (by decide) ⟨g, 0, none⟩ 3 3 (strs [u0, u1, u2]) rfl
    (fun j u hj => by rw [addr_off rfl, Nat.zero_add]; exact h3.cell j u hj) ⟨g2, 0, none⟩ 1 1 (strs [u3]) rfl (fun j u hj => by rw [addr_off rfl, Nat.zero_add]; exact h1.cell j u hj) (by decide) (by decide) (by decide)
  rcases ho2.2 with ⟨_, h⟩ | ⟨g4, cap, cur, rfl, hb4, hh, hc4, _⟩
  · cases h
  unfold Oper.wp
  simp [execOp, ho, resolve, invoke, builtin, hs, hx, hrun, Result.andThen]
  refine hK' _ _ (hK g4 cap w' ⟨fun i v hv => ?_, fun i => World.ownsRow.frozenAt ho2 i, (Array.getElem?_eq_some_iff.1 hh).1⟩ hc4 ⟨hg.os, hg.tape, hg.output, hg.size, fun k hk => hg.block k hk (by simp)⟩)
  have hi4 := (List.getElem?_eq_some_iff.1 hv).1
  rw [World.ownsRow.cellAt ho2 i (by simpa [strs] using hi4)]
  exact hv
theorem join3_calls (w : World) (g cap : Nat) (a b c : List UInt8) (h : RowAt w g (strs [a, b, c])) (hc : 3 ≤ cap) (hl : (a ++ [13, 10] ++ b ++ [13, 10] ++ c).length ≤ 100000) :
    Calls Tryz.prog 54 #[.slice (some ⟨g, 0, none⟩) 3 cap, .string ⟨#[13, 10]⟩] w fun e w' => e = .returned (.string ⟨(a ++ [13, 10] ++ b ++ [13, 10] ++ c).toArray⟩) ∧ Below w.heap.size w w' := by
  have e : Lib.join ([(⟨a.toArray⟩ : ByteArray), ⟨b.toArray⟩, ⟨c.toArray⟩].map (·.data.toList)) (⟨#[13, 10]⟩ : ByteArray).data.toList = a ++ [13, 10] ++ b ++ [13, 10] ++ c := join3 a b c [13, 10]
  have h9 := Tryz.strings_Join g 0 cap [⟨a.toArray⟩, ⟨b.toArray⟩, ⟨c.toArray⟩] ⟨#[13, 10]⟩ w (fun j x hj => by
    rw [Nat.zero_add]
    match j, hj with
    | 0, hj => cases hj; exact h.cell 0 _ rfl
    | 1, hj => cases hj; exact h.cell 1 _ rfl
    | 2, hj => cases hj; exact h.cell 2 _ rfl) h.lt (by simp) (by simpa using hc) (by rw [e]; omega)
  rw [e] at h9
  exact h9
theorem join4_calls (w : World) (g cap : Nat) (a b c d : List UInt8) (h : RowAt w g (strs [a, b, c, d])) (hc : 4 ≤ cap) (hl : (a ++ [13, 10] ++ b ++ [13, 10] ++ c ++ [13, 10] ++ d).length ≤ 100000) :
    Calls Tryz.prog 54 #[.slice (some ⟨g, 0, none⟩) 4 cap, .string ⟨#[13, 10]⟩] w fun e w' => e = .returned (.string ⟨(a ++ [13, 10] ++ b ++ [13, 10] ++ c ++ [13, 10] ++ d).toArray⟩) ∧ Below w.heap.size w w' := by
  have e : Lib.join ([(⟨a.toArray⟩ : ByteArray), ⟨b.toArray⟩, ⟨c.toArray⟩, ⟨d.toArray⟩].map (·.data.toList)) (⟨#[13, 10]⟩ : ByteArray).data.toList = a ++ [13, 10] ++ b ++ [13, 10] ++ c ++ [13, 10] ++ d := join4 a b c d [13, 10]
  have h9 := Tryz.strings_Join g 0 cap [⟨a.toArray⟩, ⟨b.toArray⟩, ⟨c.toArray⟩, ⟨d.toArray⟩] ⟨#[13, 10]⟩ w (fun j x hj => by
    rw [Nat.zero_add]
    match j, hj with
    | 0, hj => cases hj; exact h.cell 0 _ rfl
    | 1, hj => cases hj; exact h.cell 1 _ rfl
    | 2, hj => cases hj; exact h.cell 2 _ rfl
    | 3, hj => cases hj; exact h.cell 3 _ rfl) h.lt (by simp) (by simpa using hc) (by rw [e]; omega)
  rw [e] at h9
  exact h9
set_option maxHeartbeats 8000000 in
theorem response_calls (w : World) (he : Env w) (status : Int) (close : Bool) (x : Value) (l : List UInt8) (hx : BytS w x l) (hl : l.length ≤ 100000) (h0 : -9223372036854775808 ≤ status) (h1 : status ≤ 9223372036854775807) :
    Calls Tryz.prog 24 #[.int .i64 status, .bool close, x] w fun e w' => (∃ v, e = .returned v ∧ BytS w' v (responseS (stS status) l.length close l)) ∧ Below w.heap.size w w' := by
  obtain ⟨px, cx, rfl, hlx, _, _⟩ := hx.open
  have He := Lib.hid he
  have Hx := Lib.hid hx
  clear he hx
  unfold stS
  go_enter Tryz.func24, Tryz.ntmps24
  by_cases ha : status < 100
  ·
    rw [if_pos (.inl ha)]
    go_wp2_with fail
    refine (itoa_calls w He.out 500 (by omega) (by omega)).mono ?_
    rintro e w1 ⟨rfl, hb1⟩
    have hi1 := Lib.itoa_length_le 500 (by omega) (by omega)
    generalize hI1 : Lib.itoa 500 = i1 at *
    have Hb1 := Lib.hid hb1
    have HI1 := Lib.hid hI1
    clear hb1 hI1
    go_wp2_with fail
    refine (reason_calls w1 500).mono ?_
    rintro e w2 ⟨rfl, rfl⟩
    have hi2 := reason_len 500
    generalize hI2 : reasonS 500 = i2 at *
    have HI2 := Lib.hid hI2
    clear hI2
    go_wp2_with fail
    refine (itoa_calls w1 (He.out.below Hb1.out) (l.length : Int) (by omega) (by omega)).mono ?_
    rintro e w3 ⟨rfl, hb3⟩
    have hi3 := Lib.itoa_length_le (l.length : Int) (by omega) (by omega)
    generalize hI3 : Lib.itoa (l.length : Int) = i3 at *
    have Hb3 := Lib.hid (Hb1.out.trans (hb3.mono Hb1.out.size))
    have HI3 := Lib.hid hI3
    clear hb3 hI3
    cases close with
    | false =>
      obtain ⟨u0, hu0⟩ : ∃ x : List UInt8, [72, 84, 84, 80, 47, 49, 46, 49, 32] ++ i1 ++ [32] ++ i2 = x := ⟨_, rfl⟩
      obtain ⟨u2, hu2⟩ : ∃ x : List UInt8, [67, 111, 110, 116, 101, 110, 116, 45, 76, 101, 110, 103, 116, 104, 58, 32] ++ i3 = x := ⟨_, rfl⟩
      have hl0 : u0.length ≤ 100 := by rw [← hu0]; simp; omega
      have hl2 : u2.length ≤ 100 := by rw [← hu2]; simp; omega
      have Hu0 := Lib.hid hu0
      have Hu2 := Lib.hid hu2
      go_wp2_with fail
      simp only [bytes_app]
      rw [hu0, hu2]
      clear hu0 hu2
      have R3 : RowAt (w3.alloc (Obj.cells #[Value.string { data := u0.toArray }, Value.string { data := #[67, 111, 110, 116, 101, 110, 116, 45, 84, 121, 112, 101, 58, 32, 97, 112, 112, 108, 105, 99, 97, 116, 105, 111, 110, 47, 118, 110, 100, 46, 115, 99, 104, 101, 109, 97, 114, 101, 103, 105, 115, 116, 114, 121, 46, 118, 49, 43, 106, 115, 111, 110] }, Value.string { data := u2.toArray }] 9)) w3.heap.size (strs [u0, rType, u2]) := RowAt.new w3 #[Value.string { data := u0.toArray }, Value.string { data := #[67, 111, 110, 116, 101, 110, 116, 45, 84, 121, 112, 101, 58, 32, 97, 112, 112, 108, 105, 99, 97, 116, 105, 111, 110, 47, 118, 110, 100, 46, 115, 99, 104, 101, 109, 97, 114, 101, 103, 105, 115, 116, 114, 121, 46, 118, 49, 43, 106, 115, 111, 110] }, Value.string { data := u2.toArray }] 9
      have hb4 : Below w.heap.size w (w3.alloc (Obj.cells #[Value.string { data := u0.toArray }, Value.string { data := #[67, 111, 110, 116, 101, 110, 116, 45, 84, 121, 112, 101, 58, 32, 97, 112, 112, 108, 105, 99, 97, 116, 105, 111, 110, 47, 118, 110, 100, 46, 115, 99, 104, 101, 109, 97, 114, 101, 103, 105, 115, 116, 114, 121, 46, 118, 49, 43, 106, 115, 111, 110] }, Value.string { data := u2.toArray }] 9)) := Hb3.out.alloc Hb3.out.size _
      generalize w3.alloc (Obj.cells #[Value.string { data := u0.toArray }, Value.string { data := #[67, 111, 110, 116, 101, 110, 116, 45, 84, 121, 112, 101, 58, 32, 97, 112, 112, 108, 105, 99, 97, 116, 105, 111, 110, 47, 118, 110, 100, 46, 115, 99, 104, 101, 109, 97, 114, 101, 103, 105, 115, 116, 114, 121, 46, 118, 49, 43, 106, 115, 111, 110] }, Value.string { data := u2.toArray }] 9) = w4 at *
      refine (join3_calls w4 _ 3 u0 rType u2 R3 (by omega) (by simp [rType]; omega)).mono ?_
      rintro e w5 ⟨rfl, hb5⟩
      have hlJ : (u0 ++ [13, 10] ++ rType ++ [13, 10] ++ u2).length ≤ 1000 := by simp [rType]; omega
      obtain ⟨J, hJ⟩ : ∃ x, u0 ++ [13, 10] ++ rType ++ [13, 10] ++ u2 = x := ⟨_, rfl⟩
      rw [hJ] at hlJ ⊢
      have HJ := Lib.hid hJ
      have Hb5 := Lib.hid (hb4.trans (hb5.mono hb4.size))
      clear hJ hb4 hb5 R3
      obtain ⟨K9, hK9⟩ : ∃ x : List UInt8, J ++ [13, 10, 13, 10] = x := ⟨_, rfl⟩
      have hlK : K9.length ≤ 1010 := by rw [← hK9]; simp; omega
      have eK : ((⟨J.toArray⟩ : ByteArray) ++ ⟨#[13, 10, 13, 10]⟩) = ⟨K9.toArray⟩ := by rw [← hK9]; exact bytes_app J [13, 10, 13, 10]
      have HK9 := Lib.hid hK9
      clear hK9
      obtain ⟨kc, hcv, hwv, hbv⟩ := waitV_string w5 K9 (by omega)
      have Hwv := Lib.hid hwv
      have Hxw := Lib.hid ((Hx.out.below Hb5.out).below hbv)
      have Hb6 := Lib.hid (Hb5.out.trans (hbv.mono Hb5.out.size))
      have hsz5 : w5.heap.size ≤ (Lib.bytesWorld w5 5 ⟨K9.toArray⟩).heap.size := hbv.size
      clear hwv hbv
      go_wp2_with (at_builtin; go_must (refine wpList_append_wait rfl _ _ rfl w5.heap.size _ _ K9 l rfl Hwv.out rfl Hxw.out (by omega) hsz5 ?_))
      intro v7 w7 hv7 hg7 _
      have Hv7 := Lib.hid hv7
      have Hb7 := Lib.hid (Hb6.out.grown hg7 Hb6.out.size (fun k hk => by cases hk; exact Hb5.out.size))
      clear hv7 hg7
      go_wp2_with fail
      go_ret
      refine ⟨⟨_, rfl, ?_⟩, Hb7.out⟩
      have h9 := Hv7.out.byts
      rw [← HK9.out, ← HJ.out, ← Hu0.out, ← Hu2.out, ← HI1.out, ← HI2.out, ← HI3.out] at h9
      refine h9.cast ?_
      unfold responseS
      simp [rHead, rType, rLen]
    | true =>
      obtain ⟨u0, hu0⟩ : ∃ x : List UInt8, [72, 84, 84, 80, 47, 49, 46, 49, 32] ++ i1 ++ [32] ++ i2 = x := ⟨_, rfl⟩
      obtain ⟨u2, hu2⟩ : ∃ x : List UInt8, [67, 111, 110, 116, 101, 110, 116, 45, 76, 101, 110, 103, 116, 104, 58, 32] ++ i3 = x := ⟨_, rfl⟩
      have hl0 : u0.length ≤ 100 := by rw [← hu0]; simp; omega
      have hl2 : u2.length ≤ 100 := by rw [← hu2]; simp; omega
      have Hu0 := Lib.hid hu0
      have Hu2 := Lib.hid hu2
      have e0 : ((⟨#[72, 84, 84, 80, 47, 49, 46, 49, 32]⟩ : ByteArray) ++ ⟨i1.toArray⟩ ++ ⟨#[32]⟩ ++ ⟨i2.toArray⟩) = ⟨u0.toArray⟩ := by rw [← hu0]; simp only [bytes_app]
      have e2 : ((⟨#[67, 111, 110, 116, 101, 110, 116, 45, 76, 101, 110, 103, 116, 104, 58, 32]⟩ : ByteArray) ++ ⟨i3.toArray⟩) = ⟨u2.toArray⟩ := by rw [← hu2]; simp only [bytes_app]
      clear hu0 hu2
      have R3 : RowAt (w3.alloc (Obj.cells #[Value.string { data := u0.toArray }, Value.string { data := #[67, 111, 110, 116, 101, 110, 116, 45, 84, 121, 112, 101, 58, 32, 97, 112, 112, 108, 105, 99, 97, 116, 105, 111, 110, 47, 118, 110, 100, 46, 115, 99, 104, 101, 109, 97, 114, 101, 103, 105, 115, 116, 114, 121, 46, 118, 49, 43, 106, 115, 111, 110] }, Value.string { data := u2.toArray }] 9)) w3.heap.size (strs [u0, rType, u2]) := RowAt.new w3 #[Value.string { data := u0.toArray }, Value.string { data := #[67, 111, 110, 116, 101, 110, 116, 45, 84, 121, 112, 101, 58, 32, 97, 112, 112, 108, 105, 99, 97, 116, 105, 111, 110, 47, 118, 110, 100, 46, 115, 99, 104, 101, 109, 97, 114, 101, 103, 105, 115, 116, 114, 121, 46, 118, 49, 43, 106, 115, 111, 110] }, Value.string { data := u2.toArray }] 9
      have R3b := R3.alloc (Obj.cells #[Value.string { data := #[67, 111, 110, 110, 101, 99, 116, 105, 111, 110, 58, 32, 99, 108, 111, 115, 101] }] 9)
      have R1 : RowAt ((w3.alloc (Obj.cells #[Value.string { data := u0.toArray }, Value.string { data := #[67, 111, 110, 116, 101, 110, 116, 45, 84, 121, 112, 101, 58, 32, 97, 112, 112, 108, 105, 99, 97, 116, 105, 111, 110, 47, 118, 110, 100, 46, 115, 99, 104, 101, 109, 97, 114, 101, 103, 105, 115, 116, 114, 121, 46, 118, 49, 43, 106, 115, 111, 110] }, Value.string { data := u2.toArray }] 9)).alloc (Obj.cells #[Value.string { data := #[67, 111, 110, 110, 101, 99, 116, 105, 111, 110, 58, 32, 99, 108, 111, 115, 101] }] 9)) (w3.alloc (Obj.cells #[Value.string { data := u0.toArray }, Value.string { data := #[67, 111, 110, 116, 101, 110, 116, 45, 84, 121, 112, 101, 58, 32, 97, 112, 112, 108, 105, 99, 97, 116, 105, 111, 110, 47, 118, 110, 100, 46, 115, 99, 104, 101, 109, 97, 114, 101, 103, 105, 115, 116, 114, 121, 46, 118, 49, 43, 106, 115, 111, 110] }, Value.string { data := u2.toArray }] 9)).heap.size (strs [rConn]) := RowAt.new (w3.alloc (Obj.cells #[Value.string { data := u0.toArray }, Value.string { data := #[67, 111, 110, 116, 101, 110, 116, 45, 84, 121, 112, 101, 58, 32, 97, 112, 112, 108, 105, 99, 97, 116, 105, 111, 110, 47, 118, 110, 100, 46, 115, 99, 104, 101, 109, 97, 114, 101, 103, 105, 115, 116, 114, 121, 46, 118, 49, 43, 106, 115, 111, 110] }, Value.string { data := u2.toArray }] 9)) #[Value.string { data := #[67, 111, 110, 110, 101, 99, 116, 105, 111, 110, 58, 32, 99, 108, 111, 115, 101] }] 9
      have hb4 : Below w.heap.size w ((w3.alloc (Obj.cells #[Value.string { data := u0.toArray }, Value.string { data := #[67, 111, 110, 116, 101, 110, 116, 45, 84, 121, 112, 101, 58, 32, 97, 112, 112, 108, 105, 99, 97, 116, 105, 111, 110, 47, 118, 110, 100, 46, 115, 99, 104, 101, 109, 97, 114, 101, 103, 105, 115, 116, 114, 121, 46, 118, 49, 43, 106, 115, 111, 110] }, Value.string { data := u2.toArray }] 9)).alloc (Obj.cells #[Value.string { data := #[67, 111, 110, 110, 101, 99, 116, 105, 111, 110, 58, 32, 99, 108, 111, 115, 101] }] 9)) := (Hb3.out.alloc Hb3.out.size _).alloc (by have := Hb3.out.size; simp; omega) _
      rw [World.size_alloc] at R1
      rw [← e0, ← e2] at R3b R1 hb4
      have R3c := Lib.hid R3b
      have R1c := Lib.hid R1
      have Hb4 := Lib.hid hb4
      have E0 := Lib.hid e0
      have E2 := Lib.hid e2
      clear R3 R3b R1 hb4 e0 e2
      go_wp2_with (at_builtin; go_must (refine wpList_append_one rfl _ _ rfl w3.heap.size (w3.heap.size + 1) u0 rType u2 rConn rfl R3c.out rfl R1c.out ?_))
      intro g4 cap4 w4 R4 hcap4 hb4
      have hb4 := Hb4.out.trans (hb4.mono (by have := Hb3.out.size; omega))
      go_wp2_with fail
      refine (join4_calls w4 _ cap4 u0 rType u2 rConn R4 hcap4 (by simp [rType, rConn]; omega)).mono ?_
      rintro e w5 ⟨rfl, hb5⟩
      have hlJ : (u0 ++ [13, 10] ++ rType ++ [13, 10] ++ u2 ++ [13, 10] ++ rConn).length ≤ 1000 := by simp [rType, rConn]; omega
      obtain ⟨J, hJ⟩ : ∃ x, u0 ++ [13, 10] ++ rType ++ [13, 10] ++ u2 ++ [13, 10] ++ rConn = x := ⟨_, rfl⟩
      have R3 := R4
      rw [hJ] at hlJ ⊢
      have HJ := Lib.hid hJ
      have Hb5 := Lib.hid (hb4.trans (hb5.mono hb4.size))
      clear hJ hb4 hb5 R3
      obtain ⟨K9, hK9⟩ : ∃ x : List UInt8, J ++ [13, 10, 13, 10] = x := ⟨_, rfl⟩
      have hlK : K9.length ≤ 1010 := by rw [← hK9]; simp; omega
      have eK : ((⟨J.toArray⟩ : ByteArray) ++ ⟨#[13, 10, 13, 10]⟩) = ⟨K9.toArray⟩ := by rw [← hK9]; exact bytes_app J [13, 10, 13, 10]
      have HK9 := Lib.hid hK9
      clear hK9
      obtain ⟨kc, hcv, hwv, hbv⟩ := waitV_string w5 K9 (by omega)
      have Hwv := Lib.hid hwv
      have Hxw := Lib.hid ((Hx.out.below Hb5.out).below hbv)
      have Hb6 := Lib.hid (Hb5.out.trans (hbv.mono Hb5.out.size))
      have hsz5 : w5.heap.size ≤ (Lib.bytesWorld w5 5 ⟨K9.toArray⟩).heap.size := hbv.size
      clear hwv hbv
      go_wp2_with (at_builtin; go_must (refine wpList_append_wait rfl _ _ rfl w5.heap.size _ _ K9 l rfl Hwv.out rfl Hxw.out (by omega) hsz5 ?_))
      intro v7 w7 hv7 hg7 _
      have Hv7 := Lib.hid hv7
      have Hb7 := Lib.hid (Hb6.out.grown hg7 Hb6.out.size (fun k hk => by cases hk; exact Hb5.out.size))
      clear hv7 hg7
      go_wp2_with fail
      go_ret
      refine ⟨⟨_, rfl, ?_⟩, Hb7.out⟩
      have h9 := Hv7.out.byts
      rw [← HK9.out, ← HJ.out, ← Hu0.out, ← Hu2.out, ← HI1.out, ← HI2.out, ← HI3.out] at h9
      refine h9.cast ?_
      unfold responseS
      simp [rHead, rType, rLen, rConn]
  by_cases hc : 599 < status
  ·
    rw [if_pos (.inr hc)]
    go_wp2_with fail
    refine (itoa_calls w He.out 500 (by omega) (by omega)).mono ?_
    rintro e w1 ⟨rfl, hb1⟩
    have hi1 := Lib.itoa_length_le 500 (by omega) (by omega)
    generalize hI1 : Lib.itoa 500 = i1 at *
    have Hb1 := Lib.hid hb1
    have HI1 := Lib.hid hI1
    clear hb1 hI1
    go_wp2_with fail
    refine (reason_calls w1 500).mono ?_
    rintro e w2 ⟨rfl, rfl⟩
    have hi2 := reason_len 500
    generalize hI2 : reasonS 500 = i2 at *
    have HI2 := Lib.hid hI2
    clear hI2
    go_wp2_with fail
    refine (itoa_calls w1 (He.out.below Hb1.out) (l.length : Int) (by omega) (by omega)).mono ?_
    rintro e w3 ⟨rfl, hb3⟩
    have hi3 := Lib.itoa_length_le (l.length : Int) (by omega) (by omega)
    generalize hI3 : Lib.itoa (l.length : Int) = i3 at *
    have Hb3 := Lib.hid (Hb1.out.trans (hb3.mono Hb1.out.size))
    have HI3 := Lib.hid hI3
    clear hb3 hI3
    cases close with
    | false =>
      obtain ⟨u0, hu0⟩ : ∃ x : List UInt8, [72, 84, 84, 80, 47, 49, 46, 49, 32] ++ i1 ++ [32] ++ i2 = x := ⟨_, rfl⟩
      obtain ⟨u2, hu2⟩ : ∃ x : List UInt8, [67, 111, 110, 116, 101, 110, 116, 45, 76, 101, 110, 103, 116, 104, 58, 32] ++ i3 = x := ⟨_, rfl⟩
      have hl0 : u0.length ≤ 100 := by rw [← hu0]; simp; omega
      have hl2 : u2.length ≤ 100 := by rw [← hu2]; simp; omega
      have Hu0 := Lib.hid hu0
      have Hu2 := Lib.hid hu2
      go_wp2_with fail
      simp only [bytes_app]
      rw [hu0, hu2]
      clear hu0 hu2
      have R3 : RowAt (w3.alloc (Obj.cells #[Value.string { data := u0.toArray }, Value.string { data := #[67, 111, 110, 116, 101, 110, 116, 45, 84, 121, 112, 101, 58, 32, 97, 112, 112, 108, 105, 99, 97, 116, 105, 111, 110, 47, 118, 110, 100, 46, 115, 99, 104, 101, 109, 97, 114, 101, 103, 105, 115, 116, 114, 121, 46, 118, 49, 43, 106, 115, 111, 110] }, Value.string { data := u2.toArray }] 9)) w3.heap.size (strs [u0, rType, u2]) := RowAt.new w3 #[Value.string { data := u0.toArray }, Value.string { data := #[67, 111, 110, 116, 101, 110, 116, 45, 84, 121, 112, 101, 58, 32, 97, 112, 112, 108, 105, 99, 97, 116, 105, 111, 110, 47, 118, 110, 100, 46, 115, 99, 104, 101, 109, 97, 114, 101, 103, 105, 115, 116, 114, 121, 46, 118, 49, 43, 106, 115, 111, 110] }, Value.string { data := u2.toArray }] 9
      have hb4 : Below w.heap.size w (w3.alloc (Obj.cells #[Value.string { data := u0.toArray }, Value.string { data := #[67, 111, 110, 116, 101, 110, 116, 45, 84, 121, 112, 101, 58, 32, 97, 112, 112, 108, 105, 99, 97, 116, 105, 111, 110, 47, 118, 110, 100, 46, 115, 99, 104, 101, 109, 97, 114, 101, 103, 105, 115, 116, 114, 121, 46, 118, 49, 43, 106, 115, 111, 110] }, Value.string { data := u2.toArray }] 9)) := Hb3.out.alloc Hb3.out.size _
      generalize w3.alloc (Obj.cells #[Value.string { data := u0.toArray }, Value.string { data := #[67, 111, 110, 116, 101, 110, 116, 45, 84, 121, 112, 101, 58, 32, 97, 112, 112, 108, 105, 99, 97, 116, 105, 111, 110, 47, 118, 110, 100, 46, 115, 99, 104, 101, 109, 97, 114, 101, 103, 105, 115, 116, 114, 121, 46, 118, 49, 43, 106, 115, 111, 110] }, Value.string { data := u2.toArray }] 9) = w4 at *
      refine (join3_calls w4 _ 3 u0 rType u2 R3 (by omega) (by simp [rType]; omega)).mono ?_
      rintro e w5 ⟨rfl, hb5⟩
      have hlJ : (u0 ++ [13, 10] ++ rType ++ [13, 10] ++ u2).length ≤ 1000 := by simp [rType]; omega
      obtain ⟨J, hJ⟩ : ∃ x, u0 ++ [13, 10] ++ rType ++ [13, 10] ++ u2 = x := ⟨_, rfl⟩
      rw [hJ] at hlJ ⊢
      have HJ := Lib.hid hJ
      have Hb5 := Lib.hid (hb4.trans (hb5.mono hb4.size))
      clear hJ hb4 hb5 R3
      obtain ⟨K9, hK9⟩ : ∃ x : List UInt8, J ++ [13, 10, 13, 10] = x := ⟨_, rfl⟩
      have hlK : K9.length ≤ 1010 := by rw [← hK9]; simp; omega
      have eK : ((⟨J.toArray⟩ : ByteArray) ++ ⟨#[13, 10, 13, 10]⟩) = ⟨K9.toArray⟩ := by rw [← hK9]; exact bytes_app J [13, 10, 13, 10]
      have HK9 := Lib.hid hK9
      clear hK9
      obtain ⟨kc, hcv, hwv, hbv⟩ := waitV_string w5 K9 (by omega)
      have Hwv := Lib.hid hwv
      have Hxw := Lib.hid ((Hx.out.below Hb5.out).below hbv)
      have Hb6 := Lib.hid (Hb5.out.trans (hbv.mono Hb5.out.size))
      have hsz5 : w5.heap.size ≤ (Lib.bytesWorld w5 5 ⟨K9.toArray⟩).heap.size := hbv.size
      clear hwv hbv
      go_wp2_with (at_builtin; go_must (refine wpList_append_wait rfl _ _ rfl w5.heap.size _ _ K9 l rfl Hwv.out rfl Hxw.out (by omega) hsz5 ?_))
      intro v7 w7 hv7 hg7 _
      have Hv7 := Lib.hid hv7
      have Hb7 := Lib.hid (Hb6.out.grown hg7 Hb6.out.size (fun k hk => by cases hk; exact Hb5.out.size))
      clear hv7 hg7
      go_wp2_with fail
      go_ret
      refine ⟨⟨_, rfl, ?_⟩, Hb7.out⟩
      have h9 := Hv7.out.byts
      rw [← HK9.out, ← HJ.out, ← Hu0.out, ← Hu2.out, ← HI1.out, ← HI2.out, ← HI3.out] at h9
      refine h9.cast ?_
      unfold responseS
      simp [rHead, rType, rLen]
    | true =>
      obtain ⟨u0, hu0⟩ : ∃ x : List UInt8, [72, 84, 84, 80, 47, 49, 46, 49, 32] ++ i1 ++ [32] ++ i2 = x := ⟨_, rfl⟩
      obtain ⟨u2, hu2⟩ : ∃ x : List UInt8, [67, 111, 110, 116, 101, 110, 116, 45, 76, 101, 110, 103, 116, 104, 58, 32] ++ i3 = x := ⟨_, rfl⟩
      have hl0 : u0.length ≤ 100 := by rw [← hu0]; simp; omega
      have hl2 : u2.length ≤ 100 := by rw [← hu2]; simp; omega
      have Hu0 := Lib.hid hu0
      have Hu2 := Lib.hid hu2
      have e0 : ((⟨#[72, 84, 84, 80, 47, 49, 46, 49, 32]⟩ : ByteArray) ++ ⟨i1.toArray⟩ ++ ⟨#[32]⟩ ++ ⟨i2.toArray⟩) = ⟨u0.toArray⟩ := by rw [← hu0]; simp only [bytes_app]
      have e2 : ((⟨#[67, 111, 110, 116, 101, 110, 116, 45, 76, 101, 110, 103, 116, 104, 58, 32]⟩ : ByteArray) ++ ⟨i3.toArray⟩) = ⟨u2.toArray⟩ := by rw [← hu2]; simp only [bytes_app]
      clear hu0 hu2
      have R3 : RowAt (w3.alloc (Obj.cells #[Value.string { data := u0.toArray }, Value.string { data := #[67, 111, 110, 116, 101, 110, 116, 45, 84, 121, 112, 101, 58, 32, 97, 112, 112, 108, 105, 99, 97, 116, 105, 111, 110, 47, 118, 110, 100, 46, 115, 99, 104, 101, 109, 97, 114, 101, 103, 105, 115, 116, 114, 121, 46, 118, 49, 43, 106, 115, 111, 110] }, Value.string { data := u2.toArray }] 9)) w3.heap.size (strs [u0, rType, u2]) := RowAt.new w3 #[Value.string { data := u0.toArray }, Value.string { data := #[67, 111, 110, 116, 101, 110, 116, 45, 84, 121, 112, 101, 58, 32, 97, 112, 112, 108, 105, 99, 97, 116, 105, 111, 110, 47, 118, 110, 100, 46, 115, 99, 104, 101, 109, 97, 114, 101, 103, 105, 115, 116, 114, 121, 46, 118, 49, 43, 106, 115, 111, 110] }, Value.string { data := u2.toArray }] 9
      have R3b := R3.alloc (Obj.cells #[Value.string { data := #[67, 111, 110, 110, 101, 99, 116, 105, 111, 110, 58, 32, 99, 108, 111, 115, 101] }] 9)
      have R1 : RowAt ((w3.alloc (Obj.cells #[Value.string { data := u0.toArray }, Value.string { data := #[67, 111, 110, 116, 101, 110, 116, 45, 84, 121, 112, 101, 58, 32, 97, 112, 112, 108, 105, 99, 97, 116, 105, 111, 110, 47, 118, 110, 100, 46, 115, 99, 104, 101, 109, 97, 114, 101, 103, 105, 115, 116, 114, 121, 46, 118, 49, 43, 106, 115, 111, 110] }, Value.string { data := u2.toArray }] 9)).alloc (Obj.cells #[Value.string { data := #[67, 111, 110, 110, 101, 99, 116, 105, 111, 110, 58, 32, 99, 108, 111, 115, 101] }] 9)) (w3.alloc (Obj.cells #[Value.string { data := u0.toArray }, Value.string { data := #[67, 111, 110, 116, 101, 110, 116, 45, 84, 121, 112, 101, 58, 32, 97, 112, 112, 108, 105, 99, 97, 116, 105, 111, 110, 47, 118, 110, 100, 46, 115, 99, 104, 101, 109, 97, 114, 101, 103, 105, 115, 116, 114, 121, 46, 118, 49, 43, 106, 115, 111, 110] }, Value.string { data := u2.toArray }] 9)).heap.size (strs [rConn]) := RowAt.new (w3.alloc (Obj.cells #[Value.string { data := u0.toArray }, Value.string { data := #[67, 111, 110, 116, 101, 110, 116, 45, 84, 121, 112, 101, 58, 32, 97, 112, 112, 108, 105, 99, 97, 116, 105, 111, 110, 47, 118, 110, 100, 46, 115, 99, 104, 101, 109, 97, 114, 101, 103, 105, 115, 116, 114, 121, 46, 118, 49, 43, 106, 115, 111, 110] }, Value.string { data := u2.toArray }] 9)) #[Value.string { data := #[67, 111, 110, 110, 101, 99, 116, 105, 111, 110, 58, 32, 99, 108, 111, 115, 101] }] 9
      have hb4 : Below w.heap.size w ((w3.alloc (Obj.cells #[Value.string { data := u0.toArray }, Value.string { data := #[67, 111, 110, 116, 101, 110, 116, 45, 84, 121, 112, 101, 58, 32, 97, 112, 112, 108, 105, 99, 97, 116, 105, 111, 110, 47, 118, 110, 100, 46, 115, 99, 104, 101, 109, 97, 114, 101, 103, 105, 115, 116, 114, 121, 46, 118, 49, 43, 106, 115, 111, 110] }, Value.string { data := u2.toArray }] 9)).alloc (Obj.cells #[Value.string { data := #[67, 111, 110, 110, 101, 99, 116, 105, 111, 110, 58, 32, 99, 108, 111, 115, 101] }] 9)) := (Hb3.out.alloc Hb3.out.size _).alloc (by have := Hb3.out.size; simp; omega) _
      rw [World.size_alloc] at R1
      rw [← e0, ← e2] at R3b R1 hb4
      have R3c := Lib.hid R3b
      have R1c := Lib.hid R1
      have Hb4 := Lib.hid hb4
      have E0 := Lib.hid e0
      have E2 := Lib.hid e2
      clear R3 R3b R1 hb4 e0 e2
      go_wp2_with (at_builtin; go_must (refine wpList_append_one rfl _ _ rfl w3.heap.size (w3.heap.size + 1) u0 rType u2 rConn rfl R3c.out rfl R1c.out ?_))
      intro g4 cap4 w4 R4 hcap4 hb4
      have hb4 := Hb4.out.trans (hb4.mono (by have := Hb3.out.size; omega))
      go_wp2_with fail
      refine (join4_calls w4 _ cap4 u0 rType u2 rConn R4 hcap4 (by simp [rType, rConn]; omega)).mono ?_
      rintro e w5 ⟨rfl, hb5⟩
      have hlJ : (u0 ++ [13, 10] ++ rType ++ [13, 10] ++ u2 ++ [13, 10] ++ rConn).length ≤ 1000 := by simp [rType, rConn]; omega
      obtain ⟨J, hJ⟩ : ∃ x, u0 ++ [13, 10] ++ rType ++ [13, 10] ++ u2 ++ [13, 10] ++ rConn = x := ⟨_, rfl⟩
      have R3 := R4
      rw [hJ] at hlJ ⊢
      have HJ := Lib.hid hJ
      have Hb5 := Lib.hid (hb4.trans (hb5.mono hb4.size))
      clear hJ hb4 hb5 R3
      obtain ⟨K9, hK9⟩ : ∃ x : List UInt8, J ++ [13, 10, 13, 10] = x := ⟨_, rfl⟩
      have hlK : K9.length ≤ 1010 := by rw [← hK9]; simp; omega
      have eK : ((⟨J.toArray⟩ : ByteArray) ++ ⟨#[13, 10, 13, 10]⟩) = ⟨K9.toArray⟩ := by rw [← hK9]; exact bytes_app J [13, 10, 13, 10]
      have HK9 := Lib.hid hK9
      clear hK9
      obtain ⟨kc, hcv, hwv, hbv⟩ := waitV_string w5 K9 (by omega)
      have Hwv := Lib.hid hwv
      have Hxw := Lib.hid ((Hx.out.below Hb5.out).below hbv)
      have Hb6 := Lib.hid (Hb5.out.trans (hbv.mono Hb5.out.size))
      have hsz5 : w5.heap.size ≤ (Lib.bytesWorld w5 5 ⟨K9.toArray⟩).heap.size := hbv.size
      clear hwv hbv
      go_wp2_with (at_builtin; go_must (refine wpList_append_wait rfl _ _ rfl w5.heap.size _ _ K9 l rfl Hwv.out rfl Hxw.out (by omega) hsz5 ?_))
      intro v7 w7 hv7 hg7 _
      have Hv7 := Lib.hid hv7
      have Hb7 := Lib.hid (Hb6.out.grown hg7 Hb6.out.size (fun k hk => by cases hk; exact Hb5.out.size))
      clear hv7 hg7
      go_wp2_with fail
      go_ret
      refine ⟨⟨_, rfl, ?_⟩, Hb7.out⟩
      have h9 := Hv7.out.byts
      rw [← HK9.out, ← HJ.out, ← Hu0.out, ← Hu2.out, ← HI1.out, ← HI2.out, ← HI3.out] at h9
      refine h9.cast ?_
      unfold responseS
      simp [rHead, rType, rLen, rConn]
  rw [if_neg (by omega)]
  go_wp2_with fail
  refine (itoa_calls w He.out status (by omega) (by omega)).mono ?_
  rintro e w1 ⟨rfl, hb1⟩
  have hi1 := Lib.itoa_length_le status (by omega) (by omega)
  generalize hI1 : Lib.itoa status = i1 at *
  have Hb1 := Lib.hid hb1
  have HI1 := Lib.hid hI1
  clear hb1 hI1
  go_wp2_with fail
  refine (reason_calls w1 status).mono ?_
  rintro e w2 ⟨rfl, rfl⟩
  have hi2 := reason_len status
  generalize hI2 : reasonS status = i2 at *
  have HI2 := Lib.hid hI2
  clear hI2
  go_wp2_with fail
  refine (itoa_calls w1 (He.out.below Hb1.out) (l.length : Int) (by omega) (by omega)).mono ?_
  rintro e w3 ⟨rfl, hb3⟩
  have hi3 := Lib.itoa_length_le (l.length : Int) (by omega) (by omega)
  generalize hI3 : Lib.itoa (l.length : Int) = i3 at *
  have Hb3 := Lib.hid (Hb1.out.trans (hb3.mono Hb1.out.size))
  have HI3 := Lib.hid hI3
  clear hb3 hI3
  cases close with
  | false =>
    obtain ⟨u0, hu0⟩ : ∃ x : List UInt8, [72, 84, 84, 80, 47, 49, 46, 49, 32] ++ i1 ++ [32] ++ i2 = x := ⟨_, rfl⟩
    obtain ⟨u2, hu2⟩ : ∃ x : List UInt8, [67, 111, 110, 116, 101, 110, 116, 45, 76, 101, 110, 103, 116, 104, 58, 32] ++ i3 = x := ⟨_, rfl⟩
    have hl0 : u0.length ≤ 100 := by rw [← hu0]; simp; omega
    have hl2 : u2.length ≤ 100 := by rw [← hu2]; simp; omega
    have Hu0 := Lib.hid hu0
    have Hu2 := Lib.hid hu2
    go_wp2_with fail
    simp only [bytes_app]
    rw [hu0, hu2]
    clear hu0 hu2
    have R3 : RowAt (w3.alloc (Obj.cells #[Value.string { data := u0.toArray }, Value.string { data := #[67, 111, 110, 116, 101, 110, 116, 45, 84, 121, 112, 101, 58, 32, 97, 112, 112, 108, 105, 99, 97, 116, 105, 111, 110, 47, 118, 110, 100, 46, 115, 99, 104, 101, 109, 97, 114, 101, 103, 105, 115, 116, 114, 121, 46, 118, 49, 43, 106, 115, 111, 110] }, Value.string { data := u2.toArray }] 9)) w3.heap.size (strs [u0, rType, u2]) := RowAt.new w3 #[Value.string { data := u0.toArray }, Value.string { data := #[67, 111, 110, 116, 101, 110, 116, 45, 84, 121, 112, 101, 58, 32, 97, 112, 112, 108, 105, 99, 97, 116, 105, 111, 110, 47, 118, 110, 100, 46, 115, 99, 104, 101, 109, 97, 114, 101, 103, 105, 115, 116, 114, 121, 46, 118, 49, 43, 106, 115, 111, 110] }, Value.string { data := u2.toArray }] 9
    have hb4 : Below w.heap.size w (w3.alloc (Obj.cells #[Value.string { data := u0.toArray }, Value.string { data := #[67, 111, 110, 116, 101, 110, 116, 45, 84, 121, 112, 101, 58, 32, 97, 112, 112, 108, 105, 99, 97, 116, 105, 111, 110, 47, 118, 110, 100, 46, 115, 99, 104, 101, 109, 97, 114, 101, 103, 105, 115, 116, 114, 121, 46, 118, 49, 43, 106, 115, 111, 110] }, Value.string { data := u2.toArray }] 9)) := Hb3.out.alloc Hb3.out.size _
    generalize w3.alloc (Obj.cells #[Value.string { data := u0.toArray }, Value.string { data := #[67, 111, 110, 116, 101, 110, 116, 45, 84, 121, 112, 101, 58, 32, 97, 112, 112, 108, 105, 99, 97, 116, 105, 111, 110, 47, 118, 110, 100, 46, 115, 99, 104, 101, 109, 97, 114, 101, 103, 105, 115, 116, 114, 121, 46, 118, 49, 43, 106, 115, 111, 110] }, Value.string { data := u2.toArray }] 9) = w4 at *
    refine (join3_calls w4 _ 3 u0 rType u2 R3 (by omega) (by simp [rType]; omega)).mono ?_
    rintro e w5 ⟨rfl, hb5⟩
    have hlJ : (u0 ++ [13, 10] ++ rType ++ [13, 10] ++ u2).length ≤ 1000 := by simp [rType]; omega
    obtain ⟨J, hJ⟩ : ∃ x, u0 ++ [13, 10] ++ rType ++ [13, 10] ++ u2 = x := ⟨_, rfl⟩
    rw [hJ] at hlJ ⊢
    have HJ := Lib.hid hJ
    have Hb5 := Lib.hid (hb4.trans (hb5.mono hb4.size))
    clear hJ hb4 hb5 R3
    obtain ⟨K9, hK9⟩ : ∃ x : List UInt8, J ++ [13, 10, 13, 10] = x := ⟨_, rfl⟩
    have hlK : K9.length ≤ 1010 := by rw [← hK9]; simp; omega
    have eK : ((⟨J.toArray⟩ : ByteArray) ++ ⟨#[13, 10, 13, 10]⟩) = ⟨K9.toArray⟩ := by rw [← hK9]; exact bytes_app J [13, 10, 13, 10]
    have HK9 := Lib.hid hK9
    clear hK9
    obtain ⟨kc, hcv, hwv, hbv⟩ := waitV_string w5 K9 (by omega)
    have Hwv := Lib.hid hwv
    have Hxw := Lib.hid ((Hx.out.below Hb5.out).below hbv)
    have Hb6 := Lib.hid (Hb5.out.trans (hbv.mono Hb5.out.size))
    have hsz5 : w5.heap.size ≤ (Lib.bytesWorld w5 5 ⟨K9.toArray⟩).heap.size := hbv.size
    clear hwv hbv
    go_wp2_with (at_builtin; go_must (refine wpList_append_wait rfl _ _ rfl w5.heap.size _ _ K9 l rfl Hwv.out rfl Hxw.out (by omega) hsz5 ?_))
    intro v7 w7 hv7 hg7 _
    have Hv7 := Lib.hid hv7
    have Hb7 := Lib.hid (Hb6.out.grown hg7 Hb6.out.size (fun k hk => by cases hk; exact Hb5.out.size))
    clear hv7 hg7
    go_wp2_with fail
    go_ret
    refine ⟨⟨_, rfl, ?_⟩, Hb7.out⟩
    have h9 := Hv7.out.byts
    rw [← HK9.out, ← HJ.out, ← Hu0.out, ← Hu2.out, ← HI1.out, ← HI2.out, ← HI3.out] at h9
    refine h9.cast ?_
    unfold responseS
    simp [rHead, rType, rLen]
  | true =>
    obtain ⟨u0, hu0⟩ : ∃ x : List UInt8, [72, 84, 84, 80, 47, 49, 46, 49, 32] ++ i1 ++ [32] ++ i2 = x := ⟨_, rfl⟩
    obtain ⟨u2, hu2⟩ : ∃ x : List UInt8, [67, 111, 110, 116, 101, 110, 116, 45, 76, 101, 110, 103, 116, 104, 58, 32] ++ i3 = x := ⟨_, rfl⟩
    have hl0 : u0.length ≤ 100 := by rw [← hu0]; simp; omega
    have hl2 : u2.length ≤ 100 := by rw [← hu2]; simp; omega
    have Hu0 := Lib.hid hu0
    have Hu2 := Lib.hid hu2
    have e0 : ((⟨#[72, 84, 84, 80, 47, 49, 46, 49, 32]⟩ : ByteArray) ++ ⟨i1.toArray⟩ ++ ⟨#[32]⟩ ++ ⟨i2.toArray⟩) = ⟨u0.toArray⟩ := by rw [← hu0]; simp only [bytes_app]
    have e2 : ((⟨#[67, 111, 110, 116, 101, 110, 116, 45, 76, 101, 110, 103, 116, 104, 58, 32]⟩ : ByteArray) ++ ⟨i3.toArray⟩) = ⟨u2.toArray⟩ := by rw [← hu2]; simp only [bytes_app]
    clear hu0 hu2
    have R3 : RowAt (w3.alloc (Obj.cells #[Value.string { data := u0.toArray }, Value.string { data := #[67, 111, 110, 116, 101, 110, 116, 45, 84, 121, 112, 101, 58, 32, 97, 112, 112, 108, 105, 99, 97, 116, 105, 111, 110, 47, 118, 110, 100, 46, 115, 99, 104, 101, 109, 97, 114, 101, 103, 105, 115, 116, 114, 121, 46, 118, 49, 43, 106, 115, 111, 110] }, Value.string { data := u2.toArray }] 9)) w3.heap.size (strs [u0, rType, u2]) := RowAt.new w3 #[Value.string { data := u0.toArray }, Value.string { data := #[67, 111, 110, 116, 101, 110, 116, 45, 84, 121, 112, 101, 58, 32, 97, 112, 112, 108, 105, 99, 97, 116, 105, 111, 110, 47, 118, 110, 100, 46, 115, 99, 104, 101, 109, 97, 114, 101, 103, 105, 115, 116, 114, 121, 46, 118, 49, 43, 106, 115, 111, 110] }, Value.string { data := u2.toArray }] 9
    have R3b := R3.alloc (Obj.cells #[Value.string { data := #[67, 111, 110, 110, 101, 99, 116, 105, 111, 110, 58, 32, 99, 108, 111, 115, 101] }] 9)
    have R1 : RowAt ((w3.alloc (Obj.cells #[Value.string { data := u0.toArray }, Value.string { data := #[67, 111, 110, 116, 101, 110, 116, 45, 84, 121, 112, 101, 58, 32, 97, 112, 112, 108, 105, 99, 97, 116, 105, 111, 110, 47, 118, 110, 100, 46, 115, 99, 104, 101, 109, 97, 114, 101, 103, 105, 115, 116, 114, 121, 46, 118, 49, 43, 106, 115, 111, 110] }, Value.string { data := u2.toArray }] 9)).alloc (Obj.cells #[Value.string { data := #[67, 111, 110, 110, 101, 99, 116, 105, 111, 110, 58, 32, 99, 108, 111, 115, 101] }] 9)) (w3.alloc (Obj.cells #[Value.string { data := u0.toArray }, Value.string { data := #[67, 111, 110, 116, 101, 110, 116, 45, 84, 121, 112, 101, 58, 32, 97, 112, 112, 108, 105, 99, 97, 116, 105, 111, 110, 47, 118, 110, 100, 46, 115, 99, 104, 101, 109, 97, 114, 101, 103, 105, 115, 116, 114, 121, 46, 118, 49, 43, 106, 115, 111, 110] }, Value.string { data := u2.toArray }] 9)).heap.size (strs [rConn]) := RowAt.new (w3.alloc (Obj.cells #[Value.string { data := u0.toArray }, Value.string { data := #[67, 111, 110, 116, 101, 110, 116, 45, 84, 121, 112, 101, 58, 32, 97, 112, 112, 108, 105, 99, 97, 116, 105, 111, 110, 47, 118, 110, 100, 46, 115, 99, 104, 101, 109, 97, 114, 101, 103, 105, 115, 116, 114, 121, 46, 118, 49, 43, 106, 115, 111, 110] }, Value.string { data := u2.toArray }] 9)) #[Value.string { data := #[67, 111, 110, 110, 101, 99, 116, 105, 111, 110, 58, 32, 99, 108, 111, 115, 101] }] 9
    have hb4 : Below w.heap.size w ((w3.alloc (Obj.cells #[Value.string { data := u0.toArray }, Value.string { data := #[67, 111, 110, 116, 101, 110, 116, 45, 84, 121, 112, 101, 58, 32, 97, 112, 112, 108, 105, 99, 97, 116, 105, 111, 110, 47, 118, 110, 100, 46, 115, 99, 104, 101, 109, 97, 114, 101, 103, 105, 115, 116, 114, 121, 46, 118, 49, 43, 106, 115, 111, 110] }, Value.string { data := u2.toArray }] 9)).alloc (Obj.cells #[Value.string { data := #[67, 111, 110, 110, 101, 99, 116, 105, 111, 110, 58, 32, 99, 108, 111, 115, 101] }] 9)) := (Hb3.out.alloc Hb3.out.size _).alloc (by have := Hb3.out.size; simp; omega) _
    rw [World.size_alloc] at R1
    rw [← e0, ← e2] at R3b R1 hb4
    have R3c := Lib.hid R3b
    have R1c := Lib.hid R1
    have Hb4 := Lib.hid hb4
    have E0 := Lib.hid e0
    have E2 := Lib.hid e2
    clear R3 R3b R1 hb4 e0 e2
    go_wp2_with (at_builtin; go_must (refine wpList_append_one rfl _ _ rfl w3.heap.size (w3.heap.size + 1) u0 rType u2 rConn rfl R3c.out rfl R1c.out ?_))
    intro g4 cap4 w4 R4 hcap4 hb4
    have hb4 := Hb4.out.trans (hb4.mono (by have := Hb3.out.size; omega))
    go_wp2_with fail
    refine (join4_calls w4 _ cap4 u0 rType u2 rConn R4 hcap4 (by simp [rType, rConn]; omega)).mono ?_
    rintro e w5 ⟨rfl, hb5⟩
    have hlJ : (u0 ++ [13, 10] ++ rType ++ [13, 10] ++ u2 ++ [13, 10] ++ rConn).length ≤ 1000 := by simp [rType, rConn]; omega
    obtain ⟨J, hJ⟩ : ∃ x, u0 ++ [13, 10] ++ rType ++ [13, 10] ++ u2 ++ [13, 10] ++ rConn = x := ⟨_, rfl⟩
    have R3 := R4
    rw [hJ] at hlJ ⊢
    have HJ := Lib.hid hJ
    have Hb5 := Lib.hid (hb4.trans (hb5.mono hb4.size))
    clear hJ hb4 hb5 R3
    obtain ⟨K9, hK9⟩ : ∃ x : List UInt8, J ++ [13, 10, 13, 10] = x := ⟨_, rfl⟩
    have hlK : K9.length ≤ 1010 := by rw [← hK9]; simp; omega
    have eK : ((⟨J.toArray⟩ : ByteArray) ++ ⟨#[13, 10, 13, 10]⟩) = ⟨K9.toArray⟩ := by rw [← hK9]; exact bytes_app J [13, 10, 13, 10]
    have HK9 := Lib.hid hK9
    clear hK9
    obtain ⟨kc, hcv, hwv, hbv⟩ := waitV_string w5 K9 (by omega)
    have Hwv := Lib.hid hwv
    have Hxw := Lib.hid ((Hx.out.below Hb5.out).below hbv)
    have Hb6 := Lib.hid (Hb5.out.trans (hbv.mono Hb5.out.size))
    have hsz5 : w5.heap.size ≤ (Lib.bytesWorld w5 5 ⟨K9.toArray⟩).heap.size := hbv.size
    clear hwv hbv
    go_wp2_with (at_builtin; go_must (refine wpList_append_wait rfl _ _ rfl w5.heap.size _ _ K9 l rfl Hwv.out rfl Hxw.out (by omega) hsz5 ?_))
    intro v7 w7 hv7 hg7 _
    have Hv7 := Lib.hid hv7
    have Hb7 := Lib.hid (Hb6.out.grown hg7 Hb6.out.size (fun k hk => by cases hk; exact Hb5.out.size))
    clear hv7 hg7
    go_wp2_with fail
    go_ret
    refine ⟨⟨_, rfl, ?_⟩, Hb7.out⟩
    have h9 := Hv7.out.byts
    rw [← HK9.out, ← HJ.out, ← Hu0.out, ← Hu2.out, ← HI1.out, ← HI2.out, ← HI3.out] at h9
    refine h9.cast ?_
    unfold responseS
    simp [rHead, rType, rLen, rConn]
end Go.Proofs.YtgdfgppgfkkncaaGreatDoor
