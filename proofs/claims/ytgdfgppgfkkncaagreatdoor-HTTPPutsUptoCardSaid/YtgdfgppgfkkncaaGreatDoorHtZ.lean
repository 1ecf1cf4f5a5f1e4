/- How long a request is: the law's long. Printed by gen_hz.py. -/
import Derived.Test.YtgdfgppgfkkncaaGreatDoorHtY
import Derived.Test.YtgdfgppgfkkncaaGreatDoorBckL
namespace Go.Proofs.YtgdfgppgfkkncaaGreatDoor
open Go.RowKit

def preN (a : Nat) (hs : List Hdr) (j : Nat) : Nat := a + ((hs.take j).map hdrN).sum
theorem preN_step {a : Nat} {hs : List Hdr} {j : Nat} (h : j < hs.length) : preN a hs (j + 1) = preN a hs j + (hs.getD j ⟨[], []⟩).name.length + (hs.getD j ⟨[], []⟩).value.length + 3 := by
  unfold preN
  have e : hs.take (j + 1) = hs.take j ++ [hs.getD j ⟨[], []⟩] := by rw [List.take_add_one, List.getElem?_eq_getElem h]; simp [List.getElem?_eq_getElem h]
  rw [e, List.map_append, List.sum_append]
  show a + (_ + (hdrN _ + 0)) = _
  unfold hdrN
  omega
theorem preN_le {a : Nat} {hs : List Hdr} {j : Nat} : preN a hs j ≤ preN a hs hs.length := by
  unfold preN
  rw [List.take_length]
  have h : ((hs.take j).map hdrN).sum + ((hs.drop j).map hdrN).sum = (hs.map hdrN).sum := by
    rw [← List.sum_append, ← List.map_append, List.take_append_drop]
  omega
set_option maxHeartbeats 4000000 in
set_option maxRecDepth 100000 in
theorem long_calls (w : World) (x : Value) (r : Req) (hx : ReqS w x r) (hn : reqN r ≤ 1000000000000) : Calls Tryz.prog 30 #[x] w fun e w' => e = .returned (.bool (decide (40000 < reqN r))) ∧ Below w.heap.size w w' := by
  obtain ⟨hv1, bv1, rfl, hh1, hb1⟩ := hx
  obtain ⟨m, u, q, hs, bd, cl⟩ := r
  simp only at hh1 hb1 ⊢
  obtain ⟨p1, c1, rfl, hc1, hm1, hp1⟩ := hh1.form
  obtain ⟨b1, e1, rfl, _⟩ := hb1.open
  have ha1 : Below w.heap.size w (w.alloc (Obj.cells #[Value.string { data := m.toArray }, Value.string { data := u.toArray }, Value.string { data := q.toArray }, Value.slice p1 hs.length c1, Value.slice b1 bd.length e1, Value.bool cl] 40)) := (Below.refl _ _).alloc (Nat.le_refl _) _
  have R1 := Lib.hid (RowAt.new w #[Value.string { data := m.toArray }, Value.string { data := u.toArray }, Value.string { data := q.toArray }, Value.slice p1 hs.length c1, Value.slice b1 bd.length e1, Value.bool cl] 40)
  have HH1 := Lib.hid (hh1.below ha1)
  have HB := Lib.hid ha1
  have HP := Lib.hid hp1
  have hmx : hs.length ≤ 9223372036854775807 := hm1
  obtain ⟨A, hA⟩ : ∃ A, m.length + u.length + q.length + bd.length = A := ⟨_, rfl⟩
  have HT : Hid (preN A hs hs.length = reqN ⟨m, u, q, hs, bd, cl⟩) := by
    show preN A hs hs.length = reqN ⟨m, u, q, hs, bd, cl⟩
    unfold preN reqN
    rw [List.take_length, ← hA]
  have hA0 : preN A hs 0 = A := by simp [preN]
  have hAl : A ≤ 1000000000000 := by have h9 := HT.out; have := @preN_le A hs 0; omega
  have HA := Lib.hid hA
  have hl0 : IntKind.i64.wrap ((m.length : Int) + u.length) = ((m.length + u.length : Nat) : Int) := by rw [IntWalk.i64_in _ (by omega)]; omega
  have hl1 : IntKind.i64.wrap (((m.length + u.length : Nat) : Int) + q.length) = ((m.length + u.length + q.length : Nat) : Int) := by rw [IntWalk.i64_in _ (by omega)]; omega
  have hl2 : IntKind.i64.wrap (((m.length + u.length + q.length : Nat) : Int) + bd.length) = (A : Int) := by rw [IntWalk.i64_in _ (by omega)]; omega
  clear hh1 hb1 ha1 hp1 hm1 hA
  have a0 := R1.out.cell 0 _ rfl
  have a1 := R1.out.cell 1 _ rfl
  have a2 := R1.out.cell 2 _ rfl
  have a3 := R1.out.cell 3 _ rfl
  have a4 := R1.out.cell 4 _ rfl
  have a5 := R1.out.cell 5 _ rfl
  go_enter Tryz.func30, Tryz.ntmps30
  go_upto_region 2 with fail
  generalize w.alloc (Obj.cells #[Value.string { data := m.toArray }, Value.string { data := u.toArray }, Value.string { data := q.toArray }, Value.slice p1 hs.length c1, Value.slice b1 bd.length e1, Value.bool cl] 40) = w1 at *
  have hbnd : m.length + u.length + q.length + bd.length ≤ 1000000000000 := by have := HA.out; omega
  go_wp2_with fail
  clear hl0 hl1 hl2 hbnd a0 a1 a2 a4 a5
  go_loopg [3, 4] hs.length (fun k n i wr => ∃ j : Nat, k = hs.length - j ∧ j ≤ hs.length ∧ n = .int .i64 (preN A hs j : Nat) ∧ i = .int .i64 (j : Int) ∧ Below w1.heap.size w1 wr)
  case atStart =>
    have hAA := HA.out
    refine ⟨0, rfl, by omega, ?_, rfl, Below.refl _ _⟩
    rw [hA0]
    rw [IntWalk.wrap64_in ((m.length : Int) + u.length + q.length) (by omega), IntWalk.wrap64_in _ (by omega)]
    congr 1
    omega
  case round =>
    obtain ⟨j, hk, hj, rfl, rfl, hbr⟩ := hrel
    have Hk := Lib.hid hk
    have Hbr := Lib.hid hbr
    have a3r := (R1.out.below hbr).cell 3 _ rfl
    clear hk hbr a3
    by_cases hlt : j < hs.length
    ·
      have hlt2 : (j : Int) < hs.length := by omega
      obtain ⟨g1, o1, rfl⟩ := HP.out (by omega)
      have y1 := (HH1.out.below Hbr.out).at j hlt
      have hst := preN_step (a := A) hlt
      have hle := @preN_le A hs (j + 1)
      have htot := HT.out
      generalize (hs.getD j ⟨[], []⟩).name = nm at *
      generalize (hs.getD j ⟨[], []⟩).value = vl at *
      obtain ⟨N, hN⟩ : ∃ N, preN A hs j = N := ⟨_, rfl⟩
      obtain ⟨N2, hN2⟩ : ∃ N2, preN A hs (j + 1) = N2 := ⟨_, rfl⟩
      rw [hN2] at hst hle
      rw [hN] at hst ⊢
      have hN2l : N2 ≤ 1000000000000 := by omega
      have HN2 := Lib.hid hN2
      have HST := Lib.hid hst
      have w0 : IntKind.i64.wrap ((N : Int) + nm.length) = ((N + nm.length : Nat) : Int) := by rw [IntWalk.i64_in _ (by omega)]; omega
      have w1a : IntKind.i64.wrap (((N + nm.length : Nat) : Int) + vl.length) = ((N + nm.length + vl.length : Nat) : Int) := by rw [IntWalk.i64_in _ (by omega)]; omega
      have w2a : IntKind.i64.wrap (((N + nm.length + vl.length : Nat) : Int) + 3) = (N2 : Int) := by rw [IntWalk.i64_in _ (by omega)]; omega
      clear hN hN2 hst hle htot
      go_upto_region 5 with fail
      have hS0 : (fun W => W.cell? ⟨w.heap.size, 3, none⟩ = some (.slice (some ⟨g1, o1, none⟩) hs.length c1) ∧ W.cell? ⟨g1, o1 + j * 2, none⟩ = some (.string ⟨nm.toArray⟩) ∧ W.cell? ⟨g1, o1 + j * 2 + 1, none⟩ = some (.string ⟨vl.toArray⟩)) wr.drew := ⟨a3r, y1.1, y1.2⟩
      clear y1 a3r
      refine wp_region_held_drew (S := (fun W => W.cell? ⟨w.heap.size, 3, none⟩ = some (.slice (some ⟨g1, o1, none⟩) hs.length c1) ∧ W.cell? ⟨g1, o1 + j * 2, none⟩ = some (.string ⟨nm.toArray⟩) ∧ W.cell? ⟨g1, o1 + j * 2 + 1, none⟩ = some (.string ⟨vl.toArray⟩))) (by kernel_rfl) hS0 (fun hHeld0 => ?_)
      refine held_take (i := 0) (v := ?_) rfl (by kernel_rfl) (by kernel_rfl) (by kernel_rfl) (fun _ _ _ h => h) (by rfl) (fun wq hSq => ?_) hHeld0 ?_
      rotate_left
      · (try dsimp only at hSq); go_simp; try with_reducible rfl
      simp only [Act.put, List.setIfInBounds_toArray, List.set_cons_zero, List.set_cons_succ]
      refine held_take (i := 1) (v := ?_) rfl (by kernel_rfl) (by kernel_rfl) (by kernel_rfl) (fun _ _ _ h => h) (by rfl) (fun wq hSq => ?_) hHeld0 ?_
      rotate_left
      · (try dsimp only at hSq); go_simp; try with_reducible rfl
      simp only [Act.put, List.setIfInBounds_toArray, List.set_cons_zero, List.set_cons_succ]
      refine held_take (i := 2) (v := ?_) rfl (by kernel_rfl) (by kernel_rfl) (by kernel_rfl) (fun _ _ _ h => h) (by rfl) (fun wq hSq => ?_) hHeld0 ?_
      rotate_left
      · (try dsimp only at hSq); go_simp; try with_reducible rfl
      simp only [Act.put, List.setIfInBounds_toArray, List.set_cons_zero, List.set_cons_succ]
      refine held_take (i := 3) (v := ?_) rfl (by kernel_rfl) (by kernel_rfl) (by kernel_rfl) (fun _ _ _ h => h) (by rfl) (fun wq hSq => ?_) hHeld0 ?_
      rotate_left
      · (try dsimp only at hSq); go_simp; try with_reducible rfl
      simp only [Act.put, List.setIfInBounds_toArray, List.set_cons_zero, List.set_cons_succ]
      refine held_take (i := 4) (v := ?_) rfl (by kernel_rfl) (by kernel_rfl) (by kernel_rfl) (fun _ _ _ h => h) (by rfl) (fun wq hSq => ?_) hHeld0 ?_
      rotate_left
      · (try dsimp only at hSq); go_simp; try with_reducible rfl
      simp only [Act.put, List.setIfInBounds_toArray, List.set_cons_zero, List.set_cons_succ]
      refine held_take (i := 5) (v := ?_) rfl (by kernel_rfl) (by kernel_rfl) (by kernel_rfl) (fun _ _ _ h => h) (by rfl) (fun wq hSq => ?_) hHeld0 ?_
      rotate_left
      · (try dsimp only at hSq); go_simp; try with_reducible rfl
      simp only [Act.put, List.setIfInBounds_toArray, List.set_cons_zero, List.set_cons_succ]
      refine held_take (i := 6) (v := ?_) rfl (by kernel_rfl) (by kernel_rfl) (by kernel_rfl) (fun _ _ _ h => h) (by rfl) (fun wq hSq => ?_) hHeld0 ?_
      rotate_left
      · (try dsimp only at hSq); go_simp; try with_reducible rfl
      simp only [Act.put, List.setIfInBounds_toArray, List.set_cons_zero, List.set_cons_succ]
      refine held_take (i := 7) (v := ?_) rfl (by kernel_rfl) (by kernel_rfl) (by kernel_rfl) (fun _ _ _ h => h) (by rfl) (fun wq hSq => ?_) hHeld0 ?_
      rotate_left
      · (try dsimp only at hSq); go_simp; try with_reducible rfl
      simp only [Act.put, List.setIfInBounds_toArray, List.set_cons_zero, List.set_cons_succ]
      refine held_take (i := 8) (v := ?_) rfl (by kernel_rfl) (by kernel_rfl) (by kernel_rfl) (fun _ _ _ h => h) (by rfl) (fun wq hSq => ?_) hHeld0 ?_
      rotate_left
      · (try dsimp only at hSq); go_simp; try with_reducible rfl
      simp only [Act.put, List.setIfInBounds_toArray, List.set_cons_zero, List.set_cons_succ]
      refine held_take (i := 9) (v := ?_) rfl (by kernel_rfl) (by kernel_rfl) (by kernel_rfl) (fun _ _ _ h => h) (by rfl) (fun wq hSq => ?_) hHeld0 ?_
      rotate_left
      · (try dsimp only at hSq); go_simp; try with_reducible rfl
      simp only [Act.put, List.setIfInBounds_toArray, List.set_cons_zero, List.set_cons_succ]
      refine held_take (i := 10) (v := ?_) rfl (by kernel_rfl) (by kernel_rfl) (by kernel_rfl) (fun _ _ _ h => h) (by rfl) (fun wq hSq => ?_) hHeld0 ?_
      rotate_left
      · (try dsimp only at hSq); go_simp; try with_reducible rfl
      simp only [Act.put, List.setIfInBounds_toArray, List.set_cons_zero, List.set_cons_succ]
      refine held_take (i := 11) (v := ?_) rfl (by kernel_rfl) (by kernel_rfl) (by kernel_rfl) (fun _ _ _ h => h) (by rfl) (fun wq hSq => ?_) hHeld0 ?_
      rotate_left
      · (try dsimp only at hSq); go_simp; try with_reducible rfl
      simp only [Act.put, List.setIfInBounds_toArray, List.set_cons_zero, List.set_cons_succ]
      refine held_take (i := 12) (v := ?_) rfl (by kernel_rfl) (by kernel_rfl) (by kernel_rfl) (fun _ _ _ h => h) (by rfl) (fun wq hSq => ?_) hHeld0 ?_
      rotate_left
      · (try dsimp only at hSq); go_simp; try with_reducible rfl
      simp only [Act.put, List.setIfInBounds_toArray, List.set_cons_zero, List.set_cons_succ]
      refine held_take (i := 13) (v := ?_) rfl (by kernel_rfl) (by kernel_rfl) (by kernel_rfl) (fun _ _ _ h => h) (by rfl) (fun wq hSq => ?_) hHeld0 ?_
      rotate_left
      · (try dsimp only at hSq); go_simp; try with_reducible rfl
      simp only [Act.put, List.setIfInBounds_toArray, List.set_cons_zero, List.set_cons_succ]
      refine held_take (i := 14) (v := ?_) rfl (by kernel_rfl) (by kernel_rfl) (by kernel_rfl) (fun _ _ _ h => h) (by rfl) (fun wq hSq => ?_) hHeld0 ?_
      rotate_left
      · (try dsimp only at hSq); go_simp; try with_reducible rfl
      simp only [Act.put, List.setIfInBounds_toArray, List.set_cons_zero, List.set_cons_succ]
      refine held_take (i := 15) (v := ?_) rfl (by kernel_rfl) (by kernel_rfl) (by kernel_rfl) (fun _ _ _ h => h) (by rfl) (fun wq hSq => ?_) hHeld0 ?_
      rotate_left
      · (try dsimp only at hSq); go_simp; try with_reducible rfl
      simp only [Act.put, List.setIfInBounds_toArray, List.set_cons_zero, List.set_cons_succ]
      refine held_take (i := 16) (v := ?_) rfl (by kernel_rfl) (by kernel_rfl) (by kernel_rfl) (fun _ _ _ h => h) (by rfl) (fun wq hSq => ?_) hHeld0 ?_
      rotate_left
      · (try dsimp only at hSq); go_simp; try with_reducible rfl
      simp only [Act.put, List.setIfInBounds_toArray, List.set_cons_zero, List.set_cons_succ]
      refine held_take (i := 17) (v := ?_) rfl (by kernel_rfl) (by kernel_rfl) (by kernel_rfl) (fun _ _ _ h => h) (by rfl) (fun wq hSq => ?_) hHeld0 ?_
      rotate_left
      · (try dsimp only at hSq); go_simp; try with_reducible rfl
      simp only [Act.put, List.setIfInBounds_toArray, List.set_cons_zero, List.set_cons_succ]
      refine held_take (i := 18) (v := ?_) rfl (by kernel_rfl) (by kernel_rfl) (by kernel_rfl) (fun _ _ _ h => h) (by rfl) (fun wq hSq => ?_) hHeld0 ?_
      rotate_left
      · (try dsimp only at hSq); go_simp; try with_reducible rfl
      simp only [Act.put, List.setIfInBounds_toArray, List.set_cons_zero, List.set_cons_succ]
      refine wpAnyH_done (by kernel_rfl) ?_ _
      clear hHeld0
      go_wp2_with fail
      go_roundg (hs.length - (j + 1))
      case measure => have := Hk.out; omega
      case rel =>
        have hst := HST.out
        refine ⟨j + 1, rfl, by omega, ?_, by go_num, Hbr.out.drew⟩
        rw [HN2.out, IntWalk.i64_in ((N : Int) + nm.length + vl.length) (by omega), IntWalk.i64_in _ (by omega)]
        congr 1
        omega
    ·
      obtain rfl : j = hs.length := by omega
      have hlt2 : ¬ (hs.length : Int) < hs.length := by omega
      have htot := HT.out
      rw [htot]
      obtain ⟨N, hN⟩ : ∃ N, reqN ⟨m, u, q, hs, bd, cl⟩ = N := ⟨_, rfl⟩
      rw [hN]
      have HN := Lib.hid hN
      clear htot hN hn
      by_cases hb : 40000 < N
      ·
        have hb2 : (40000 : Int) < N := by omega
        have HBB := Lib.hid hb
        clear hb
        go_wp2_with fail
        go_ret
        exact ⟨by rw [HN.out, decide_eq_true (show 40000 < N by have := HBB.out; omega)]; rfl, HB.out.trans (Hbr.out.mono HB.out.size)⟩
      ·
        have hb2 : ¬ (40000 : Int) < N := by omega
        have HBB := Lib.hid hb
        clear hb
        go_wp2_with fail
        go_ret
        exact ⟨by rw [HN.out, decide_eq_false (show ¬ 40000 < N by have := HBB.out; omega)]; rfl, HB.out.trans (Hbr.out.mono HB.out.size)⟩
end Go.Proofs.YtgdfgppgfkkncaaGreatDoor
