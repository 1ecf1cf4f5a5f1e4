/- A request's bytes, by the reference: Told. Printed by gen_hpt.py. -/
import Derived.Test.YtgdfgppgfkkncaaGreatDoorHby
namespace Go.Proofs.YtgdfgppgfkkncaaGreatDoor
open Go.RowKit

/-- What Told reads. -/
structure TolG (W : World) (R : Nat) (m u q : List UInt8) (cl : Bool) (v b : Value) (h : List Hdr) (l : List UInt8) : Prop where
  row : RowAt W R [.string ⟨m.toArray⟩, .string ⟨u.toArray⟩, .string ⟨q.toArray⟩, v, b, .bool cl]
  h : HdrS W v h
  s : BytG W b l
theorem TolG.below {W W' : World} {R : Nat} {m u q : List UInt8} {cl : Bool} {v b : Value} {h : List Hdr} {l : List UInt8} (x : TolG W R m u q cl v b h l) (hb : Below W.heap.size W W') : TolG W' R m u q cl v b h l :=
  ⟨x.row.below hb, x.h.below hb, x.s.below hb⟩
set_option maxHeartbeats 4000000 in
set_option maxRecDepth 100000 in
theorem told_calls (w : World) (x : Value) (r : Req) (hx : ReqS w x r) (hn : reqN r ≤ 90000000) : Calls Tryz.prog 59 #[x] w fun e w' => e = .returned (.string ⟨(toldS r).toArray⟩) ∧ Below w.heap.size w w' := by
  obtain ⟨hv, bv, rfl, hh, hb⟩ := hx
  obtain ⟨m, u, qy, hs, bd, cl⟩ := r
  simp only at hh hb ⊢
  obtain ⟨p1, c1, rfl, _, hm1, hf1⟩ := hh.form
  obtain ⟨b1, e1, rfl, _⟩ := hb.open
  have ha1 : Below w.heap.size w (w.alloc (Obj.cells #[Value.string { data := m.toArray }, Value.string { data := u.toArray }, Value.string { data := qy.toArray }, Value.slice p1 hs.length c1, Value.slice b1 bd.length e1, Value.bool cl] 40)) := (Below.refl _ _).alloc (Nat.le_refl _) _
  have HS : Hid (TolG (w.alloc (Obj.cells #[Value.string { data := m.toArray }, Value.string { data := u.toArray }, Value.string { data := qy.toArray }, Value.slice p1 hs.length c1, Value.slice b1 bd.length e1, Value.bool cl] 40)) w.heap.size m u qy cl _ _ hs bd) := ⟨RowAt.new w #[Value.string { data := m.toArray }, Value.string { data := u.toArray }, Value.string { data := qy.toArray }, Value.slice p1 hs.length c1, Value.slice b1 bd.length e1, Value.bool cl] 40, hh.below ha1, hb.below ha1⟩
  have HB := Lib.hid ha1
  have Hf1 := Lib.hid hf1
  have hmx : hs.length ≤ 9223372036854775807 := hm1
  have hfl := flat_len hs
  have hsz : m.length + u.length + qy.length + bd.length + (hs.flatMap hdrT).length ≤ 90000000 := by
    simp only [reqN] at hn
    rw [hfl]; exact hn
  have HSZ := Lib.hid hsz
  obtain ⟨T, hT⟩ : ∃ T, toldS ⟨m, u, qy, hs, bd, cl⟩ = T := ⟨_, rfl⟩
  obtain ⟨P0, hP0⟩ : ∃ P, ((m ++ 32 :: u) ++ qryT qy) ++ lineT = P := ⟨_, rfl⟩
  have HTE : Hid (((P0 ++ hs.flatMap hdrT) ++ [13, 10]) ++ bd = T) := Lib.hid (by rw [← hP0, ← hT]; simp [toldS])
  have hql : (qryT qy).length ≤ qy.length + 1 := by unfold qryT; split <;> simp
  have HPL : Hid (P0.length ≤ m.length + u.length + qy.length + 13) := by
    rw [← hP0]
    show _ ≤ _
    simp only [List.length_append, List.length_cons, show lineT.length = 11 from rfl]
    omega
  have HP0 := Lib.hid hP0
  have HT := Lib.hid hT
  clear hh hb ha1 hf1 hm1 hfl hsz hn hT hP0 hql
  rw [HT.out]
  go_enter Tryz.func59, Tryz.ntmps59
  go_upto_region 1 with fail
  generalize w.alloc (Obj.cells #[Value.string { data := m.toArray }, Value.string { data := u.toArray }, Value.string { data := qy.toArray }, Value.slice p1 hs.length c1, Value.slice b1 bd.length e1, Value.bool cl] 40) = w1 at *
  have a0 := HS.out.row.cell 0 _ rfl
  have a1 := HS.out.row.cell 1 _ rfl
  have a2 := HS.out.row.cell 2 _ rfl
  have a3 := HS.out.row.cell 3 _ rfl
  obtain ⟨A1, hA1⟩ : ∃ A, m ++ [32] = A := ⟨_, rfl⟩
  obtain ⟨A2, hA2⟩ : ∃ A, m ++ 32 :: u = A := ⟨_, rfl⟩
  have hA1l : A1.length = m.length + 1 := by rw [← hA1]; simp
  have hA2l : A2.length = m.length + u.length + 1 := by rw [← hA2]; simp; omega
  have hk1 : (⟨m.toArray⟩ : ByteArray) ++ ⟨#[32]⟩ = ⟨A1.toArray⟩ := by rw [← hA1]; exact bytes_app m [32]
  have hk2 : (⟨A1.toArray⟩ : ByteArray) ++ ⟨u.toArray⟩ = ⟨A2.toArray⟩ := by rw [bytes_app, ← hA1, ← hA2]; simp
  have hsz1 : ¬ 9223372036854775807 < m.length + 1 := by have := HSZ.out; omega
  have hsz2 : ¬ 9223372036854775807 < A1.length + u.length := by have := HSZ.out; omega
  have HA2l := Lib.hid hA2l
  rw [hA2] at HP0
  clear hA1 hA2 hA1l hA2l
  rcases qy with _ | ⟨qc, qt⟩
  ·
    have hk3 : (⟨A2.toArray⟩ : ByteArray) ++ ⟨#[32, 72, 84, 84, 80, 47, 49, 46, 49, 13, 10]⟩ = ⟨P0.toArray⟩ := by rw [← HP0.out, show qryT [] = [] from rfl, List.append_nil]; exact bytes_app A2 lineT
    have hsz3 : ¬ 9223372036854775807 < A2.length + 11 := by have := HSZ.out; have := HA2l.out; omega
    go_wp2_with fail
    clear hk1 hk2 hk3 hsz1 hsz2 hsz3 a0 a1 a2 a3 HA2l HP0 HT
    go_loopg [3, 4] hs.length (fun k s i wr => ∃ j : Nat, k = hs.length - j ∧ j ≤ hs.length ∧ s = .string ⟨(P0 ++ (hs.take j).flatMap hdrT).toArray⟩ ∧ i = .int .i64 (j : Int) ∧ Below w1.heap.size w1 wr)
    case atStart => exact ⟨0, rfl, Nat.zero_le _, by simp, rfl, Below.refl _ _⟩
    case round =>
      obtain ⟨j, hk, hj, rfl, rfl, hbr⟩ := hrel
      have Hk := Lib.hid hk
      have HSr := Lib.hid (HS.out.below hbr)
      have HBr := Lib.hid (HB.out.trans (hbr.mono HB.out.size))
      have Hbr := Lib.hid hbr
      have a3 := HSr.out.row.cell 3 _ rfl
      clear hk hbr
      by_cases hlt : j < hs.length
      ·
        have hlt2 : (j : Int) < hs.length := by omega
        obtain ⟨g1, o1, rfl⟩ := Hf1.out (by omega)
        have y1 := HSr.out.h.at j hlt
        have HST := Lib.hid (flat_take hs j hlt)
        have hf1 := flat_le hs j
        have hf2 := flat_le hs (j + 1)
        rw [HST.out] at hf2
        generalize (hs.take j).flatMap hdrT = FT at *
        generalize hs.getD j ⟨[], []⟩ = d at *
        obtain ⟨nm, vl⟩ := d
        dsimp only at y1
        obtain ⟨X0, hX0⟩ : ∃ D, P0 ++ FT = D := ⟨_, rfl⟩
        obtain ⟨X1, hX1⟩ : ∃ D, X0 ++ nm = D := ⟨_, rfl⟩
        obtain ⟨X2, hX2⟩ : ∃ D, X1 ++ [58] = D := ⟨_, rfl⟩
        obtain ⟨X3, hX3⟩ : ∃ D, X2 ++ vl = D := ⟨_, rfl⟩
        obtain ⟨X4, hX4⟩ : ∃ D, X3 ++ [13, 10] = D := ⟨_, rfl⟩
        have HX4 : Hid (X4 = P0 ++ (FT ++ hdrT ⟨nm, vl⟩)) := Lib.hid (by rw [← hX4, ← hX3, ← hX2, ← hX1, ← hX0]; simp [hdrT])
        have hl0 : X0.length ≤ 90000013 := by have := HSZ.out; have := HPL.out; rw [← hX0, List.length_append]; omega
        have hl4 : FT.length + (nm.length + vl.length + 3) ≤ 90000000 := by have h1 := HSZ.out; rw [List.length_append] at hf2; have h3 : (hdrT ⟨nm, vl⟩).length = nm.length + vl.length + 3 := by { unfold hdrT; simp; omega }; omega
        have hl1 : X1.length = X0.length + nm.length := by rw [← hX1, List.length_append]
        have hl2 : X2.length = X1.length + 1 := by rw [← hX2]; simp
        have hl3 : X3.length = X2.length + vl.length := by rw [← hX3, List.length_append]
        have d1 : (⟨X0.toArray⟩ : ByteArray) ++ ⟨nm.toArray⟩ = ⟨X1.toArray⟩ := by rw [bytes_app, hX1]
        have d2 : (⟨X1.toArray⟩ : ByteArray) ++ ⟨#[58]⟩ = ⟨X2.toArray⟩ := by rw [← hX2]; exact bytes_app X1 [58]
        have d3 : (⟨X2.toArray⟩ : ByteArray) ++ ⟨vl.toArray⟩ = ⟨X3.toArray⟩ := by rw [bytes_app, hX3]
        have d4 : (⟨X3.toArray⟩ : ByteArray) ++ ⟨#[13, 10]⟩ = ⟨X4.toArray⟩ := by rw [← hX4]; exact bytes_app X3 [13, 10]
        have n1 : ¬ 9223372036854775807 < X0.length + nm.length := by omega
        have n2 : ¬ 9223372036854775807 < X1.length + 1 := by omega
        have n3 : ¬ 9223372036854775807 < X2.length + vl.length := by omega
        have n4 : ¬ 9223372036854775807 < X3.length + 2 := by omega
        rw [hX0]
        clear hX0 hX1 hX2 hX3 hX4 hl0 hl1 hl2 hl3 hl4 hf1 hf2
        go_upto_region 8 with fail
        have hS0 : (fun W => W.cell? ⟨w.heap.size, 3, none⟩ = some (.slice (some ⟨g1, o1, none⟩) hs.length c1) ∧ W.cell? ⟨g1, o1 + j * 2, none⟩ = some (.string ⟨nm.toArray⟩) ∧ W.cell? ⟨g1, o1 + j * 2 + 1, none⟩ = some (.string ⟨vl.toArray⟩)) wr.drew := ⟨a3, y1.1, y1.2⟩
        clear y1
        refine wp_region_held_drew (S := (fun W => W.cell? ⟨w.heap.size, 3, none⟩ = some (.slice (some ⟨g1, o1, none⟩) hs.length c1) ∧ W.cell? ⟨g1, o1 + j * 2, none⟩ = some (.string ⟨nm.toArray⟩) ∧ W.cell? ⟨g1, o1 + j * 2 + 1, none⟩ = some (.string ⟨vl.toArray⟩))) (by kernel_rfl) hS0 (fun hHeld0 => ?_)
        refine held_take (i := 0) (v := ?_) rfl (by kernel_rfl) (by kernel_rfl) (by kernel_rfl) (fun _ _ _ h => h) (by rfl) (fun wq hSq => ?_) hHeld0 ?_
        rotate_left
        · (try dsimp only at hSq); go_simp; try with_reducible rfl
        simp only [Act.put, List.setIfInBounds_toArray, List.set_cons_zero, List.set_cons_succ]
        refine held_take (i := 1) (v := ?_) rfl (by kernel_rfl) (by kernel_rfl) (by kernel_rfl) (fun _ _ _ h => h) (by rfl) (fun wq hSq => ?_) hHeld0 ?_
        rotate_left
        · (try dsimp only at hSq); go_simp; try with_reducible rfl
        simp only [Act.put, List.setIfInBounds_toArray, List.set_cons_zero, List.set_cons_succ]
        refine held_take (i := 2) (v := ?_) rfl (by kernel_rfl) (by kernel_rfl) (by kernel_rfl) (fun _ _ _ h => h) (by rfl) (fun wq hSq => ?_) hHeld0 ?_
        rotate_left
        · (try dsimp only at hSq); go_simp; try with_reducible rfl
        simp only [Act.put, List.setIfInBounds_toArray, List.set_cons_zero, List.set_cons_succ]
        refine held_take (i := 3) (v := ?_) rfl (by kernel_rfl) (by kernel_rfl) (by kernel_rfl) (fun _ _ _ h => h) (by rfl) (fun wq hSq => ?_) hHeld0 ?_
        rotate_left
        · (try dsimp only at hSq); go_simp; try with_reducible rfl
        simp only [Act.put, List.setIfInBounds_toArray, List.set_cons_zero, List.set_cons_succ]
        refine held_take (i := 4) (v := ?_) rfl (by kernel_rfl) (by kernel_rfl) (by kernel_rfl) (fun _ _ _ h => h) (by rfl) (fun wq hSq => ?_) hHeld0 ?_
        rotate_left
        · (try dsimp only at hSq); go_simp; try with_reducible rfl
        simp only [Act.put, List.setIfInBounds_toArray, List.set_cons_zero, List.set_cons_succ]
        refine held_take (i := 5) (v := ?_) rfl (by kernel_rfl) (by kernel_rfl) (by kernel_rfl) (fun _ _ _ h => h) (by rfl) (fun wq hSq => ?_) hHeld0 ?_
        rotate_left
        · (try dsimp only at hSq); go_simp; try with_reducible rfl
        simp only [Act.put, List.setIfInBounds_toArray, List.set_cons_zero, List.set_cons_succ]
        refine held_take (i := 6) (v := ?_) rfl (by kernel_rfl) (by kernel_rfl) (by kernel_rfl) (fun _ _ _ h => h) (by rfl) (fun wq hSq => ?_) hHeld0 ?_
        rotate_left
        · (try dsimp only at hSq); go_simp; try with_reducible rfl
        simp only [Act.put, List.setIfInBounds_toArray, List.set_cons_zero, List.set_cons_succ]
        refine held_take (i := 7) (v := ?_) rfl (by kernel_rfl) (by kernel_rfl) (by kernel_rfl) (fun _ _ _ h => h) (by rfl) (fun wq hSq => ?_) hHeld0 ?_
        rotate_left
        · (try dsimp only at hSq); go_simp; try with_reducible rfl
        simp only [Act.put, List.setIfInBounds_toArray, List.set_cons_zero, List.set_cons_succ]
        refine held_take (i := 8) (v := ?_) rfl (by kernel_rfl) (by kernel_rfl) (by kernel_rfl) (fun _ _ _ h => h) (by rfl) (fun wq hSq => ?_) hHeld0 ?_
        rotate_left
        · (try dsimp only at hSq); go_simp; try with_reducible rfl
        simp only [Act.put, List.setIfInBounds_toArray, List.set_cons_zero, List.set_cons_succ]
        refine held_take (i := 9) (v := ?_) rfl (by kernel_rfl) (by kernel_rfl) (by kernel_rfl) (fun _ _ _ h => h) (by rfl) (fun wq hSq => ?_) hHeld0 ?_
        rotate_left
        · (try dsimp only at hSq); go_simp; try with_reducible rfl
        simp only [Act.put, List.setIfInBounds_toArray, List.set_cons_zero, List.set_cons_succ]
        refine held_take (i := 10) (v := ?_) rfl (by kernel_rfl) (by kernel_rfl) (by kernel_rfl) (fun _ _ _ h => h) (by rfl) (fun wq hSq => ?_) hHeld0 ?_
        rotate_left
        · (try dsimp only at hSq); go_simp; try with_reducible rfl
        simp only [Act.put, List.setIfInBounds_toArray, List.set_cons_zero, List.set_cons_succ]
        refine held_take (i := 11) (v := ?_) rfl (by kernel_rfl) (by kernel_rfl) (by kernel_rfl) (fun _ _ _ h => h) (by rfl) (fun wq hSq => ?_) hHeld0 ?_
        rotate_left
        · (try dsimp only at hSq); go_simp; try with_reducible rfl
        simp only [Act.put, List.setIfInBounds_toArray, List.set_cons_zero, List.set_cons_succ]
        refine held_take (i := 12) (v := ?_) rfl (by kernel_rfl) (by kernel_rfl) (by kernel_rfl) (fun _ _ _ h => h) (by rfl) (fun wq hSq => ?_) hHeld0 ?_
        rotate_left
        · (try dsimp only at hSq); go_simp; try with_reducible rfl
        simp only [Act.put, List.setIfInBounds_toArray, List.set_cons_zero, List.set_cons_succ]
        refine held_take (i := 13) (v := ?_) rfl (by kernel_rfl) (by kernel_rfl) (by kernel_rfl) (fun _ _ _ h => h) (by rfl) (fun wq hSq => ?_) hHeld0 ?_
        rotate_left
        · (try dsimp only at hSq); go_simp; try with_reducible rfl
        simp only [Act.put, List.setIfInBounds_toArray, List.set_cons_zero, List.set_cons_succ]
        refine held_take (i := 14) (v := ?_) rfl (by kernel_rfl) (by kernel_rfl) (by kernel_rfl) (fun _ _ _ h => h) (by rfl) (fun wq hSq => ?_) hHeld0 ?_
        rotate_left
        · (try dsimp only at hSq); go_simp; try with_reducible rfl
        simp only [Act.put, List.setIfInBounds_toArray, List.set_cons_zero, List.set_cons_succ]
        refine held_take (i := 15) (v := ?_) rfl (by kernel_rfl) (by kernel_rfl) (by kernel_rfl) (fun _ _ _ h => h) (by rfl) (fun wq hSq => ?_) hHeld0 ?_
        rotate_left
        · (try dsimp only at hSq); go_simp; try with_reducible rfl
        simp only [Act.put, List.setIfInBounds_toArray, List.set_cons_zero, List.set_cons_succ]
        refine held_take (i := 16) (v := ?_) rfl (by kernel_rfl) (by kernel_rfl) (by kernel_rfl) (fun _ _ _ h => h) (by rfl) (fun wq hSq => ?_) hHeld0 ?_
        rotate_left
        · (try dsimp only at hSq); go_simp; try with_reducible rfl
        simp only [Act.put, List.setIfInBounds_toArray, List.set_cons_zero, List.set_cons_succ]
        refine held_take (i := 17) (v := ?_) rfl (by kernel_rfl) (by kernel_rfl) (by kernel_rfl) (fun _ _ _ h => h) (by rfl) (fun wq hSq => ?_) hHeld0 ?_
        rotate_left
        · (try dsimp only at hSq); go_simp; try with_reducible rfl
        simp only [Act.put, List.setIfInBounds_toArray, List.set_cons_zero, List.set_cons_succ]
        refine wpAnyH_done (by kernel_rfl) ?_ _
        clear hHeld0
        go_wp2_with fail
        go_roundg (hs.length - (j + 1))
        case measure => have := Hk.out; omega
        case rel => exact ⟨j + 1, rfl, by omega, by rw [HST.out, HX4.out], by go_num, Hbr.out.drew⟩
      ·
        obtain rfl : j = hs.length := by omega
        have hlt2 : ¬ (hs.length : Int) < hs.length := by omega
        rw [List.take_length]
        generalize hs.flatMap hdrT = FT at *
        obtain ⟨X0, hX0⟩ : ∃ D, P0 ++ FT = D := ⟨_, rfl⟩
        obtain ⟨X1, hX1⟩ : ∃ D, X0 ++ [13, 10] = D := ⟨_, rfl⟩
        have hl0 : X0.length = P0.length + FT.length := by rw [← hX0, List.length_append]
        have hl1 : X1.length = X0.length + 2 := by rw [← hX1]; simp
        rw [hX0, hX1] at HTE
        have d1 : (⟨X0.toArray⟩ : ByteArray) ++ ⟨#[13, 10]⟩ = ⟨X1.toArray⟩ := by rw [← hX1]; exact bytes_app X0 [13, 10]
        have d2 : (⟨X1.toArray⟩ : ByteArray) ++ ⟨bd.toArray⟩ = ⟨T.toArray⟩ := by rw [bytes_app, HTE.out]
        have n1 : ¬ 9223372036854775807 < X0.length + 2 := by have := HSZ.out; have := HPL.out; omega
        have n2 : ¬ 9223372036854775807 < X1.length + bd.length := by have := HSZ.out; have := HPL.out; omega
        rw [hX0]
        clear hX0 hX1 hl0 hl1 HTE
        have a4 := HSr.out.row.cell 4 _ rfl
        have st := HSr.out.s.string
        go_wp2_with fail
        go_ret
        exact ⟨rfl, HBr.out⟩
  ·
    obtain ⟨Q, hQ⟩ : ∃ Q, qc :: qt = Q := ⟨_, rfl⟩
    have hqe : qryT Q = 63 :: Q := by unfold qryT; rw [if_neg (by rw [← hQ]; simp)]
    obtain ⟨A3, hA3⟩ : ∃ A, A2 ++ [63] = A := ⟨_, rfl⟩
    obtain ⟨A4, hA4⟩ : ∃ A, A3 ++ (qc :: qt) = A := ⟨_, rfl⟩
    have hA3l : A3.length = A2.length + 1 := by rw [← hA3]; simp
    have hA4l : A4.length = A3.length + (qc :: qt).length := by rw [← hA4, List.length_append]
    have hk3 : (⟨A2.toArray⟩ : ByteArray) ++ ⟨#[63]⟩ = ⟨A3.toArray⟩ := by rw [← hA3]; exact bytes_app A2 [63]
    have hk4 : (⟨A3.toArray⟩ : ByteArray) ++ ⟨(qc :: qt).toArray⟩ = ⟨A4.toArray⟩ := by rw [← hA4]; exact bytes_app A3 (qc :: qt)
    have hk5 : (⟨A4.toArray⟩ : ByteArray) ++ ⟨#[32, 72, 84, 84, 80, 47, 49, 46, 49, 13, 10]⟩ = ⟨P0.toArray⟩ := by rw [← HP0.out, hQ, hqe, ← hA4, ← hA3, hQ]; exact (bytes_app _ lineT).trans (by simp)
    have hsz3 : ¬ 9223372036854775807 < A2.length + 1 := by have := HSZ.out; have := HA2l.out; omega
    have hsz4 : ¬ 9223372036854775807 < A3.length + (qc :: qt).length := by have := HSZ.out; have := HA2l.out; omega
    have hsz5 : ¬ 9223372036854775807 < A4.length + 11 := by have := HSZ.out; have := HA2l.out; omega
    clear hA3 hA4 hA3l hA4l hqe hQ
    go_wp2_with fail
    clear hk1 hk2 hk3 hk4 hk5 hsz1 hsz2 hsz3 hsz4 hsz5 a0 a1 a2 a3 HA2l HP0 HT
    go_loopg [3, 4] hs.length (fun k s i wr => ∃ j : Nat, k = hs.length - j ∧ j ≤ hs.length ∧ s = .string ⟨(P0 ++ (hs.take j).flatMap hdrT).toArray⟩ ∧ i = .int .i64 (j : Int) ∧ Below w1.heap.size w1 wr)
    case atStart => exact ⟨0, rfl, Nat.zero_le _, by simp, rfl, Below.refl _ _⟩
    case round =>
      obtain ⟨j, hk, hj, rfl, rfl, hbr⟩ := hrel
      have Hk := Lib.hid hk
      have HSr := Lib.hid (HS.out.below hbr)
      have HBr := Lib.hid (HB.out.trans (hbr.mono HB.out.size))
      have Hbr := Lib.hid hbr
      have a3 := HSr.out.row.cell 3 _ rfl
      clear hk hbr
      by_cases hlt : j < hs.length
      ·
        have hlt2 : (j : Int) < hs.length := by omega
        obtain ⟨g1, o1, rfl⟩ := Hf1.out (by omega)
        have y1 := HSr.out.h.at j hlt
        have HST := Lib.hid (flat_take hs j hlt)
        have hf1 := flat_le hs j
        have hf2 := flat_le hs (j + 1)
        rw [HST.out] at hf2
        generalize (hs.take j).flatMap hdrT = FT at *
        generalize hs.getD j ⟨[], []⟩ = d at *
        obtain ⟨nm, vl⟩ := d
        dsimp only at y1
        obtain ⟨X0, hX0⟩ : ∃ D, P0 ++ FT = D := ⟨_, rfl⟩
        obtain ⟨X1, hX1⟩ : ∃ D, X0 ++ nm = D := ⟨_, rfl⟩
        obtain ⟨X2, hX2⟩ : ∃ D, X1 ++ [58] = D := ⟨_, rfl⟩
        obtain ⟨X3, hX3⟩ : ∃ D, X2 ++ vl = D := ⟨_, rfl⟩
        obtain ⟨X4, hX4⟩ : ∃ D, X3 ++ [13, 10] = D := ⟨_, rfl⟩
        have HX4 : Hid (X4 = P0 ++ (FT ++ hdrT ⟨nm, vl⟩)) := Lib.hid (by rw [← hX4, ← hX3, ← hX2, ← hX1, ← hX0]; simp [hdrT])
        have hl0 : X0.length ≤ 90000013 := by have := HSZ.out; have := HPL.out; rw [← hX0, List.length_append]; omega
        have hl4 : FT.length + (nm.length + vl.length + 3) ≤ 90000000 := by have h1 := HSZ.out; rw [List.length_append] at hf2; have h3 : (hdrT ⟨nm, vl⟩).length = nm.length + vl.length + 3 := by { unfold hdrT; simp; omega }; omega
        have hl1 : X1.length = X0.length + nm.length := by rw [← hX1, List.length_append]
        have hl2 : X2.length = X1.length + 1 := by rw [← hX2]; simp
        have hl3 : X3.length = X2.length + vl.length := by rw [← hX3, List.length_append]
        have d1 : (⟨X0.toArray⟩ : ByteArray) ++ ⟨nm.toArray⟩ = ⟨X1.toArray⟩ := by rw [bytes_app, hX1]
        have d2 : (⟨X1.toArray⟩ : ByteArray) ++ ⟨#[58]⟩ = ⟨X2.toArray⟩ := by rw [← hX2]; exact bytes_app X1 [58]
        have d3 : (⟨X2.toArray⟩ : ByteArray) ++ ⟨vl.toArray⟩ = ⟨X3.toArray⟩ := by rw [bytes_app, hX3]
        have d4 : (⟨X3.toArray⟩ : ByteArray) ++ ⟨#[13, 10]⟩ = ⟨X4.toArray⟩ := by rw [← hX4]; exact bytes_app X3 [13, 10]
        have n1 : ¬ 9223372036854775807 < X0.length + nm.length := by omega
        have n2 : ¬ 9223372036854775807 < X1.length + 1 := by omega
        have n3 : ¬ 9223372036854775807 < X2.length + vl.length := by omega
        have n4 : ¬ 9223372036854775807 < X3.length + 2 := by omega
        rw [hX0]
        clear hX0 hX1 hX2 hX3 hX4 hl0 hl1 hl2 hl3 hl4 hf1 hf2
        go_upto_region 8 with fail
        have hS0 : (fun W => W.cell? ⟨w.heap.size, 3, none⟩ = some (.slice (some ⟨g1, o1, none⟩) hs.length c1) ∧ W.cell? ⟨g1, o1 + j * 2, none⟩ = some (.string ⟨nm.toArray⟩) ∧ W.cell? ⟨g1, o1 + j * 2 + 1, none⟩ = some (.string ⟨vl.toArray⟩)) wr.drew := ⟨a3, y1.1, y1.2⟩
        clear y1
        refine wp_region_held_drew (S := (fun W => W.cell? ⟨w.heap.size, 3, none⟩ = some (.slice (some ⟨g1, o1, none⟩) hs.length c1) ∧ W.cell? ⟨g1, o1 + j * 2, none⟩ = some (.string ⟨nm.toArray⟩) ∧ W.cell? ⟨g1, o1 + j * 2 + 1, none⟩ = some (.string ⟨vl.toArray⟩))) (by kernel_rfl) hS0 (fun hHeld0 => ?_)
        refine held_take (i := 0) (v := ?_) rfl (by kernel_rfl) (by kernel_rfl) (by kernel_rfl) (fun _ _ _ h => h) (by rfl) (fun wq hSq => ?_) hHeld0 ?_
        rotate_left
        · (try dsimp only at hSq); go_simp; try with_reducible rfl
        simp only [Act.put, List.setIfInBounds_toArray, List.set_cons_zero, List.set_cons_succ]
        refine held_take (i := 1) (v := ?_) rfl (by kernel_rfl) (by kernel_rfl) (by kernel_rfl) (fun _ _ _ h => h) (by rfl) (fun wq hSq => ?_) hHeld0 ?_
        rotate_left
        · (try dsimp only at hSq); go_simp; try with_reducible rfl
        simp only [Act.put, List.setIfInBounds_toArray, List.set_cons_zero, List.set_cons_succ]
        refine held_take (i := 2) (v := ?_) rfl (by kernel_rfl) (by kernel_rfl) (by kernel_rfl) (fun _ _ _ h => h) (by rfl) (fun wq hSq => ?_) hHeld0 ?_
        rotate_left
        · (try dsimp only at hSq); go_simp; try with_reducible rfl
        simp only [Act.put, List.setIfInBounds_toArray, List.set_cons_zero, List.set_cons_succ]
        refine held_take (i := 3) (v := ?_) rfl (by kernel_rfl) (by kernel_rfl) (by kernel_rfl) (fun _ _ _ h => h) (by rfl) (fun wq hSq => ?_) hHeld0 ?_
        rotate_left
        · (try dsimp only at hSq); go_simp; try with_reducible rfl
        simp only [Act.put, List.setIfInBounds_toArray, List.set_cons_zero, List.set_cons_succ]
        refine held_take (i := 4) (v := ?_) rfl (by kernel_rfl) (by kernel_rfl) (by kernel_rfl) (fun _ _ _ h => h) (by rfl) (fun wq hSq => ?_) hHeld0 ?_
        rotate_left
        · (try dsimp only at hSq); go_simp; try with_reducible rfl
        simp only [Act.put, List.setIfInBounds_toArray, List.set_cons_zero, List.set_cons_succ]
        refine held_take (i := 5) (v := ?_) rfl (by kernel_rfl) (by kernel_rfl) (by kernel_rfl) (fun _ _ _ h => h) (by rfl) (fun wq hSq => ?_) hHeld0 ?_
        rotate_left
        · (try dsimp only at hSq); go_simp; try with_reducible rfl
        simp only [Act.put, List.setIfInBounds_toArray, List.set_cons_zero, List.set_cons_succ]
        refine held_take (i := 6) (v := ?_) rfl (by kernel_rfl) (by kernel_rfl) (by kernel_rfl) (fun _ _ _ h => h) (by rfl) (fun wq hSq => ?_) hHeld0 ?_
        rotate_left
        · (try dsimp only at hSq); go_simp; try with_reducible rfl
        simp only [Act.put, List.setIfInBounds_toArray, List.set_cons_zero, List.set_cons_succ]
        refine held_take (i := 7) (v := ?_) rfl (by kernel_rfl) (by kernel_rfl) (by kernel_rfl) (fun _ _ _ h => h) (by rfl) (fun wq hSq => ?_) hHeld0 ?_
        rotate_left
        · (try dsimp only at hSq); go_simp; try with_reducible rfl
        simp only [Act.put, List.setIfInBounds_toArray, List.set_cons_zero, List.set_cons_succ]
        refine held_take (i := 8) (v := ?_) rfl (by kernel_rfl) (by kernel_rfl) (by kernel_rfl) (fun _ _ _ h => h) (by rfl) (fun wq hSq => ?_) hHeld0 ?_
        rotate_left
        · (try dsimp only at hSq); go_simp; try with_reducible rfl
        simp only [Act.put, List.setIfInBounds_toArray, List.set_cons_zero, List.set_cons_succ]
        refine held_take (i := 9) (v := ?_) rfl (by kernel_rfl) (by kernel_rfl) (by kernel_rfl) (fun _ _ _ h => h) (by rfl) (fun wq hSq => ?_) hHeld0 ?_
        rotate_left
        · (try dsimp only at hSq); go_simp; try with_reducible rfl
        simp only [Act.put, List.setIfInBounds_toArray, List.set_cons_zero, List.set_cons_succ]
        refine held_take (i := 10) (v := ?_) rfl (by kernel_rfl) (by kernel_rfl) (by kernel_rfl) (fun _ _ _ h => h) (by rfl) (fun wq hSq => ?_) hHeld0 ?_
        rotate_left
        · (try dsimp only at hSq); go_simp; try with_reducible rfl
        simp only [Act.put, List.setIfInBounds_toArray, List.set_cons_zero, List.set_cons_succ]
        refine held_take (i := 11) (v := ?_) rfl (by kernel_rfl) (by kernel_rfl) (by kernel_rfl) (fun _ _ _ h => h) (by rfl) (fun wq hSq => ?_) hHeld0 ?_
        rotate_left
        · (try dsimp only at hSq); go_simp; try with_reducible rfl
        simp only [Act.put, List.setIfInBounds_toArray, List.set_cons_zero, List.set_cons_succ]
        refine held_take (i := 12) (v := ?_) rfl (by kernel_rfl) (by kernel_rfl) (by kernel_rfl) (fun _ _ _ h => h) (by rfl) (fun wq hSq => ?_) hHeld0 ?_
        rotate_left
        · (try dsimp only at hSq); go_simp; try with_reducible rfl
        simp only [Act.put, List.setIfInBounds_toArray, List.set_cons_zero, List.set_cons_succ]
        refine held_take (i := 13) (v := ?_) rfl (by kernel_rfl) (by kernel_rfl) (by kernel_rfl) (fun _ _ _ h => h) (by rfl) (fun wq hSq => ?_) hHeld0 ?_
        rotate_left
        · (try dsimp only at hSq); go_simp; try with_reducible rfl
        simp only [Act.put, List.setIfInBounds_toArray, List.set_cons_zero, List.set_cons_succ]
        refine held_take (i := 14) (v := ?_) rfl (by kernel_rfl) (by kernel_rfl) (by kernel_rfl) (fun _ _ _ h => h) (by rfl) (fun wq hSq => ?_) hHeld0 ?_
        rotate_left
        · (try dsimp only at hSq); go_simp; try with_reducible rfl
        simp only [Act.put, List.setIfInBounds_toArray, List.set_cons_zero, List.set_cons_succ]
        refine held_take (i := 15) (v := ?_) rfl (by kernel_rfl) (by kernel_rfl) (by kernel_rfl) (fun _ _ _ h => h) (by rfl) (fun wq hSq => ?_) hHeld0 ?_
        rotate_left
        · (try dsimp only at hSq); go_simp; try with_reducible rfl
        simp only [Act.put, List.setIfInBounds_toArray, List.set_cons_zero, List.set_cons_succ]
        refine held_take (i := 16) (v := ?_) rfl (by kernel_rfl) (by kernel_rfl) (by kernel_rfl) (fun _ _ _ h => h) (by rfl) (fun wq hSq => ?_) hHeld0 ?_
        rotate_left
        · (try dsimp only at hSq); go_simp; try with_reducible rfl
        simp only [Act.put, List.setIfInBounds_toArray, List.set_cons_zero, List.set_cons_succ]
        refine held_take (i := 17) (v := ?_) rfl (by kernel_rfl) (by kernel_rfl) (by kernel_rfl) (fun _ _ _ h => h) (by rfl) (fun wq hSq => ?_) hHeld0 ?_
        rotate_left
        · (try dsimp only at hSq); go_simp; try with_reducible rfl
        simp only [Act.put, List.setIfInBounds_toArray, List.set_cons_zero, List.set_cons_succ]
        refine wpAnyH_done (by kernel_rfl) ?_ _
        clear hHeld0
        go_wp2_with fail
        go_roundg (hs.length - (j + 1))
        case measure => have := Hk.out; omega
        case rel => exact ⟨j + 1, rfl, by omega, by rw [HST.out, HX4.out], by go_num, Hbr.out.drew⟩
      ·
        obtain rfl : j = hs.length := by omega
        have hlt2 : ¬ (hs.length : Int) < hs.length := by omega
        rw [List.take_length]
        generalize hs.flatMap hdrT = FT at *
        obtain ⟨X0, hX0⟩ : ∃ D, P0 ++ FT = D := ⟨_, rfl⟩
        obtain ⟨X1, hX1⟩ : ∃ D, X0 ++ [13, 10] = D := ⟨_, rfl⟩
        have hl0 : X0.length = P0.length + FT.length := by rw [← hX0, List.length_append]
        have hl1 : X1.length = X0.length + 2 := by rw [← hX1]; simp
        rw [hX0, hX1] at HTE
        have d1 : (⟨X0.toArray⟩ : ByteArray) ++ ⟨#[13, 10]⟩ = ⟨X1.toArray⟩ := by rw [← hX1]; exact bytes_app X0 [13, 10]
        have d2 : (⟨X1.toArray⟩ : ByteArray) ++ ⟨bd.toArray⟩ = ⟨T.toArray⟩ := by rw [bytes_app, HTE.out]
        have n1 : ¬ 9223372036854775807 < X0.length + 2 := by have := HSZ.out; have := HPL.out; omega
        have n2 : ¬ 9223372036854775807 < X1.length + bd.length := by have := HSZ.out; have := HPL.out; omega
        rw [hX0]
        clear hX0 hX1 hl0 hl1 HTE
        have a4 := HSr.out.row.cell 4 _ rfl
        have st := HSr.out.s.string
        go_wp2_with fail
        go_ret
        exact ⟨rfl, HBr.out⟩
end Go.Proofs.YtgdfgppgfkkncaaGreatDoor
