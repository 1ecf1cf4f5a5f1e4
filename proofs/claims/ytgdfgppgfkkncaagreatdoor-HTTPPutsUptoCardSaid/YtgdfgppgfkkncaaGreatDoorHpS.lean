/- Are two requests the same? The reference's Same. Printed by gen_hps.py. -/
import Derived.Test.YtgdfgppgfkkncaaGreatDoorHtY
namespace Go.Proofs.YtgdfgppgfkkncaaGreatDoor
open Go.RowKit

/-- What Same reads. -/
structure SamG (W : World) (R1 R2 : Nat) (m1 u1 q1 m2 u2 q2 : List UInt8) (cl1 cl2 : Bool) (v1 v2 b1 b2 : Value) (h1 h2 : List Hdr) (l1 l2 : List UInt8) : Prop where
  row1 : RowAt W R1 [.string ⟨m1.toArray⟩, .string ⟨u1.toArray⟩, .string ⟨q1.toArray⟩, v1, b1, .bool cl1]
  row2 : RowAt W R2 [.string ⟨m2.toArray⟩, .string ⟨u2.toArray⟩, .string ⟨q2.toArray⟩, v2, b2, .bool cl2]
  h1 : HdrS W v1 h1
  h2 : HdrS W v2 h2
  s1 : BytG W b1 l1
  s2 : BytG W b2 l2
theorem SamG.below {W W' : World} {R1 R2 : Nat} {m1 u1 q1 m2 u2 q2 : List UInt8} {cl1 cl2 : Bool} {v1 v2 b1 b2 : Value} {h1 h2 : List Hdr} {l1 l2 : List UInt8} (h : SamG W R1 R2 m1 u1 q1 m2 u2 q2 cl1 cl2 v1 v2 b1 b2 h1 h2 l1 l2) (hb : Below W.heap.size W W') : SamG W' R1 R2 m1 u1 q1 m2 u2 q2 cl1 cl2 v1 v2 b1 b2 h1 h2 l1 l2 :=
  ⟨h.row1.below hb, h.row2.below hb, h.h1.below hb, h.h2.below hb, h.s1.below hb, h.s2.below hb⟩
set_option maxHeartbeats 4000000 in
set_option maxRecDepth 100000 in
theorem sameR_calls (w : World) (x1 x2 : Value) (r1 r2 : Req) (hx1 : ReqS w x1 r1) (hx2 : ReqS w x2 r2) : Calls Tryz.prog 21 #[x1, x2] w fun e w' => e = .returned (.bool (eqB r1 r2)) ∧ Below w.heap.size w w' := by
  obtain ⟨hv1, bv1, rfl, hh1, hb1⟩ := hx1
  obtain ⟨hv2, bv2, rfl, hh2, hb2⟩ := hx2
  obtain ⟨m1, u1, q1, hs1, bd1, cl1⟩ := r1
  obtain ⟨m2, u2, q2, hs2, bd2, cl2⟩ := r2
  simp only at hh1 hh2 hb1 hb2 ⊢
  obtain ⟨p1, c1, rfl, hc1, hm1, hf1⟩ := hh1.form
  obtain ⟨p2, c2, rfl, hc2, _, hf2⟩ := hh2.form
  obtain ⟨b1, e1, rfl, _⟩ := hb1.open
  obtain ⟨b2, e2, rfl, _⟩ := hb2.open
  have ha1 : Below w.heap.size w (w.alloc (Obj.cells #[Value.string { data := m1.toArray }, Value.string { data := u1.toArray }, Value.string { data := q1.toArray }, Value.slice p1 hs1.length c1, Value.slice b1 bd1.length e1, Value.bool cl1] 40)) := (Below.refl _ _).alloc (Nat.le_refl _) _
  have ha2 : Below (w.alloc (Obj.cells #[Value.string { data := m1.toArray }, Value.string { data := u1.toArray }, Value.string { data := q1.toArray }, Value.slice p1 hs1.length c1, Value.slice b1 bd1.length e1, Value.bool cl1] 40)).heap.size (w.alloc (Obj.cells #[Value.string { data := m1.toArray }, Value.string { data := u1.toArray }, Value.string { data := q1.toArray }, Value.slice p1 hs1.length c1, Value.slice b1 bd1.length e1, Value.bool cl1] 40)) ((w.alloc (Obj.cells #[Value.string { data := m1.toArray }, Value.string { data := u1.toArray }, Value.string { data := q1.toArray }, Value.slice p1 hs1.length c1, Value.slice b1 bd1.length e1, Value.bool cl1] 40)).alloc (Obj.cells #[Value.string { data := m2.toArray }, Value.string { data := u2.toArray }, Value.string { data := q2.toArray }, Value.slice p2 hs2.length c2, Value.slice b2 bd2.length e2, Value.bool cl2] 40)) := (Below.refl _ _).alloc (Nat.le_refl _) _
  have HS : Hid (SamG ((w.alloc (Obj.cells #[Value.string { data := m1.toArray }, Value.string { data := u1.toArray }, Value.string { data := q1.toArray }, Value.slice p1 hs1.length c1, Value.slice b1 bd1.length e1, Value.bool cl1] 40)).alloc (Obj.cells #[Value.string { data := m2.toArray }, Value.string { data := u2.toArray }, Value.string { data := q2.toArray }, Value.slice p2 hs2.length c2, Value.slice b2 bd2.length e2, Value.bool cl2] 40)) w.heap.size (w.heap.size + 1) m1 u1 q1 m2 u2 q2 cl1 cl2 _ _ _ _ hs1 hs2 bd1 bd2) := ⟨(RowAt.new w #[Value.string { data := m1.toArray }, Value.string { data := u1.toArray }, Value.string { data := q1.toArray }, Value.slice p1 hs1.length c1, Value.slice b1 bd1.length e1, Value.bool cl1] 40).alloc _, by have h9 := RowAt.new (w.alloc (Obj.cells #[Value.string { data := m1.toArray }, Value.string { data := u1.toArray }, Value.string { data := q1.toArray }, Value.slice p1 hs1.length c1, Value.slice b1 bd1.length e1, Value.bool cl1] 40)) #[Value.string { data := m2.toArray }, Value.string { data := u2.toArray }, Value.string { data := q2.toArray }, Value.slice p2 hs2.length c2, Value.slice b2 bd2.length e2, Value.bool cl2] 40; rw [World.size_alloc] at h9; exact h9, (hh1.below ha1).below ha2, (hh2.below ha1).below ha2, (hb1.below ha1).below ha2, (hb2.below ha1).below ha2⟩
  have HB : Hid (Below w.heap.size w ((w.alloc (Obj.cells #[Value.string { data := m1.toArray }, Value.string { data := u1.toArray }, Value.string { data := q1.toArray }, Value.slice p1 hs1.length c1, Value.slice b1 bd1.length e1, Value.bool cl1] 40)).alloc (Obj.cells #[Value.string { data := m2.toArray }, Value.string { data := u2.toArray }, Value.string { data := q2.toArray }, Value.slice p2 hs2.length c2, Value.slice b2 bd2.length e2, Value.bool cl2] 40))) := ha1.trans (ha2.mono ha1.size)
  have Hf1 := Lib.hid hf1
  have Hf2 := Lib.hid hf2
  have hmx : hs1.length ≤ 9223372036854775807 := hm1
  clear hh1 hh2 hb1 hb2 ha1 ha2 hf1 hf2 hm1
  go_enter Tryz.func21, Tryz.ntmps21
  go_upto_region 1 with fail
  generalize (w.alloc (Obj.cells #[Value.string { data := m1.toArray }, Value.string { data := u1.toArray }, Value.string { data := q1.toArray }, Value.slice p1 hs1.length c1, Value.slice b1 bd1.length e1, Value.bool cl1] 40)).alloc (Obj.cells #[Value.string { data := m2.toArray }, Value.string { data := u2.toArray }, Value.string { data := q2.toArray }, Value.slice p2 hs2.length c2, Value.slice b2 bd2.length e2, Value.bool cl2] 40) = w1 at *
  have a10 := HS.out.row1.cell 0 _ rfl
  have a11 := HS.out.row1.cell 1 _ rfl
  have a12 := HS.out.row1.cell 2 _ rfl
  have a13 := HS.out.row1.cell 3 _ rfl
  have a14 := HS.out.row1.cell 4 _ rfl
  have a15 := HS.out.row1.cell 5 _ rfl
  have a20 := HS.out.row2.cell 0 _ rfl
  have a21 := HS.out.row2.cell 1 _ rfl
  have a22 := HS.out.row2.cell 2 _ rfl
  have a23 := HS.out.row2.cell 3 _ rfl
  have a24 := HS.out.row2.cell 4 _ rfl
  have a25 := HS.out.row2.cell 5 _ rfl
  have st1 := HS.out.s1.string
  have st2 := HS.out.s2.string
  by_cases h0 : m1 = m2
  rotate_left
  ·
    have HN : Hid (eqB (⟨m1, u1, q1, hs1, bd1, cl1⟩ : Req) ⟨m2, u2, q2, hs2, bd2, cl2⟩ = false) := req_ne (.inl h0)
    have g : (m1 == m2) = false := by rw [beq_eq_false_iff_ne]; exact h0
    clear h0
    go_wp2_with fail
    go_ret
    exact ⟨by rw [HN.out]; rfl, HB.out⟩
  subst h0
  by_cases h1 : u1 = u2
  rotate_left
  ·
    have HN : Hid (eqB (⟨m1, u1, q1, hs1, bd1, cl1⟩ : Req) ⟨m1, u2, q2, hs2, bd2, cl2⟩ = false) := req_ne (.inr (.inl h1))
    have g : (u1 == u2) = false := by rw [beq_eq_false_iff_ne]; exact h1
    clear h1
    go_wp2_with fail
    go_ret
    exact ⟨by rw [HN.out]; rfl, HB.out⟩
  subst h1
  by_cases h2 : q1 = q2
  rotate_left
  ·
    have HN : Hid (eqB (⟨m1, u1, q1, hs1, bd1, cl1⟩ : Req) ⟨m1, u1, q2, hs2, bd2, cl2⟩ = false) := req_ne (.inr (.inr (.inl h2)))
    have g : (q1 == q2) = false := by rw [beq_eq_false_iff_ne]; exact h2
    clear h2
    go_wp2_with fail
    go_ret
    exact ⟨by rw [HN.out]; rfl, HB.out⟩
  subst h2
  by_cases h3 : bd1 = bd2
  rotate_left
  ·
    have HN : Hid (eqB (⟨m1, u1, q1, hs1, bd1, cl1⟩ : Req) ⟨m1, u1, q1, hs2, bd2, cl2⟩ = false) := req_ne (.inr (.inr (.inr (.inr (.inr h3)))))
    have g : (bd1 == bd2) = false := by rw [beq_eq_false_iff_ne]; exact h3
    clear h3
    go_wp2_with fail
    go_ret
    exact ⟨by rw [HN.out]; rfl, HB.out⟩
  subst h3
  by_cases h4 : cl1 = cl2
  rotate_left
  ·
    have HN : Hid (eqB (⟨m1, u1, q1, hs1, bd1, cl1⟩ : Req) ⟨m1, u1, q1, hs2, bd1, cl2⟩ = false) := req_ne (.inr (.inr (.inr (.inl h4))))
    have g : (cl1 == cl2) = false := by cases cl1 <;> cases cl2 <;> simp_all
    clear h4
    go_wp2_with fail
    go_ret
    exact ⟨by rw [HN.out]; rfl, HB.out⟩
  subst h4
  by_cases hl : hs1.length = hs2.length
  rotate_left
  ·
    have g : ((hs1.length : Int) != hs2.length) = true := by rw [bne_iff_ne]; omega
    have HN : Hid (eqB (⟨m1, u1, q1, hs1, bd1, cl1⟩ : Req) ⟨m1, u1, q1, hs2, bd1, cl1⟩ = false) := req_ne (.inr (.inr (.inr (.inr (.inl (fun e => hl (congrArg List.length e)))))))
    clear hl
    go_wp2_with fail
    go_ret
    exact ⟨by rw [HN.out]; rfl, HB.out⟩
  have g1 : ((hs1.length : Int) != hs2.length) = false := by rw [bne_eq_false_iff_eq]; omega
  have HL := Lib.hid hl
  clear hl
  go_wp2_with fail
  clear g1 st1 st2 a10 a11 a12 a14 a15 a20 a21 a22 a24 a25
  go_loopg [5] hs1.length (fun k i wr => ∃ j : Nat, k = hs1.length - j ∧ j ≤ hs1.length ∧ i = .int .i64 (j : Int) ∧ hs1.take j = hs2.take j ∧ Below w1.heap.size w1 wr)
  case atStart => exact ⟨0, rfl, by omega, rfl, rfl, Below.refl _ _⟩
  case round =>
    obtain ⟨j, hk, hj, rfl, ht, hbr⟩ := hrel
    have Hk := Lib.hid hk
    have HT := Lib.hid ht
    have HSr := Lib.hid (HS.out.below hbr)
    have HBr := Lib.hid (HB.out.trans (hbr.mono HB.out.size))
    have Hbr := Lib.hid hbr
    replace a13 := HSr.out.row1.cell 3 _ rfl
    replace a23 := HSr.out.row2.cell 3 _ rfl
    clear hk ht hbr
    by_cases hlt : j < hs1.length
    ·
      have hlt2 : (j : Int) < hs1.length := by omega
      have hlt4 : j < hs2.length := by have := HL.out; omega
      have hlt3 : (j : Int) < hs2.length := by omega
      obtain ⟨g1, o1, rfl⟩ := Hf1.out (by omega)
      obtain ⟨g2, o2, rfl⟩ := Hf2.out (by omega)
      have y1 := HSr.out.h1.at j hlt
      have y2 := HSr.out.h2.at j hlt4
      have HSTEP : Hid (hs1.getD j ⟨[], []⟩ = hs2.getD j ⟨[], []⟩ → hs1.take (j + 1) = hs2.take (j + 1)) := take_eq_step hlt hlt4 HT.out
      have HNE : Hid (hs1.getD j ⟨[], []⟩ ≠ hs2.getD j ⟨[], []⟩ → eqB (⟨m1, u1, q1, hs1, bd1, cl1⟩ : Req) ⟨m1, u1, q1, hs2, bd1, cl1⟩ = false) := fun h => req_ne (.inr (.inr (.inr (.inr (.inl (getD_ne h))))))
      generalize hs1.getD j ⟨[], []⟩ = d1 at *
      generalize hs2.getD j ⟨[], []⟩ = d2 at *
      obtain ⟨n1, x1⟩ := d1
      obtain ⟨n2, x2⟩ := d2
      dsimp only at y1 y2
      have hne := fun w => run_neq_hdr n1 x1 n2 x2 w
      obtain ⟨bb, hbb⟩ : ∃ bb, (n1 == n2 && x1 == x2) = bb := ⟨_, rfl⟩
      rw [hbb] at hne
      have Hbb := Lib.hid hbb
      clear hbb
      go_upto_region 6 with fail
      have hS0 : (fun W => W.cell? ⟨w.heap.size, 3, none⟩ = some (.slice (some ⟨g1, o1, none⟩) hs1.length c1) ∧ W.cell? ⟨w.heap.size + 1, 3, none⟩ = some (.slice (some ⟨g2, o2, none⟩) hs2.length c2) ∧ W.cell? ⟨g1, o1 + j * 2, none⟩ = some (.string ⟨n1.toArray⟩) ∧ W.cell? ⟨g1, o1 + j * 2 + 1, none⟩ = some (.string ⟨x1.toArray⟩) ∧ W.cell? ⟨g2, o2 + j * 2, none⟩ = some (.string ⟨n2.toArray⟩) ∧ W.cell? ⟨g2, o2 + j * 2 + 1, none⟩ = some (.string ⟨x2.toArray⟩)) wr.drew := ⟨a13, a23, y1.1, y1.2, y2.1, y2.2⟩
      clear y1 y2
      refine wp_region_held_drew (S := (fun W => W.cell? ⟨w.heap.size, 3, none⟩ = some (.slice (some ⟨g1, o1, none⟩) hs1.length c1) ∧ W.cell? ⟨w.heap.size + 1, 3, none⟩ = some (.slice (some ⟨g2, o2, none⟩) hs2.length c2) ∧ W.cell? ⟨g1, o1 + j * 2, none⟩ = some (.string ⟨n1.toArray⟩) ∧ W.cell? ⟨g1, o1 + j * 2 + 1, none⟩ = some (.string ⟨x1.toArray⟩) ∧ W.cell? ⟨g2, o2 + j * 2, none⟩ = some (.string ⟨n2.toArray⟩) ∧ W.cell? ⟨g2, o2 + j * 2 + 1, none⟩ = some (.string ⟨x2.toArray⟩))) (by kernel_rfl) hS0 (fun hHeld0 => ?_)
      refine held_take (i := 0) (v := ?_) rfl (by kernel_rfl) (by kernel_rfl) (by kernel_rfl) (fun _ _ _ h => h) (by rfl) (fun wq hSq => ?_) hHeld0 ?_
      rotate_left
      · (try dsimp only at hSq); go_simp; try with_reducible rfl
      simp only [Act.put, List.setIfInBounds_toArray, List.set_cons_zero, List.set_cons_succ]
      refine held_take (i := 1) (v := ?_) rfl (by kernel_rfl) (by kernel_rfl) (by kernel_rfl) (fun _ _ _ h => h) (by rfl) (fun wq hSq => ?_) hHeld0 ?_
      rotate_left
      · (try dsimp only at hSq); go_simp; try with_reducible rfl
      simp only [Act.put, List.setIfInBounds_toArray, List.set_cons_zero, List.set_cons_succ]
      refine held_take (i := 2) (v := ?_) rfl (by kernel_rfl) (by kernel_rfl) (by kernel_rfl) (fun _ _ _ h => h) (by rfl) (fun wq hSq => ?_) hHeld0 ?_
      rotate_left
      · (try dsimp only at hSq); go_simp; try with_reducible rfl
      simp only [Act.put, List.setIfInBounds_toArray, List.set_cons_zero, List.set_cons_succ]
      refine held_take (i := 3) (v := ?_) rfl (by kernel_rfl) (by kernel_rfl) (by kernel_rfl) (fun _ _ _ h => h) (by rfl) (fun wq hSq => ?_) hHeld0 ?_
      rotate_left
      · (try dsimp only at hSq); go_simp; try with_reducible rfl
      simp only [Act.put, List.setIfInBounds_toArray, List.set_cons_zero, List.set_cons_succ]
      refine held_take (i := 4) (v := ?_) rfl (by kernel_rfl) (by kernel_rfl) (by kernel_rfl) (fun _ _ _ h => h) (by rfl) (fun wq hSq => ?_) hHeld0 ?_
      rotate_left
      · (try dsimp only at hSq); go_simp; try with_reducible rfl
      simp only [Act.put, List.setIfInBounds_toArray, List.set_cons_zero, List.set_cons_succ]
      refine held_take (i := 5) (v := ?_) rfl (by kernel_rfl) (by kernel_rfl) (by kernel_rfl) (fun _ _ _ h => h) (by rfl) (fun wq hSq => ?_) hHeld0 ?_
      rotate_left
      · (try dsimp only at hSq); go_simp; try with_reducible rfl
      simp only [Act.put, List.setIfInBounds_toArray, List.set_cons_zero, List.set_cons_succ]
      refine held_take (i := 6) (v := ?_) rfl (by kernel_rfl) (by kernel_rfl) (by kernel_rfl) (fun _ _ _ h => h) (by rfl) (fun wq hSq => ?_) hHeld0 ?_
      rotate_left
      · (try dsimp only at hSq); go_simp; try with_reducible rfl
      simp only [Act.put, List.setIfInBounds_toArray, List.set_cons_zero, List.set_cons_succ]
      refine held_take (i := 7) (v := ?_) rfl (by kernel_rfl) (by kernel_rfl) (by kernel_rfl) (fun _ _ _ h => h) (by rfl) (fun wq hSq => ?_) hHeld0 ?_
      rotate_left
      · (try dsimp only at hSq); go_simp; try with_reducible rfl
      simp only [Act.put, List.setIfInBounds_toArray, List.set_cons_zero, List.set_cons_succ]
      refine held_take (i := 8) (v := ?_) rfl (by kernel_rfl) (by kernel_rfl) (by kernel_rfl) (fun _ _ _ h => h) (by rfl) (fun wq hSq => ?_) hHeld0 ?_
      rotate_left
      · (try dsimp only at hSq); go_simp; try with_reducible rfl
      simp only [Act.put, List.setIfInBounds_toArray, List.set_cons_zero, List.set_cons_succ]
      refine held_take (i := 9) (v := ?_) rfl (by kernel_rfl) (by kernel_rfl) (by kernel_rfl) (fun _ _ _ h => h) (by rfl) (fun wq hSq => ?_) hHeld0 ?_
      rotate_left
      · (try dsimp only at hSq); go_simp; try with_reducible rfl
      simp only [Act.put, List.setIfInBounds_toArray, List.set_cons_zero, List.set_cons_succ]
      refine held_take (i := 10) (v := ?_) rfl (by kernel_rfl) (by kernel_rfl) (by kernel_rfl) (fun _ _ _ h => h) (by rfl) (fun wq hSq => ?_) hHeld0 ?_
      rotate_left
      · (try dsimp only at hSq); go_simp; try with_reducible rfl
      simp only [Act.put, List.setIfInBounds_toArray, List.set_cons_zero, List.set_cons_succ]
      refine wpAnyH_done (by kernel_rfl) ?_ _
      clear hHeld0
      cases bb with
      | true =>
        have hq : n1 = n2 ∧ x1 = x2 := by have := Hbb.out; simpa using this
        have HS2 := Lib.hid (HSTEP.out (by rw [hq.1, hq.2]))
        clear hq HSTEP HNE Hbb
        go_wp2_with fail
        go_roundg (hs1.length - (j + 1))
        case measure => have := Hk.out; omega
        case rel => exact ⟨j + 1, rfl, by omega, by go_num, HS2.out, Hbr.out.drew⟩
      | false =>
        have HN := Lib.hid (HNE.out (fun e => by
          have h9 := Hbb.out
          injection e with e1 e2
          rw [e1, e2] at h9
          simp at h9))
        clear HSTEP HNE Hbb
        go_wp2_with fail
        go_ret
        exact ⟨by rw [HN.out]; rfl, HBr.out.drew⟩
    ·
      obtain rfl : j = hs1.length := by omega
      have hlt2 : ¬ (hs1.length : Int) < hs1.length := by omega
      have HY : Hid (eqB (⟨m1, u1, q1, hs1, bd1, cl1⟩ : Req) ⟨m1, u1, q1, hs2, bd1, cl1⟩ = true) := eqB_true (by have h9 := HT.out; rw [List.take_length, HL.out, List.take_length] at h9; rw [h9])
      go_wp2_with fail
      go_ret
      exact ⟨by rw [HY.out]; rfl, HBr.out⟩
end Go.Proofs.YtgdfgppgfkkncaaGreatDoor
