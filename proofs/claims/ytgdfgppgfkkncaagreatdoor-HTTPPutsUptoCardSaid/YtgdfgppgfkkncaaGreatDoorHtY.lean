/- Are two requests the same? slices.Equal on headers, and the program's same. Printed by gen_hy.py. -/
import Derived.Test.YtgdfgppgfkkncaaGreatDoorHtQ
namespace Go.Proofs.YtgdfgppgfkkncaaGreatDoor
open Go.RowKit

theorem run_neq_hdr (a b c d : List UInt8) (w : World) : (binOp .neq 61 (.agg #[.string ⟨a.toArray⟩, .string ⟨b.toArray⟩]) (.agg #[.string ⟨c.toArray⟩, .string ⟨d.toArray⟩])).run Tryz.prog w = .ok (.bool (!(a == c && b == d))) w := by
  have := Tryz.underlying61
  have := Tryz.underlying9
  go_simp
  by_cases h1 : a = c
  · by_cases h2 : b = d
    · simp [h1, h2]
    · simp [h1, h2]
  · simp [h1]
noncomputable def eqB {α : Type} (a b : α) : Bool := @decide (a = b) (Classical.propDecidable _)
theorem eqB_true {α : Type} {a b : α} (h : a = b) : eqB a b = true := by unfold eqB; exact @decide_eq_true _ (Classical.propDecidable _) h
theorem eqB_false {α : Type} {a b : α} (h : a ≠ b) : eqB a b = false := by unfold eqB; exact @decide_eq_false _ (Classical.propDecidable _) h
theorem eqB_iff {α : Type} {a b : α} : eqB a b = true ↔ a = b := ⟨fun h => Classical.byContradiction (fun hn => by rw [eqB_false hn] at h; cases h), eqB_true⟩
theorem hdr_ext {a b : Hdr} (h1 : a.name = b.name) (h2 : a.value = b.value) : a = b := by
  obtain ⟨_, _⟩ := a; obtain ⟨_, _⟩ := b; simp_all
theorem getD_ne {a b : List Hdr} {j : Nat} (h : a.getD j ⟨[], []⟩ ≠ b.getD j ⟨[], []⟩) : a ≠ b := fun e => h (by rw [e])
theorem take_eq_step {a b : List Hdr} {j : Nat} (ha : j < a.length) (hb : j < b.length) (h : a.take j = b.take j) (he : a.getD j ⟨[], []⟩ = b.getD j ⟨[], []⟩) : a.take (j + 1) = b.take (j + 1) := by
  rw [List.take_add_one, List.take_add_one, h, List.getElem?_eq_getElem ha, List.getElem?_eq_getElem hb]
  simp only [List.getD, List.getElem?_eq_getElem ha, List.getElem?_eq_getElem hb, Option.getD_some] at he
  rw [he]
set_option maxHeartbeats 4000000 in
set_option maxRecDepth 100000 in
theorem equalH_calls (w : World) (v1 v2 : Value) (h1 h2 : List Hdr) (hv1 : HdrS w v1 h1) (hv2 : HdrS w v2 h2) : Calls Tryz.prog 89 #[v1, v2] w fun e w' => e = .returned (.bool (eqB h1 h2)) ∧ Below w.heap.size w w' := by
  obtain ⟨p1, c1, rfl, hc1, hm1, hp1⟩ := hv1.form
  obtain ⟨p2, c2, rfl, hc2, _, hp2⟩ := hv2.form
  have H1 := Lib.hid hv1
  have H2 := Lib.hid hv2
  have HP1 := Lib.hid hp1
  have HP2 := Lib.hid hp2
  have hmx : h1.length ≤ 9223372036854775807 := hm1
  clear hv1 hv2 hp1 hp2 hm1
  go_enter Tryz.func89, Tryz.ntmps89
  by_cases hl : h1.length = h2.length
  rotate_left
  ·
    have g1 : ((h1.length : Int) != h2.length) = true := by rw [bne_iff_ne]; omega
    have HN : Hid (eqB h1 h2 = false) := eqB_false (fun e => hl (by rw [e]))
    clear hl
    go_wp2_with fail
    go_ret
    exact ⟨by rw [HN.out]; rfl, Below.refl _ _⟩
  have g1 : ((h1.length : Int) != h2.length) = false := by rw [bne_eq_false_iff_eq]; omega
  have HL := Lib.hid hl
  clear hl
  go_wp2_with fail
  go_loopg [13] h1.length (fun k i wr => ∃ j : Nat, k = h1.length - j ∧ j ≤ h1.length ∧ i = .int .i64 (j : Int) ∧ h1.take j = h2.take j ∧ Below w.heap.size w wr)
  case atStart => exact ⟨0, rfl, by omega, rfl, rfl, Below.refl _ _⟩
  case round =>
    obtain ⟨j, hk, hj, rfl, ht, hbr⟩ := hrel
    have Hk := Lib.hid hk
    have HT := Lib.hid ht
    have Hbr := Lib.hid hbr
    clear hk ht hbr
    by_cases hlt : j < h1.length
    ·
      have hlt2 : (j : Int) < h1.length := by omega
      have hlt4 : j < h2.length := by have := HL.out; omega
      have hlt3 : (j : Int) < h2.length := by omega
      obtain ⟨g1, o1, rfl⟩ := HP1.out (by omega)
      obtain ⟨g2, o2, rfl⟩ := HP2.out (by omega)
      have y1 := (H1.out.below Hbr.out).at j hlt
      have y2 := (H2.out.below Hbr.out).at j hlt4
      have HSTEP : Hid (h1.getD j ⟨[], []⟩ = h2.getD j ⟨[], []⟩ → h1.take (j + 1) = h2.take (j + 1)) := take_eq_step hlt hlt4 HT.out
      have HNE : Hid (h1.getD j ⟨[], []⟩ ≠ h2.getD j ⟨[], []⟩ → eqB h1 h2 = false) := fun h => eqB_false (getD_ne h)
      generalize h1.getD j ⟨[], []⟩ = d1 at *
      generalize h2.getD j ⟨[], []⟩ = d2 at *
      obtain ⟨n1, x1⟩ := d1
      obtain ⟨n2, x2⟩ := d2
      dsimp only at y1 y2
      have hne := fun w => run_neq_hdr n1 x1 n2 x2 w
      obtain ⟨bb, hbb⟩ : ∃ bb, (n1 == n2 && x1 == x2) = bb := ⟨_, rfl⟩
      rw [hbb] at hne
      have Hbb := Lib.hid hbb
      clear hbb
      go_upto_region 6 with fail
      have hS0 : (fun W => W.cell? ⟨g1, o1 + j * 2, none⟩ = some (.string ⟨n1.toArray⟩) ∧ W.cell? ⟨g1, o1 + j * 2 + 1, none⟩ = some (.string ⟨x1.toArray⟩) ∧ W.cell? ⟨g2, o2 + j * 2, none⟩ = some (.string ⟨n2.toArray⟩) ∧ W.cell? ⟨g2, o2 + j * 2 + 1, none⟩ = some (.string ⟨x2.toArray⟩)) wr.drew := ⟨y1.1, y1.2, y2.1, y2.2⟩
      clear y1 y2
      refine wp_region_held_drew (S := (fun W => W.cell? ⟨g1, o1 + j * 2, none⟩ = some (.string ⟨n1.toArray⟩) ∧ W.cell? ⟨g1, o1 + j * 2 + 1, none⟩ = some (.string ⟨x1.toArray⟩) ∧ W.cell? ⟨g2, o2 + j * 2, none⟩ = some (.string ⟨n2.toArray⟩) ∧ W.cell? ⟨g2, o2 + j * 2 + 1, none⟩ = some (.string ⟨x2.toArray⟩))) (by kernel_rfl) hS0 (fun hHeld0 => ?_)
      refine held_take (i := 0) (v := ?_) rfl (by kernel_rfl) (by kernel_rfl) (by kernel_rfl) (fun _ _ _ h => h) (by rfl) (fun wq hSq => ?_) hHeld0 ?_
      rotate_left
      · (try dsimp only at hSq); go_simp; try with_reducible rfl
      simp only [Act.put, List.setIfInBounds_toArray, List.set_cons_zero, List.set_cons_succ]
      refine held_take (i := 1) (v := ?_) rfl (by kernel_rfl) (by kernel_rfl) (by kernel_rfl) (fun _ _ _ h => h) (by rfl) (fun wq hSq => ?_) hHeld0 ?_
      rotate_left
      · (try dsimp only at hSq); go_simp; try with_reducible rfl
      simp only [Act.put, List.setIfInBounds_toArray, List.set_cons_zero, List.set_cons_succ]
      refine held_take (i := 2) (v := ?_) rfl (by kernel_rfl) (by kernel_rfl) (by kernel_rfl) (fun _ _ _ h => h) (by rfl) (fun wq hSq => ?_) hHeld0 ?_
      rotate_left
      · (try dsimp only at hSq); go_simp; try with_reducible rfl
      simp only [Act.put, List.setIfInBounds_toArray, List.set_cons_zero, List.set_cons_succ]
      refine held_take (i := 3) (v := ?_) rfl (by kernel_rfl) (by kernel_rfl) (by kernel_rfl) (fun _ _ _ h => h) (by rfl) (fun wq hSq => ?_) hHeld0 ?_
      rotate_left
      · (try dsimp only at hSq); go_simp; try with_reducible rfl
      simp only [Act.put, List.setIfInBounds_toArray, List.set_cons_zero, List.set_cons_succ]
      refine held_take (i := 4) (v := ?_) rfl (by kernel_rfl) (by kernel_rfl) (by kernel_rfl) (fun _ _ _ h => h) (by rfl) (fun wq hSq => ?_) hHeld0 ?_
      rotate_left
      · (try dsimp only at hSq); go_simp; try with_reducible rfl
      simp only [Act.put, List.setIfInBounds_toArray, List.set_cons_zero, List.set_cons_succ]
      refine held_take (i := 5) (v := ?_) rfl (by kernel_rfl) (by kernel_rfl) (by kernel_rfl) (fun _ _ _ h => h) (by rfl) (fun wq hSq => ?_) hHeld0 ?_
      rotate_left
      · (try dsimp only at hSq); go_simp; try with_reducible rfl
      simp only [Act.put, List.setIfInBounds_toArray, List.set_cons_zero, List.set_cons_succ]
      refine held_take (i := 6) (v := ?_) rfl (by kernel_rfl) (by kernel_rfl) (by kernel_rfl) (fun _ _ _ h => h) (by rfl) (fun wq hSq => ?_) hHeld0 ?_
      rotate_left
      · (try dsimp only at hSq); go_simp; try with_reducible rfl
      simp only [Act.put, List.setIfInBounds_toArray, List.set_cons_zero, List.set_cons_succ]
      refine held_take (i := 7) (v := ?_) rfl (by kernel_rfl) (by kernel_rfl) (by kernel_rfl) (fun _ _ _ h => h) (by rfl) (fun wq hSq => ?_) hHeld0 ?_
      rotate_left
      · (try dsimp only at hSq); go_simp; try with_reducible rfl
      simp only [Act.put, List.setIfInBounds_toArray, List.set_cons_zero, List.set_cons_succ]
      refine held_take (i := 8) (v := ?_) rfl (by kernel_rfl) (by kernel_rfl) (by kernel_rfl) (fun _ _ _ h => h) (by rfl) (fun wq hSq => ?_) hHeld0 ?_
      rotate_left
      · (try dsimp only at hSq); go_simp; try with_reducible rfl
      simp only [Act.put, List.setIfInBounds_toArray, List.set_cons_zero, List.set_cons_succ]
      refine wpAnyH_done (by kernel_rfl) ?_ _
      clear hHeld0
      cases bb with
      | true =>
        have hq : n1 = n2 ∧ x1 = x2 := by have := Hbb.out; simpa using this
        have HS2 := Lib.hid (HSTEP.out (by rw [hq.1, hq.2]))
        clear hq HSTEP HNE Hbb
        go_wp2_with fail
        go_roundg (h1.length - (j + 1))
        case measure => have := Hk.out; omega
        case rel => exact ⟨j + 1, rfl, by omega, by go_num, HS2.out, Hbr.out.drew⟩
      | false =>
        have HN := Lib.hid (HNE.out (fun e => by
          have h9 := Hbb.out
          injection e with e1 e2
          rw [e1, e2] at h9
          simp at h9))
        clear HSTEP HNE Hbb
        go_wp2_with fail
        go_ret
        exact ⟨by rw [HN.out]; rfl, Hbr.out.drew⟩
    ·
      obtain rfl : j = h1.length := by omega
      have hlt2 : ¬ (h1.length : Int) < h1.length := by omega
      have HY : Hid (eqB h1 h2 = true) := eqB_true (by have h9 := HT.out; rw [List.take_length, HL.out, List.take_length] at h9; exact h9)
      go_wp2_with fail
      go_ret
      exact ⟨by rw [HY.out]; rfl, Hbr.out⟩
theorem strOfNums_u8 (l : List UInt8) : strOfNums (l.map (fun c => (c.toNat : Int))) = ⟨l.toArray⟩ := by
  unfold strOfNums
  congr 2
  rw [List.map_map]
  refine (List.map_congr_left (fun c _ => ?_)).trans (List.map_id l)
  simp
theorem equalB_calls (w : World) (v1 v2 : Value) (l1 l2 : List UInt8) (h1 : BytG w v1 l1) (h2 : BytG w v2 l2) : Calls Tryz.prog 90 #[v1, v2] w fun e w' => e = .returned (.bool (eqB l1 l2)) ∧ w = w' := by
  refine (Tryz.bytes_Equal v1 v2 (l1.map (fun c => (c.toNat : Int))) (l2.map (fun c => (c.toNat : Int))) w (by rw [strOfNums_u8]; exact h1.string) (by rw [strOfNums_u8]; exact h2.string)).mono ?_
  rintro e w' ⟨rfl, rfl⟩
  refine ⟨?_, rfl⟩
  rw [bytesOf_map, bytesOf_map]
  by_cases h : l1 = l2
  · rw [eqB_true h, h]; simp
  · rw [eqB_false h]; simp [h]
theorem req_ne {a b : Req} (h : a.method ≠ b.method ∨ a.path ≠ b.path ∨ a.query ≠ b.query ∨ a.close ≠ b.close ∨ a.headers ≠ b.headers ∨ a.body ≠ b.body) : eqB a b = false :=
  eqB_false (fun e => by subst e; simp at h)
set_option maxHeartbeats 4000000 in
set_option maxRecDepth 100000 in
/-- The program's same. -/
theorem sameP_calls (w : World) (x1 x2 : Value) (r1 r2 : Req) (hx1 : ReqS w x1 r1) (hx2 : ReqS w x2 r2) : Calls Tryz.prog 58 #[x1, x2] w fun e w' => e = .returned (.bool (eqB r1 r2)) ∧ Below w.heap.size w w' := by
  obtain ⟨hv1, bv1, rfl, hh1, hb1⟩ := hx1
  obtain ⟨hv2, bv2, rfl, hh2, hb2⟩ := hx2
  obtain ⟨m1, u1, q1, hs1, bd1, cl1⟩ := r1
  obtain ⟨m2, u2, q2, hs2, bd2, cl2⟩ := r2
  simp only at hh1 hh2 hb1 hb2 ⊢
  obtain ⟨p1, c1, rfl, _⟩ := hh1.form
  obtain ⟨p2, c2, rfl, _⟩ := hh2.form
  obtain ⟨b1, e1, rfl, _⟩ := hb1.open
  obtain ⟨b2, e2, rfl, _⟩ := hb2.open
  have ha1 : Below w.heap.size w (w.alloc (Obj.cells #[Value.string { data := m1.toArray }, Value.string { data := u1.toArray }, Value.string { data := q1.toArray }, Value.slice p1 hs1.length c1, Value.slice b1 bd1.length e1, Value.bool cl1] 40)) := (Below.refl _ _).alloc (Nat.le_refl _) _
  have ha2 : Below w.heap.size w ((w.alloc (Obj.cells #[Value.string { data := m1.toArray }, Value.string { data := u1.toArray }, Value.string { data := q1.toArray }, Value.slice p1 hs1.length c1, Value.slice b1 bd1.length e1, Value.bool cl1] 40)).alloc (Obj.cells #[Value.string { data := m2.toArray }, Value.string { data := u2.toArray }, Value.string { data := q2.toArray }, Value.slice p2 hs2.length c2, Value.slice b2 bd2.length e2, Value.bool cl2] 40)) := ha1.alloc (by simp) _
  have R1 := (RowAt.new w #[Value.string { data := m1.toArray }, Value.string { data := u1.toArray }, Value.string { data := q1.toArray }, Value.slice p1 hs1.length c1, Value.slice b1 bd1.length e1, Value.bool cl1] 40).alloc (Obj.cells #[Value.string { data := m2.toArray }, Value.string { data := u2.toArray }, Value.string { data := q2.toArray }, Value.slice p2 hs2.length c2, Value.slice b2 bd2.length e2, Value.bool cl2] 40)
  have R2 := RowAt.new (w.alloc (Obj.cells #[Value.string { data := m1.toArray }, Value.string { data := u1.toArray }, Value.string { data := q1.toArray }, Value.slice p1 hs1.length c1, Value.slice b1 bd1.length e1, Value.bool cl1] 40)) #[Value.string { data := m2.toArray }, Value.string { data := u2.toArray }, Value.string { data := q2.toArray }, Value.slice p2 hs2.length c2, Value.slice b2 bd2.length e2, Value.bool cl2] 40
  rw [World.size_alloc] at R2
  have HH1 := Lib.hid (hh1.below ha2)
  have HH2 := Lib.hid (hh2.below ha2)
  have HB1 := Lib.hid (hb1.below ha2)
  have HB2 := Lib.hid (hb2.below ha2)
  have HB := Lib.hid ha2
  have HLT : Hid (w.heap.size + 1 < ((w.alloc (Obj.cells #[Value.string { data := m1.toArray }, Value.string { data := u1.toArray }, Value.string { data := q1.toArray }, Value.slice p1 hs1.length c1, Value.slice b1 bd1.length e1, Value.bool cl1] 40)).alloc (Obj.cells #[Value.string { data := m2.toArray }, Value.string { data := u2.toArray }, Value.string { data := q2.toArray }, Value.slice p2 hs2.length c2, Value.slice b2 bd2.length e2, Value.bool cl2] 40)).heap.size) := Lib.hid (by simp)
  clear hh1 hh2 hb1 hb2 ha1 ha2
  have a10 := R1.cell 0 _ rfl
  have a11 := R1.cell 1 _ rfl
  have a12 := R1.cell 2 _ rfl
  have a13 := R1.cell 3 _ rfl
  have a14 := R1.cell 4 _ rfl
  have a15 := R1.cell 5 _ rfl
  have a20 := R2.cell 0 _ rfl
  have a21 := R2.cell 1 _ rfl
  have a22 := R2.cell 2 _ rfl
  have a23 := R2.cell 3 _ rfl
  have a24 := R2.cell 4 _ rfl
  have a25 := R2.cell 5 _ rfl
  clear R1 R2
  go_enter Tryz.func58, Tryz.ntmps58
  go_upto_region 1 with fail
  generalize (w.alloc (Obj.cells #[Value.string { data := m1.toArray }, Value.string { data := u1.toArray }, Value.string { data := q1.toArray }, Value.slice p1 hs1.length c1, Value.slice b1 bd1.length e1, Value.bool cl1] 40)).alloc (Obj.cells #[Value.string { data := m2.toArray }, Value.string { data := u2.toArray }, Value.string { data := q2.toArray }, Value.slice p2 hs2.length c2, Value.slice b2 bd2.length e2, Value.bool cl2] 40) = w1 at *
  by_cases h0 : m1 = m2
  rotate_left
  ·
    have HN : Hid (eqB (⟨m1, u1, q1, hs1, bd1, cl1⟩ : Req) ⟨m2, u2, q2, hs2, bd2, cl2⟩ = false) := req_ne (.inl h0)
    have g : (m1 == m2) = false := by rw [beq_eq_false_iff_ne]; exact h0
    clear h0
    go_wp2_with fail
    go_ret
    exact ⟨by rw [HN.out]; rfl, HB.out⟩
  subst h0
  by_cases h1 : u1 = u2
  rotate_left
  ·
    have HN : Hid (eqB (⟨m1, u1, q1, hs1, bd1, cl1⟩ : Req) ⟨m1, u2, q2, hs2, bd2, cl2⟩ = false) := req_ne (.inr (.inl h1))
    have g : (u1 == u2) = false := by rw [beq_eq_false_iff_ne]; exact h1
    clear h1
    go_wp2_with fail
    go_ret
    exact ⟨by rw [HN.out]; rfl, HB.out⟩
  subst h1
  by_cases h2 : q1 = q2
  rotate_left
  ·
    have HN : Hid (eqB (⟨m1, u1, q1, hs1, bd1, cl1⟩ : Req) ⟨m1, u1, q2, hs2, bd2, cl2⟩ = false) := req_ne (.inr (.inr (.inl h2)))
    have g : (q1 == q2) = false := by rw [beq_eq_false_iff_ne]; exact h2
    clear h2
    go_wp2_with fail
    go_ret
    exact ⟨by rw [HN.out]; rfl, HB.out⟩
  subst h2
  by_cases h3 : cl1 = cl2
  rotate_left
  ·
    have HN : Hid (eqB (⟨m1, u1, q1, hs1, bd1, cl1⟩ : Req) ⟨m1, u1, q1, hs2, bd2, cl2⟩ = false) := req_ne (.inr (.inr (.inr (.inl h3))))
    have g : (cl1 == cl2) = false := by cases cl1 <;> cases cl2 <;> simp_all
    clear h3
    go_wp2_with fail
    go_ret
    exact ⟨by rw [HN.out]; rfl, HB.out⟩
  subst h3
  go_wp2_with fail
  refine (equalH_calls w1 _ _ hs1 hs2 HH1.out HH2.out).mono ?_
  rintro e9 w2 ⟨rfl, hb2⟩
  have BB1 := Lib.hid (HB1.out.below hb2)
  have BB2 := Lib.hid (HB2.out.below hb2)
  have B2 := Lib.hid (HB.out.trans (hb2.mono HB.out.size))
  replace a14 := (hb2.cell (p := ⟨w.heap.size, 4, none⟩) (by have := HB.out.size; have := HLT.out; show w.heap.size < w1.heap.size; omega)).trans a14
  replace a24 := (hb2.cell (p := ⟨w.heap.size + 1, 4, none⟩) (by have := HB.out.size; have := HLT.out; show w.heap.size + 1 < w1.heap.size; omega)).trans a24
  clear hb2
  by_cases h4 : hs1 = hs2
  rotate_left
  ·
    have HN : Hid (eqB (⟨m1, u1, q1, hs1, bd1, cl1⟩ : Req) ⟨m1, u1, q1, hs2, bd2, cl1⟩ = false) := req_ne (.inr (.inr (.inr (.inr (.inl h4)))))
    rw [eqB_false h4]
    clear h4
    go_wp2_with fail
    go_ret
    exact ⟨by rw [HN.out]; rfl, B2.out⟩
  rw [eqB_true h4]
  subst h4
  go_wp2_with fail
  refine (equalB_calls w2 _ _ bd1 bd2 BB1.out BB2.out).mono ?_
  rintro e9 w3 ⟨rfl, rfl⟩
  by_cases h5 : bd1 = bd2
  rotate_left
  ·
    have HN : Hid (eqB (⟨m1, u1, q1, hs1, bd1, cl1⟩ : Req) ⟨m1, u1, q1, hs1, bd2, cl1⟩ = false) := req_ne (.inr (.inr (.inr (.inr (.inr h5)))))
    rw [eqB_false h5]
    clear h5
    go_wp2_with fail
    go_ret
    exact ⟨by rw [HN.out]; rfl, B2.out⟩
  rw [eqB_true h5]
  subst h5
  have HY : Hid (eqB (⟨m1, u1, q1, hs1, bd1, cl1⟩ : Req) ⟨m1, u1, q1, hs1, bd1, cl1⟩ = true) := eqB_true rfl
  go_wp2_with fail
  go_ret
  exact ⟨by rw [HY.out]; rfl, B2.out⟩
end Go.Proofs.YtgdfgppgfkkncaaGreatDoor
