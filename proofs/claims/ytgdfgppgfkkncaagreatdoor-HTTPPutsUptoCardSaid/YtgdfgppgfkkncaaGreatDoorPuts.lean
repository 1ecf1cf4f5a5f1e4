/- The walk of HTTPPuts: over any world. Printed by gen_puts.py. -/
import Derived.Test.YtgdfgppgfkkncaaGreatDoorHpL
import Derived.Test.YtgdfgppgfkkncaaGreatDoorHpB
import Derived.Test.YtgdfgppgfkkncaaGreatDoorHtZ
namespace Go.Proofs.YtgdfgppgfkkncaaGreatDoor
open Go.RowKit

/-- What HTTPPuts reads at its end. -/
structure PutS (W : World) (R g3 ghz gz oz : Nat) (m u q : List UInt8) (cl : Bool) (v1 b1 v3 b3 : Value) (hs : List Hdr) (bd : List UInt8) : Prop where
  r1 : RowAt W R [.string ⟨m.toArray⟩, .string ⟨u.toArray⟩, .string ⟨q.toArray⟩, v1, b1, .bool cl]
  r3 : RowAt W g3 [.string ⟨m.toArray⟩, .string ⟨u.toArray⟩, .string ⟨q.toArray⟩, v3, b3, .bool cl]
  h1 : HdrS W v1 hs
  s1 : BytG W b1 bd
  h3 : HdrS W v3 hs
  s3 : BytG W b3 bd
  sh : W.cell? ⟨ghz, hs.length * 2, none⟩ = some (.string ⟨spareN.toArray⟩)
  lh : ghz < W.heap.size
  sb : W.cell? ⟨gz, oz + bd.length, none⟩ = some (.int .u8 165)
  lb : gz < W.heap.size
theorem PutS.below {W W' : World} {R g3 ghz gz oz : Nat} {m u q : List UInt8} {cl : Bool} {v1 b1 v3 b3 : Value} {hs : List Hdr} {bd : List UInt8} (h : PutS W R g3 ghz gz oz m u q cl v1 b1 v3 b3 hs bd) (hb : Below W.heap.size W W') : PutS W' R g3 ghz gz oz m u q cl v1 b1 v3 b3 hs bd :=
  ⟨h.r1.below hb, h.r3.below hb, h.h1.below hb, h.s1.below hb, h.h3.below hb, h.s3.below hb, (hb.cell (p := ⟨ghz, hs.length * 2, none⟩) h.lh).trans h.sh, Nat.lt_of_lt_of_le h.lh hb.size, (hb.cell (p := ⟨gz, oz + bd.length, none⟩) h.lb).trans h.sb, Nat.lt_of_lt_of_le h.lb hb.size⟩
set_option maxHeartbeats 8000000 in
set_option maxRecDepth 100000 in
theorem puts_calls (w : World) (he : Env w) (x : Value) (r : Req) (hx : ReqS w x r) (hn : reqN r ≤ 50000000) : Calls Tryz.prog 8 #[x] w fun e w' => e = .returned (.bool true) ∧ Below w.heap.size w w' := by
  obtain ⟨hv, bv, rfl, hh, hb⟩ := hx
  obtain ⟨m, u, qy, hs, bd, cl⟩ := r
  simp only at hh hb ⊢
  obtain ⟨p1, c1, rfl, _, hm1, _⟩ := hh.form
  obtain ⟨b1, e1, rfl, _, hm2, _⟩ := hb.open
  have ha1 : Below w.heap.size w (w.alloc (Obj.cells #[Value.string { data := m.toArray }, Value.string { data := u.toArray }, Value.string { data := qy.toArray }, Value.slice p1 hs.length c1, Value.slice b1 bd.length e1, Value.bool cl] 40)) := (Below.refl _ _).alloc (Nat.le_refl _) _
  have HT : Hid (TolG (w.alloc (Obj.cells #[Value.string { data := m.toArray }, Value.string { data := u.toArray }, Value.string { data := qy.toArray }, Value.slice p1 hs.length c1, Value.slice b1 bd.length e1, Value.bool cl] 40)) w.heap.size m u qy cl (.slice p1 hs.length c1) (.slice b1 bd.length e1) hs bd) := ⟨RowAt.new w #[Value.string { data := m.toArray }, Value.string { data := u.toArray }, Value.string { data := qy.toArray }, Value.slice p1 hs.length c1, Value.slice b1 bd.length e1, Value.bool cl] 40, hh.below ha1, hb.below ha1⟩
  have HB := Lib.hid ha1
  have HH0 := Lib.hid hh
  have HS0 := Lib.hid hb
  have He := Lib.hid he
  have HN := Lib.hid hn
  have hmx : hs.length ≤ 9223372036854775807 := hm1
  have hmy : bd.length ≤ 9223372036854775807 := hm2
  clear hh hb ha1 he hn hm1 hm2
  go_enter Tryz.func8, Tryz.ntmps8
  go_upto_region 1 with fail
  generalize w.alloc (Obj.cells #[Value.string { data := m.toArray }, Value.string { data := u.toArray }, Value.string { data := qy.toArray }, Value.slice p1 hs.length c1, Value.slice b1 bd.length e1, Value.bool cl] 40) = w1 at *
  have a0 := HT.out.row.cell 0 _ rfl
  have a1 := HT.out.row.cell 1 _ rfl
  have a2 := HT.out.row.cell 2 _ rfl
  have a3 := HT.out.row.cell 3 _ rfl
  have a4 := HT.out.row.cell 4 _ rfl
  have a5 := HT.out.row.cell 5 _ rfl
  have HX : Hid (ReqS w1 (.agg #[.string ⟨m.toArray⟩, .string ⟨u.toArray⟩, .string ⟨qy.toArray⟩, (.slice p1 hs.length c1), (.slice b1 bd.length e1), .bool cl]) (⟨m, u, qy, hs, bd, cl⟩ : Req)) := ⟨_, _, rfl, HT.out.h, HT.out.s⟩
  go_wp2_with fail
  refine (long_calls w1 _ (⟨m, u, qy, hs, bd, cl⟩ : Req) HX.out (Nat.le_trans HN.out (by decide))).mono ?_
  rintro e w2 ⟨rfl, hb2⟩
  have HT2 := Lib.hid (HT.out.below hb2)
  have HB2 := Lib.hid (HB.out.trans (hb2.mono HB.out.size))
  clear hb2 HT HB HX a0 a1 a2 a3 a4 a5
  by_cases hbig : 40000 < reqN (⟨m, u, qy, hs, bd, cl⟩ : Req)
  ·
    have hd : decide (40000 < reqN (⟨m, u, qy, hs, bd, cl⟩ : Req)) = true := decide_eq_true hbig
    rw [hd]
    clear hd hbig
    go_wp2_with fail
    refine (works_calls _ (He.out.below HB2.out)).mono ?_
    rintro e w3 ⟨rfl, hb⟩
    go_wp2_with fail
    go_ret
    exact ⟨rfl, HB2.out.trans (hb.mono HB2.out.size)⟩
  have hd : decide (40000 < reqN (⟨m, u, qy, hs, bd, cl⟩ : Req)) = false := decide_eq_false hbig
  rw [hd]
  have hsm : reqN (⟨m, u, qy, hs, bd, cl⟩ : Req) ≤ 40000 := by omega
  have hfl := flat_len hs
  have hhl : hs.length ≤ 40000 := by simp only [reqN] at hsm; have : hs.length ≤ (hs.map hdrN).sum := hdrs_len hs; omega
  have hbl : bd.length ≤ 40000 := by simp only [reqN] at hsm; omega
  have HSM := Lib.hid hsm
  clear hd hbig hsm hfl
  have a0 := HT2.out.row.cell 0 _ rfl
  have a1 := HT2.out.row.cell 1 _ rfl
  have a2 := HT2.out.row.cell 2 _ rfl
  have a3 := HT2.out.row.cell 3 _ rfl
  have a4 := HT2.out.row.cell 4 _ rfl
  have a5 := HT2.out.row.cell 5 _ rfl
  go_upto_region 4 with fail
  have ha3 : Below w2.heap.size w2 (w2.alloc (Obj.cells #[Value.string { data := m.toArray }, Value.string { data := u.toArray }, Value.string { data := qy.toArray }, Value.slice p1 hs.length c1, Value.slice b1 bd.length e1, Value.bool cl] 40)) := (Below.refl _ _).alloc (Nat.le_refl _) _
  have R3 := Lib.hid (RowAt.new w2 #[Value.string { data := m.toArray }, Value.string { data := u.toArray }, Value.string { data := qy.toArray }, Value.slice p1 hs.length c1, Value.slice b1 bd.length e1, Value.bool cl] 40)
  have HT3 := Lib.hid (HT2.out.below ha3)
  have HB3 := Lib.hid (HB2.out.trans (ha3.mono HB2.out.size))
  have HNE : Hid (w.heap.size < w2.heap.size) := Lib.hid HT2.out.row.lt
  clear ha3 HT2 HB2 a0 a1 a2 a3 a4 a5
  obtain ⟨g3, hg3⟩ : ∃ x, w2.heap.size = x := ⟨_, rfl⟩
  rw [hg3] at R3 HNE ⊢
  generalize w2.alloc (Obj.cells #[Value.string { data := m.toArray }, Value.string { data := u.toArray }, Value.string { data := qy.toArray }, Value.slice p1 hs.length c1, Value.slice b1 bd.length e1, Value.bool cl] 40) = w3 at *
  clear hg3
  have HB := HB3
  have R1 := Lib.hid HT3.out.row
  clear HT3 HB3
  go_cut [] from 12 to 23 (fun wc => ∃ hv, SpareH wc w3.heap.size hv hs ∧ RowAt wc g3 [.string ⟨m.toArray⟩, .string ⟨u.toArray⟩, .string ⟨qy.toArray⟩, hv, (.slice b1 bd.length e1), .bool cl] ∧ RowAt wc w.heap.size [.string ⟨m.toArray⟩, .string ⟨u.toArray⟩, .string ⟨qy.toArray⟩, (.slice p1 hs.length c1), (.slice b1 bd.length e1), .bool cl] ∧ Below w.heap.size w wc ∧ w3.heap.size ≤ wc.heap.size)
  case first =>
    have hszd : w3.heap.size ≤ w3.drew.heap.size := Nat.le_refl _
    have BEd : Hid (Below w3.heap.size w3 w3.drew) := Lib.hid (Below.refl _ _).drew
    have hS0 : (fun W => W.cell? ⟨w.heap.size, 3, none⟩ = some (Value.slice p1 hs.length c1)) w3.drew := R1.out.cell 3 _ rfl
    refine wp_region_held_drew (S := (fun W => W.cell? ⟨w.heap.size, 3, none⟩ = some (Value.slice p1 hs.length c1))) (by kernel_rfl) hS0 (fun hHeld0 => ?_)
    generalize w3.drew = wd at *
    refine held_take (i := 1) (v := ?_) rfl (by kernel_rfl) (by kernel_rfl) (by kernel_rfl) (fun _ _ _ h => h) (by rfl) (fun wq hSq => ?_) hHeld0 ?_
    rotate_left
    · (try dsimp only at hSq); go_simp; try with_reducible rfl
    simp only [Act.put, List.setIfInBounds_toArray, List.set_cons_zero, List.set_cons_succ]
    refine held_take (i := 2) (v := ?_) rfl (by kernel_rfl) (by kernel_rfl) (by kernel_rfl) (fun _ _ _ h => h) (by rfl) (fun wq hSq => ?_) hHeld0 ?_
    rotate_left
    · (try dsimp only at hSq); go_simp; try with_reducible rfl
    simp only [Act.put, List.setIfInBounds_toArray, List.set_cons_zero, List.set_cons_succ]
    refine held_take (i := 4) (v := ?_) rfl (by kernel_rfl) (by kernel_rfl) (by kernel_rfl) (fun _ _ _ h => h) (by rfl) (fun wq hSq => ?_) hHeld0 ?_
    rotate_left
    · (try dsimp only at hSq); go_simp; try with_reducible rfl
    simp only [Act.put, List.setIfInBounds_toArray, List.set_cons_zero, List.set_cons_succ]
    refine held_take (i := 7) (v := ?_) rfl (by kernel_rfl) (by kernel_rfl) (by kernel_rfl) (fun _ _ _ h => h) (by rfl) (fun wq hSq => ?_) hHeld0 ?_
    rotate_left
    · (try dsimp only at hSq); go_simp; try with_reducible rfl
    simp only [Act.put, List.setIfInBounds_toArray, List.set_cons_zero, List.set_cons_succ]
    refine held_take (i := 8) (v := ?_) rfl (by kernel_rfl) (by kernel_rfl) (by kernel_rfl) (fun _ _ _ h => h) (by rfl) (fun wq hSq => ?_) hHeld0 ?_
    rotate_left
    · (try dsimp only at hSq); go_simp; try with_reducible rfl
    simp only [Act.put, List.setIfInBounds_toArray, List.set_cons_zero, List.set_cons_succ]
    refine held_take (i := 9) (v := ?_) rfl (by kernel_rfl) (by kernel_rfl) (by kernel_rfl) (fun _ _ _ h => h) (by rfl) (fun wq hSq => ?_) hHeld0 ?_
    rotate_left
    · (try dsimp only at hSq); go_simp; try with_reducible rfl
    simp only [Act.put, List.setIfInBounds_toArray, List.set_cons_zero, List.set_cons_succ]
    refine held_two (i := 0) (j := 5) (by kernel_rfl) rfl rfl (by rfl) (by rfl) (fun K hK => ?_) (fun K hK => ?_)
    ·
      go_simp
      have ha1 : Below wd.heap.size wd (wd.alloc (Obj.cells #[] 61)) := (Below.refl _ _).alloc (Nat.le_refl _) _
      have BE1 := Lib.hid (BEd.out.trans (ha1.mono hszd))
      have V1 : Hid (HdrV (wd.alloc (Obj.cells #[] 61)) w3.heap.size (.slice (some ⟨wd.heap.size, 0, none⟩) 0 0) []) := Lib.hid (hdrV_empty wd _ hszd)
      obtain ⟨ge1, he1⟩ : ∃ x, wd.heap.size = x := ⟨_, rfl⟩
      have SZ1 : w3.heap.size ≤ (wd.alloc (Obj.cells #[] 61)).heap.size := by rw [World.size_alloc]; have := hszd; omega
      have hG1 : wd.heap.size + 1 = (wd.alloc (Obj.cells #[] 61)).heap.size := by rw [World.size_alloc]
      clear ha1
      generalize (wd.alloc (Obj.cells #[] 61)) = W1 at *
      rw [he1] at hG1 V1 ⊢
      refine hK.out _ _ ((R1.out.below BE1.out).cell 3 _ rfl) (fun hHeld1 => ?_)
      clear hK K hHeld0
      refine held_two (i := 3) (j := 5) (by kernel_rfl) rfl rfl (by rfl) (by rfl) (fun K hK => ?_) (fun K hK => ?_)
      ·
        refine oper_append_hdrs _ _ rfl w3.heap.size _ _ _ _ rfl V1.out rfl (HH0.out.below (HB.out.trans (BE1.out.mono HB.out.size))) (by simp only [List.length_nil]; omega) SZ1 (fun v2 W2 hv2 hg2 => ?_)
        have BE2 := Lib.hid (BE1.out.grown hg2 BE1.out.size (fun k hk => (World.ownsRow.lt V1.out k hk).1))
        have V2 := Lib.hid hv2
        have SZ2 : w3.heap.size ≤ W2.heap.size := BE2.out.size
        rw [List.nil_append] at V2
        clear hv2 hg2
        simp only [Act.put, List.setIfInBounds_toArray, List.set_cons_zero, List.set_cons_succ]
        refine hK.out _ _ ((R1.out.below BE2.out).cell 3 _ rfl) (fun hHeld2 => ?_)
        clear hK K hHeld1
        refine held_step (i := 5) (by kernel_rfl) rfl (by rfl) (fun K hK => ?_)
        go_simp
        have ha3 : Below W2.heap.size W2 (W2.alloc (Obj.cells #[Value.string { data := #[115, 112, 97, 114, 101] }, Value.string { data := #[] }] 61)) := (Below.refl _ _).alloc (Nat.le_refl _) _
        have BE3 := Lib.hid (BE2.out.trans (ha3.mono SZ2))
        have V3 := Lib.hid (World.ownsRow.alloc V2.out (Obj.cells #[Value.string { data := #[115, 112, 97, 114, 101] }, Value.string { data := #[] }] 61))
        have LT3 : Hid (HdrS (W2.alloc (Obj.cells #[Value.string { data := #[115, 112, 97, 114, 101] }, Value.string { data := #[] }] 61)) (.slice (some ⟨W2.heap.size, 0, none⟩) 1 1) [⟨spareN, []⟩]) := Lib.hid (hdrS_one W2 ⟨spareN, []⟩)
        obtain ⟨gl3, hg3⟩ : ∃ x, W2.heap.size = x := ⟨_, rfl⟩
        have SZ3 : w3.heap.size ≤ (W2.alloc (Obj.cells #[Value.string { data := #[115, 112, 97, 114, 101] }, Value.string { data := #[] }] 61)).heap.size := by rw [World.size_alloc]; have := SZ2; omega
        have hG3 : W2.heap.size + 1 = (W2.alloc (Obj.cells #[Value.string { data := #[115, 112, 97, 114, 101] }, Value.string { data := #[] }] 61)).heap.size := by rw [World.size_alloc]
        clear ha3
        generalize (W2.alloc (Obj.cells #[Value.string { data := #[115, 112, 97, 114, 101] }, Value.string { data := #[] }] 61)) = W3 at *
        rw [hg3] at hG3 LT3 ⊢
        refine hK.out _ _ ((R1.out.below BE3.out).cell 3 _ rfl) (fun hHeld3 => ?_)
        clear hK K hHeld2
        refine held_step (i := 6) (by kernel_rfl) rfl (by rfl) (fun K hK => ?_)
        refine oper_append_hdrs _ _ rfl w3.heap.size _ _ _ _ rfl V3.out rfl LT3.out (by simp only [List.length_singleton]; omega) SZ3 (fun v4 W4 hv4 hg4 => ?_)
        have BE4 := Lib.hid (BE3.out.grown hg4 BE3.out.size (fun k hk => (World.ownsRow.lt V3.out k hk).1))
        obtain ⟨gz, cz, rfl⟩ := hv4.slice
        have hcz := (SpareH.parts hv4).2.2.1
        have VZ := Lib.hid hv4
        have hcz2 : hs.length ≤ cz := by omega
        clear hv4 hg4
        simp only [Act.put, List.setIfInBounds_toArray, List.set_cons_zero, List.set_cons_succ]
        have SZ4 : w3.heap.size ≤ W4.heap.size := BE4.out.size
        refine hK.out _ _ ((R1.out.below BE4.out).cell 3 _ rfl) (fun hHeld4 => ?_)
        clear hK K hHeld3
        refine held_take (i := 10) (v := ?_) rfl (by kernel_rfl) (by kernel_rfl) (by kernel_rfl) (fun _ _ _ h => h) (by rfl) (fun wq hSq => ?_) hHeld4 ?_
        rotate_left
        · (try dsimp only at hSq); go_simp; try with_reducible rfl
        simp only [Act.put, List.setIfInBounds_toArray, List.set_cons_zero, List.set_cons_succ]
        refine held_take (i := 11) (v := ?_) rfl (by kernel_rfl) (by kernel_rfl) (by kernel_rfl) (fun _ _ _ h => h) (by rfl) (fun wq hSq => ?_) hHeld4 ?_
        rotate_left
        · (try dsimp only at hSq); go_simp; try with_reducible rfl
        simp only [Act.put, List.setIfInBounds_toArray, List.set_cons_zero, List.set_cons_succ]
        have z3 := (R3.out.below BE4.out).cell 3 _ rfl
        have f3 := (R3.out.below BE4.out).free 3
        refine held_step (i := 12) (by kernel_rfl) rfl (by rfl) (fun K hK => ?_)
        go_simp
        clear z3 f3
        refine hK.out _ _ (((R1.out.below BE4.out).far (p := ⟨g3, 3, none⟩) (by have := HNE.out; show g3 ≠ w.heap.size; omega) _).cell 3 _ rfl) (fun hHeld5 => ?_)
        clear hK K hHeld4
        refine wpAnyH_done (by kernel_rfl) ?_ _
        clear hHeld5
        go_wp2_with fail
        go_meet
        have hap : Apart (fun k => k = g3) W4 (W4.setCell ⟨g3, 3, none⟩ (.slice (some ⟨gz, 0, none⟩) hs.length cz)) := Apart.set (S := fun k => k = g3) _ rfl _
        refine ⟨_, ⟨gz, cz, rfl, ownsRow_apart VZ.out hap (fun k hk h => by have h0 : gz = k := Option.some.inj hk; have h5 : k = g3 := h; have h1 := (SpareH.parts VZ.out).2.2.2.1; have h2 := R3.out.lt; omega)⟩, ((R3.out.below BE4.out).set 3 _ (by simp)), ((R1.out.below BE4.out).far (p := ⟨g3, 3, none⟩) (by have := HNE.out; show g3 ≠ w.heap.size; omega) _), (HB.out.trans (BE4.out.mono HB.out.size)).setCell (p := ⟨g3, 3, none⟩) (by have := HNE.out; show w.heap.size ≤ g3; omega) _, by rw [World.size_setCell]; exact SZ4⟩
      ·
        go_simp
        have ha5 : Below W1.heap.size W1 (W1.alloc (Obj.cells #[Value.string { data := #[115, 112, 97, 114, 101] }, Value.string { data := #[] }] 61)) := (Below.refl _ _).alloc (Nat.le_refl _) _
        have BE5 := Lib.hid (BE1.out.trans (ha5.mono SZ1))
        have V5 := Lib.hid (World.ownsRow.alloc V1.out (Obj.cells #[Value.string { data := #[115, 112, 97, 114, 101] }, Value.string { data := #[] }] 61))
        have LT5 : Hid (HdrS (W1.alloc (Obj.cells #[Value.string { data := #[115, 112, 97, 114, 101] }, Value.string { data := #[] }] 61)) (.slice (some ⟨W1.heap.size, 0, none⟩) 1 1) [⟨spareN, []⟩]) := Lib.hid (hdrS_one W1 ⟨spareN, []⟩)
        obtain ⟨gl5, hg5⟩ : ∃ x, W1.heap.size = x := ⟨_, rfl⟩
        have SZ5 : w3.heap.size ≤ (W1.alloc (Obj.cells #[Value.string { data := #[115, 112, 97, 114, 101] }, Value.string { data := #[] }] 61)).heap.size := by rw [World.size_alloc]; have := SZ1; omega
        have hG5 : W1.heap.size + 1 = (W1.alloc (Obj.cells #[Value.string { data := #[115, 112, 97, 114, 101] }, Value.string { data := #[] }] 61)).heap.size := by rw [World.size_alloc]
        clear ha5
        generalize (W1.alloc (Obj.cells #[Value.string { data := #[115, 112, 97, 114, 101] }, Value.string { data := #[] }] 61)) = W5 at *
        rw [hg5] at hG5 LT5 ⊢
        refine hK.out _ _ ((R1.out.below BE5.out).cell 3 _ rfl) (fun hHeld2 => ?_)
        clear hK K hHeld1
        refine held_step (i := 3) (by kernel_rfl) rfl (by rfl) (fun K hK => ?_)
        refine oper_append_hdrs _ _ rfl w3.heap.size _ _ _ _ rfl V5.out rfl (HH0.out.below (HB.out.trans (BE5.out.mono HB.out.size))) (by simp only [List.length_nil]; omega) SZ5 (fun v6 W6 hv6 hg6 => ?_)
        have BE6 := Lib.hid (BE5.out.grown hg6 BE5.out.size (fun k hk => (World.ownsRow.lt V5.out k hk).1))
        have LT6 := Lib.hid (LT5.out.grown hg6 (fun h => by have h1 : gl5 = ge1 := Option.some.inj h; omega))
        have V6 := Lib.hid hv6
        have SZ6 : w3.heap.size ≤ W6.heap.size := BE6.out.size
        rw [List.nil_append] at V6
        clear hv6 hg6
        simp only [Act.put, List.setIfInBounds_toArray, List.set_cons_zero, List.set_cons_succ]
        refine hK.out _ _ ((R1.out.below BE6.out).cell 3 _ rfl) (fun hHeld3 => ?_)
        clear hK K hHeld2
        refine held_step (i := 6) (by kernel_rfl) rfl (by rfl) (fun K hK => ?_)
        refine oper_append_hdrs _ _ rfl w3.heap.size _ _ _ _ rfl V6.out rfl LT6.out (by simp only [List.length_singleton]; omega) SZ6 (fun v7 W7 hv7 hg7 => ?_)
        have BE7 := Lib.hid (BE6.out.grown hg7 BE6.out.size (fun k hk => (World.ownsRow.lt V6.out k hk).1))
        obtain ⟨gz, cz, rfl⟩ := hv7.slice
        have hcz := (SpareH.parts hv7).2.2.1
        have VZ := Lib.hid hv7
        have hcz2 : hs.length ≤ cz := by omega
        clear hv7 hg7
        simp only [Act.put, List.setIfInBounds_toArray, List.set_cons_zero, List.set_cons_succ]
        have SZ7 : w3.heap.size ≤ W7.heap.size := BE7.out.size
        refine hK.out _ _ ((R1.out.below BE7.out).cell 3 _ rfl) (fun hHeld4 => ?_)
        clear hK K hHeld3
        refine held_take (i := 10) (v := ?_) rfl (by kernel_rfl) (by kernel_rfl) (by kernel_rfl) (fun _ _ _ h => h) (by rfl) (fun wq hSq => ?_) hHeld4 ?_
        rotate_left
        · (try dsimp only at hSq); go_simp; try with_reducible rfl
        simp only [Act.put, List.setIfInBounds_toArray, List.set_cons_zero, List.set_cons_succ]
        refine held_take (i := 11) (v := ?_) rfl (by kernel_rfl) (by kernel_rfl) (by kernel_rfl) (fun _ _ _ h => h) (by rfl) (fun wq hSq => ?_) hHeld4 ?_
        rotate_left
        · (try dsimp only at hSq); go_simp; try with_reducible rfl
        simp only [Act.put, List.setIfInBounds_toArray, List.set_cons_zero, List.set_cons_succ]
        have z3 := (R3.out.below BE7.out).cell 3 _ rfl
        have f3 := (R3.out.below BE7.out).free 3
        refine held_step (i := 12) (by kernel_rfl) rfl (by rfl) (fun K hK => ?_)
        go_simp
        clear z3 f3
        refine hK.out _ _ (((R1.out.below BE7.out).far (p := ⟨g3, 3, none⟩) (by have := HNE.out; show g3 ≠ w.heap.size; omega) _).cell 3 _ rfl) (fun hHeld5 => ?_)
        clear hK K hHeld4
        refine wpAnyH_done (by kernel_rfl) ?_ _
        clear hHeld5
        go_wp2_with fail
        go_meet
        have hap : Apart (fun k => k = g3) W7 (W7.setCell ⟨g3, 3, none⟩ (.slice (some ⟨gz, 0, none⟩) hs.length cz)) := Apart.set (S := fun k => k = g3) _ rfl _
        refine ⟨_, ⟨gz, cz, rfl, ownsRow_apart VZ.out hap (fun k hk h => by have h0 : gz = k := Option.some.inj hk; have h5 : k = g3 := h; have h1 := (SpareH.parts VZ.out).2.2.2.1; have h2 := R3.out.lt; omega)⟩, ((R3.out.below BE7.out).set 3 _ (by simp)), ((R1.out.below BE7.out).far (p := ⟨g3, 3, none⟩) (by have := HNE.out; show g3 ≠ w.heap.size; omega) _), (HB.out.trans (BE7.out.mono HB.out.size)).setCell (p := ⟨g3, 3, none⟩) (by have := HNE.out; show w.heap.size ≤ g3; omega) _, by rw [World.size_setCell]; exact SZ7⟩
    ·
      go_simp
      have ha8 : Below wd.heap.size wd (wd.alloc (Obj.cells #[Value.string { data := #[115, 112, 97, 114, 101] }, Value.string { data := #[] }] 61)) := (Below.refl _ _).alloc (Nat.le_refl _) _
      have BE8 := Lib.hid (BEd.out.trans (ha8.mono hszd))
      have LT8 : Hid (HdrS (wd.alloc (Obj.cells #[Value.string { data := #[115, 112, 97, 114, 101] }, Value.string { data := #[] }] 61)) (.slice (some ⟨wd.heap.size, 0, none⟩) 1 1) [⟨spareN, []⟩]) := Lib.hid (hdrS_one wd ⟨spareN, []⟩)
      obtain ⟨gl8, hg8⟩ : ∃ x, wd.heap.size = x := ⟨_, rfl⟩
      have SZ8 : w3.heap.size ≤ (wd.alloc (Obj.cells #[Value.string { data := #[115, 112, 97, 114, 101] }, Value.string { data := #[] }] 61)).heap.size := by rw [World.size_alloc]; have := hszd; omega
      have hG8 : wd.heap.size + 1 = (wd.alloc (Obj.cells #[Value.string { data := #[115, 112, 97, 114, 101] }, Value.string { data := #[] }] 61)).heap.size := by rw [World.size_alloc]
      clear ha8
      generalize (wd.alloc (Obj.cells #[Value.string { data := #[115, 112, 97, 114, 101] }, Value.string { data := #[] }] 61)) = W8 at *
      rw [hg8] at hG8 LT8 ⊢
      refine hK.out _ _ ((R1.out.below BE8.out).cell 3 _ rfl) (fun hHeld1 => ?_)
      clear hK K hHeld0
      refine held_step (i := 0) (by kernel_rfl) rfl (by rfl) (fun K hK => ?_)
      go_simp
      have ha9 : Below W8.heap.size W8 (W8.alloc (Obj.cells #[] 61)) := (Below.refl _ _).alloc (Nat.le_refl _) _
      have BE9 := Lib.hid (BE8.out.trans (ha9.mono SZ8))
      have LT9 := Lib.hid (LT8.out.below ha9)
      have V9 : Hid (HdrV (W8.alloc (Obj.cells #[] 61)) w3.heap.size (.slice (some ⟨W8.heap.size, 0, none⟩) 0 0) []) := Lib.hid (hdrV_empty W8 _ SZ8)
      obtain ⟨ge9, he9⟩ : ∃ x, W8.heap.size = x := ⟨_, rfl⟩
      have SZ9 : w3.heap.size ≤ (W8.alloc (Obj.cells #[] 61)).heap.size := by rw [World.size_alloc]; have := SZ8; omega
      have hG9 : W8.heap.size + 1 = (W8.alloc (Obj.cells #[] 61)).heap.size := by rw [World.size_alloc]
      clear ha9
      generalize (W8.alloc (Obj.cells #[] 61)) = W9 at *
      rw [he9] at hG9 V9 ⊢
      refine hK.out _ _ ((R1.out.below BE9.out).cell 3 _ rfl) (fun hHeld2 => ?_)
      clear hK K hHeld1
      refine held_step (i := 3) (by kernel_rfl) rfl (by rfl) (fun K hK => ?_)
      refine oper_append_hdrs _ _ rfl w3.heap.size _ _ _ _ rfl V9.out rfl (HH0.out.below (HB.out.trans (BE9.out.mono HB.out.size))) (by simp only [List.length_nil]; omega) SZ9 (fun v10 W10 hv10 hg10 => ?_)
      have BE10 := Lib.hid (BE9.out.grown hg10 BE9.out.size (fun k hk => (World.ownsRow.lt V9.out k hk).1))
      have LT10 := Lib.hid (LT9.out.grown hg10 (fun h => by have h1 : gl8 = ge9 := Option.some.inj h; omega))
      have V10 := Lib.hid hv10
      have SZ10 : w3.heap.size ≤ W10.heap.size := BE10.out.size
      rw [List.nil_append] at V10
      clear hv10 hg10
      simp only [Act.put, List.setIfInBounds_toArray, List.set_cons_zero, List.set_cons_succ]
      refine hK.out _ _ ((R1.out.below BE10.out).cell 3 _ rfl) (fun hHeld3 => ?_)
      clear hK K hHeld2
      refine held_step (i := 6) (by kernel_rfl) rfl (by rfl) (fun K hK => ?_)
      refine oper_append_hdrs _ _ rfl w3.heap.size _ _ _ _ rfl V10.out rfl LT10.out (by simp only [List.length_singleton]; omega) SZ10 (fun v11 W11 hv11 hg11 => ?_)
      have BE11 := Lib.hid (BE10.out.grown hg11 BE10.out.size (fun k hk => (World.ownsRow.lt V10.out k hk).1))
      obtain ⟨gz, cz, rfl⟩ := hv11.slice
      have hcz := (SpareH.parts hv11).2.2.1
      have VZ := Lib.hid hv11
      have hcz2 : hs.length ≤ cz := by omega
      clear hv11 hg11
      simp only [Act.put, List.setIfInBounds_toArray, List.set_cons_zero, List.set_cons_succ]
      have SZ11 : w3.heap.size ≤ W11.heap.size := BE11.out.size
      refine hK.out _ _ ((R1.out.below BE11.out).cell 3 _ rfl) (fun hHeld4 => ?_)
      clear hK K hHeld3
      refine held_take (i := 10) (v := ?_) rfl (by kernel_rfl) (by kernel_rfl) (by kernel_rfl) (fun _ _ _ h => h) (by rfl) (fun wq hSq => ?_) hHeld4 ?_
      rotate_left
      · (try dsimp only at hSq); go_simp; try with_reducible rfl
      simp only [Act.put, List.setIfInBounds_toArray, List.set_cons_zero, List.set_cons_succ]
      refine held_take (i := 11) (v := ?_) rfl (by kernel_rfl) (by kernel_rfl) (by kernel_rfl) (fun _ _ _ h => h) (by rfl) (fun wq hSq => ?_) hHeld4 ?_
      rotate_left
      · (try dsimp only at hSq); go_simp; try with_reducible rfl
      simp only [Act.put, List.setIfInBounds_toArray, List.set_cons_zero, List.set_cons_succ]
      have z3 := (R3.out.below BE11.out).cell 3 _ rfl
      have f3 := (R3.out.below BE11.out).free 3
      refine held_step (i := 12) (by kernel_rfl) rfl (by rfl) (fun K hK => ?_)
      go_simp
      clear z3 f3
      refine hK.out _ _ (((R1.out.below BE11.out).far (p := ⟨g3, 3, none⟩) (by have := HNE.out; show g3 ≠ w.heap.size; omega) _).cell 3 _ rfl) (fun hHeld5 => ?_)
      clear hK K hHeld4
      refine wpAnyH_done (by kernel_rfl) ?_ _
      clear hHeld5
      go_wp2_with fail
      go_meet
      have hap : Apart (fun k => k = g3) W11 (W11.setCell ⟨g3, 3, none⟩ (.slice (some ⟨gz, 0, none⟩) hs.length cz)) := Apart.set (S := fun k => k = g3) _ rfl _
      refine ⟨_, ⟨gz, cz, rfl, ownsRow_apart VZ.out hap (fun k hk h => by have h0 : gz = k := Option.some.inj hk; have h5 : k = g3 := h; have h1 := (SpareH.parts VZ.out).2.2.2.1; have h2 := R3.out.lt; omega)⟩, ((R3.out.below BE11.out).set 3 _ (by simp)), ((R1.out.below BE11.out).far (p := ⟨g3, 3, none⟩) (by have := HNE.out; show g3 ≠ w.heap.size; omega) _), (HB.out.trans (BE11.out.mono HB.out.size)).setCell (p := ⟨g3, 3, none⟩) (by have := HNE.out; show w.heap.size ≤ g3; omega) _, by rw [World.size_setCell]; exact SZ11⟩
  case rest =>
    obtain ⟨hv3, ⟨ghz, chz, rfl, hspr⟩, hr3, hr1, hbw, hsz⟩ := hcut
    have HGZ : Hid (g3 < ghz) := Lib.hid (by have h1 := (SpareH.parts hspr).2.2.2.1; have h2 := R3.out.lt; omega)
    clear R1 R3 HB hsz
    generalize w3.heap.size = B4 at hspr
    have HB := Lib.hid hbw
    have R1 := Lib.hid hr1
    have R3 := Lib.hid hr3
    have SH := Lib.hid hspr
    clear hbw hr1 hr3 hspr
    obtain ⟨w5, hw5⟩ : ∃ x, wc = x := ⟨_, rfl⟩
    rw [hw5] at HB R1 R3 SH ⊢
    clear hw5
    have a0 := R1.out.cell 0 _ rfl
    have a1 := R1.out.cell 1 _ rfl
    have a2 := R1.out.cell 2 _ rfl
    have a3 := R1.out.cell 3 _ rfl
    have a4 := R1.out.cell 4 _ rfl
    have a5 := R1.out.cell 5 _ rfl
    go_upto_region 5 with fail
    clear a0 a1 a2 a3 a4 a5
    go_cut [] from 24 to 34 (fun wc => ∃ hv, SpareV wc w5.heap.size hv bd ∧ RowAt wc g3 [.string ⟨m.toArray⟩, .string ⟨u.toArray⟩, .string ⟨qy.toArray⟩, (.slice (some ⟨ghz, 0, none⟩) hs.length chz), hv, .bool cl] ∧ RowAt wc w.heap.size [.string ⟨m.toArray⟩, .string ⟨u.toArray⟩, .string ⟨qy.toArray⟩, (.slice p1 hs.length c1), (.slice b1 bd.length e1), .bool cl] ∧ Below w.heap.size w wc ∧ w5.heap.size ≤ wc.heap.size ∧ HdrV wc B4 (.slice (some ⟨ghz, 0, none⟩) (hs.length + 1) chz) (hs ++ [⟨spareN, []⟩]))
    case first =>
      have hszd : w5.heap.size ≤ w5.drew.heap.size := Nat.le_refl _
      have BEd : Hid (Below w5.heap.size w5 w5.drew) := Lib.hid (Below.refl _ _).drew
      have hS0 : (fun W => W.cell? ⟨w.heap.size, 4, none⟩ = some (Value.slice b1 bd.length e1)) w5.drew := R1.out.cell 4 _ rfl
      refine wp_region_held_drew (S := (fun W => W.cell? ⟨w.heap.size, 4, none⟩ = some (Value.slice b1 bd.length e1))) (by kernel_rfl) hS0 (fun hHeld0 => ?_)
      generalize w5.drew = wd at *
      refine held_take (i := 1) (v := ?_) rfl (by kernel_rfl) (by kernel_rfl) (by kernel_rfl) (fun _ _ _ h => h) (by rfl) (fun wq hSq => ?_) hHeld0 ?_
      rotate_left
      · (try dsimp only at hSq); go_simp; try with_reducible rfl
      simp only [Act.put, List.setIfInBounds_toArray, List.set_cons_zero, List.set_cons_succ]
      refine held_take (i := 2) (v := ?_) rfl (by kernel_rfl) (by kernel_rfl) (by kernel_rfl) (fun _ _ _ h => h) (by rfl) (fun wq hSq => ?_) hHeld0 ?_
      rotate_left
      · (try dsimp only at hSq); go_simp; try with_reducible rfl
      simp only [Act.put, List.setIfInBounds_toArray, List.set_cons_zero, List.set_cons_succ]
      refine held_take (i := 6) (v := ?_) rfl (by kernel_rfl) (by kernel_rfl) (by kernel_rfl) (fun _ _ _ h => h) (by rfl) (fun wq hSq => ?_) hHeld0 ?_
      rotate_left
      · (try dsimp only at hSq); go_simp; try with_reducible rfl
      simp only [Act.put, List.setIfInBounds_toArray, List.set_cons_zero, List.set_cons_succ]
      refine held_take (i := 7) (v := ?_) rfl (by kernel_rfl) (by kernel_rfl) (by kernel_rfl) (fun _ _ _ h => h) (by rfl) (fun wq hSq => ?_) hHeld0 ?_
      rotate_left
      · (try dsimp only at hSq); go_simp; try with_reducible rfl
      simp only [Act.put, List.setIfInBounds_toArray, List.set_cons_zero, List.set_cons_succ]
      refine held_take (i := 8) (v := ?_) rfl (by kernel_rfl) (by kernel_rfl) (by kernel_rfl) (fun _ _ _ h => h) (by rfl) (fun wq hSq => ?_) hHeld0 ?_
      rotate_left
      · (try dsimp only at hSq); go_simp; try with_reducible rfl
      simp only [Act.put, List.setIfInBounds_toArray, List.set_cons_zero, List.set_cons_succ]
      refine held_two (i := 0) (j := 4) (by kernel_rfl) rfl rfl (by rfl) (by rfl) (fun K hK => ?_) (fun K hK => ?_)
      ·
        go_simp
        have ha12 : Below wd.heap.size wd (wd.alloc (Obj.cells #[] 5)) := (Below.refl _ _).alloc (Nat.le_refl _) _
        have BE12 := Lib.hid (BEd.out.trans (ha12.mono hszd))
        have V12 : Hid (WaitV (wd.alloc (Obj.cells #[] 5)) w5.heap.size (.slice (some ⟨wd.heap.size, 0, none⟩) 0 0) []) := Lib.hid (WaitV.le (waitV_empty wd (0, 0)) hszd)
        obtain ⟨ge12, he12⟩ : ∃ x, wd.heap.size = x := ⟨_, rfl⟩
        have SZ12 : w5.heap.size ≤ (wd.alloc (Obj.cells #[] 5)).heap.size := by rw [World.size_alloc]; have := hszd; omega
        have hG12 : wd.heap.size + 1 = (wd.alloc (Obj.cells #[] 5)).heap.size := by rw [World.size_alloc]
        clear ha12
        generalize (wd.alloc (Obj.cells #[] 5)) = W12 at *
        rw [he12] at hG12 V12 ⊢
        refine hK.out _ _ ((R1.out.below BE12.out).cell 4 _ rfl) (fun hHeld1 => ?_)
        clear hK K hHeld0
        refine held_two (i := 3) (j := 4) (by kernel_rfl) rfl rfl (by rfl) (by rfl) (fun K hK => ?_) (fun K hK => ?_)
        ·
          refine oper_append_waitG _ _ rfl w5.heap.size _ _ _ _ rfl V12.out rfl (HS0.out.below (HB.out.trans (BE12.out.mono HB.out.size))) (by simp only [List.length_nil]; omega) SZ12 (fun v13 W13 hv13 hg13 ho13 => ?_)
          have BE13 := Lib.hid (BE12.out.grown hg13 BE12.out.size (fun k hk => (V12.out.lt hk).1))
          have V13 := Lib.hid hv13
          have SZ13 : w5.heap.size ≤ W13.heap.size := BE13.out.size
          rw [List.nil_append] at V13
          clear hv13 hg13 ho13
          simp only [Act.put, List.setIfInBounds_toArray, List.set_cons_zero, List.set_cons_succ]
          refine hK.out _ _ ((R1.out.below BE13.out).cell 4 _ rfl) (fun hHeld2 => ?_)
          clear hK K hHeld1
          refine held_step (i := 4) (by kernel_rfl) rfl (by rfl) (fun K hK => ?_)
          go_simp
          have ha14 : Below W13.heap.size W13 (W13.alloc (Obj.cells #[Value.int IntKind.u8 165] 5)) := (Below.refl _ _).alloc (Nat.le_refl _) _
          have BE14 := Lib.hid (BE13.out.trans (ha14.mono SZ13))
          have V14 := Lib.hid (V13.out.below ha14)
          have LT14 : Hid (BytS (W13.alloc (Obj.cells #[Value.int IntKind.u8 165] 5)) (.slice (some ⟨W13.heap.size, 0, none⟩) 1 1) [165]) := Lib.hid (byts_one W13)
          obtain ⟨gl14, hg14⟩ : ∃ x, W13.heap.size = x := ⟨_, rfl⟩
          have SZ14 : w5.heap.size ≤ (W13.alloc (Obj.cells #[Value.int IntKind.u8 165] 5)).heap.size := by rw [World.size_alloc]; have := SZ13; omega
          have hG14 : W13.heap.size + 1 = (W13.alloc (Obj.cells #[Value.int IntKind.u8 165] 5)).heap.size := by rw [World.size_alloc]
          clear ha14
          generalize (W13.alloc (Obj.cells #[Value.int IntKind.u8 165] 5)) = W14 at *
          rw [hg14] at hG14 LT14 ⊢
          refine hK.out _ _ ((R1.out.below BE14.out).cell 4 _ rfl) (fun hHeld3 => ?_)
          clear hK K hHeld2
          refine held_step (i := 5) (by kernel_rfl) rfl (by rfl) (fun K hK => ?_)
          refine oper_append_waitG _ _ rfl w5.heap.size _ _ _ _ rfl V14.out rfl LT14.out.g (by simp only [List.length_singleton]; omega) SZ14 (fun v15 W15 hv15 hg15 ho15 => ?_)
          have BE15 := Lib.hid (BE14.out.grown hg15 BE14.out.size (fun k hk => (V14.out.lt hk).1))
          obtain ⟨pz, cz, rfl, hcz, hpz⟩ := hv15.form
          obtain ⟨gz, oz, rfl⟩ : ∃ gz oz, pz = some ⟨gz, oz, none⟩ := by
            rcases hv15 with ⟨h9, h8⟩ | ⟨gz, oz, cz, h9, _⟩
            · simp at h8
            · cases h9; exact ⟨gz, oz, rfl⟩
          simp only [List.length_append, List.length_singleton] at hcz ⊢
          have VZ := Lib.hid hv15
          have hcz2 : bd.length ≤ cz := by omega
          clear hv15 hg15 ho15 hpz
          simp only [Act.put, List.setIfInBounds_toArray, List.set_cons_zero, List.set_cons_succ]
          have SZ15 : w5.heap.size ≤ W15.heap.size := BE15.out.size
          refine hK.out _ _ ((R1.out.below BE15.out).cell 4 _ rfl) (fun hHeld4 => ?_)
          clear hK K hHeld3
          refine held_take (i := 9) (v := ?_) rfl (by kernel_rfl) (by kernel_rfl) (by kernel_rfl) (fun _ _ _ h => h) (by rfl) (fun wq hSq => ?_) hHeld4 ?_
          rotate_left
          · (try dsimp only at hSq); go_simp; try with_reducible rfl
          simp only [Act.put, List.setIfInBounds_toArray, List.set_cons_zero, List.set_cons_succ]
          refine held_take (i := 10) (v := ?_) rfl (by kernel_rfl) (by kernel_rfl) (by kernel_rfl) (fun _ _ _ h => h) (by rfl) (fun wq hSq => ?_) hHeld4 ?_
          rotate_left
          · (try dsimp only at hSq); go_simp; try with_reducible rfl
          simp only [Act.put, List.setIfInBounds_toArray, List.set_cons_zero, List.set_cons_succ]
          have z3 := (R3.out.below BE15.out).cell 4 _ rfl
          have f3 := (R3.out.below BE15.out).free 4
          refine held_step (i := 11) (by kernel_rfl) rfl (by rfl) (fun K hK => ?_)
          go_simp
          clear z3 f3
          refine hK.out _ _ (((R1.out.below BE15.out).far (p := ⟨g3, 4, none⟩) (by have := HNE.out; show g3 ≠ w.heap.size; omega) _).cell 4 _ rfl) (fun hHeld5 => ?_)
          clear hK K hHeld4
          refine wpAnyH_done (by kernel_rfl) ?_ _
          clear hHeld5
          go_wp2_with fail
          go_meet
          have hap : Apart (fun k => k = g3) W15 (W15.setCell ⟨g3, 4, none⟩ (.slice (some ⟨gz, oz, none⟩) bd.length cz)) := Apart.set (S := fun k => k = g3) _ rfl _
          refine ⟨_, ⟨gz, oz, cz, rfl, WaitV.apart (by have h9 := VZ.out; rw [List.length_append] at h9; exact h9) hap (fun k hk h => by have h5 : k = g3 := h; have h1 := (VZ.out.lt hk).1; have h2 := R3.out.lt; omega)⟩, ((R3.out.below BE15.out).set 4 _ (by simp)), ((R1.out.below BE15.out).far (p := ⟨g3, 4, none⟩) (by have := HNE.out; show g3 ≠ w.heap.size; omega) _), (HB.out.trans (BE15.out.mono HB.out.size)).setCell (p := ⟨g3, 4, none⟩) (by have := HNE.out; show w.heap.size ≤ g3; omega) _, by rw [World.size_setCell]; exact SZ15, ownsRow_apart (ownsRow_apart (S := fun _ => False) SH.out (.ofBelow BE15.out) (fun _ _ h => h)) hap (fun k hk h => by have h0 : ghz = k := Option.some.inj hk; have h5 : k = g3 := h; have h1 := HGZ.out; omega)⟩
        ·
          go_simp
          have ha16 : Below W12.heap.size W12 (W12.alloc (Obj.cells #[Value.int IntKind.u8 165] 5)) := (Below.refl _ _).alloc (Nat.le_refl _) _
          have BE16 := Lib.hid (BE12.out.trans (ha16.mono SZ12))
          have V16 := Lib.hid (V12.out.below ha16)
          have LT16 : Hid (BytS (W12.alloc (Obj.cells #[Value.int IntKind.u8 165] 5)) (.slice (some ⟨W12.heap.size, 0, none⟩) 1 1) [165]) := Lib.hid (byts_one W12)
          obtain ⟨gl16, hg16⟩ : ∃ x, W12.heap.size = x := ⟨_, rfl⟩
          have SZ16 : w5.heap.size ≤ (W12.alloc (Obj.cells #[Value.int IntKind.u8 165] 5)).heap.size := by rw [World.size_alloc]; have := SZ12; omega
          have hG16 : W12.heap.size + 1 = (W12.alloc (Obj.cells #[Value.int IntKind.u8 165] 5)).heap.size := by rw [World.size_alloc]
          clear ha16
          generalize (W12.alloc (Obj.cells #[Value.int IntKind.u8 165] 5)) = W16 at *
          rw [hg16] at hG16 LT16 ⊢
          refine hK.out _ _ ((R1.out.below BE16.out).cell 4 _ rfl) (fun hHeld2 => ?_)
          clear hK K hHeld1
          refine held_step (i := 3) (by kernel_rfl) rfl (by rfl) (fun K hK => ?_)
          refine oper_append_waitG _ _ rfl w5.heap.size _ _ _ _ rfl V16.out rfl (HS0.out.below (HB.out.trans (BE16.out.mono HB.out.size))) (by simp only [List.length_nil]; omega) SZ16 (fun v17 W17 hv17 hg17 ho17 => ?_)
          have BE17 := Lib.hid (BE16.out.grown hg17 BE16.out.size (fun k hk => (V16.out.lt hk).1))
          have LT17 := Lib.hid (LT16.out.apart (Apart.ofGrown (S := fun k => some k = some ge12) hg17 (fun k hk => hk.symm)) (fun k hk h => by have h1 : gl16 = k := Option.some.inj hk; have h2 : k = ge12 := Option.some.inj h; omega))
          have V17 := Lib.hid hv17
          have SZ17 : w5.heap.size ≤ W17.heap.size := BE17.out.size
          rw [List.nil_append] at V17
          clear hv17 hg17 ho17
          simp only [Act.put, List.setIfInBounds_toArray, List.set_cons_zero, List.set_cons_succ]
          refine hK.out _ _ ((R1.out.below BE17.out).cell 4 _ rfl) (fun hHeld3 => ?_)
          clear hK K hHeld2
          refine held_step (i := 5) (by kernel_rfl) rfl (by rfl) (fun K hK => ?_)
          refine oper_append_waitG _ _ rfl w5.heap.size _ _ _ _ rfl V17.out rfl LT17.out.g (by simp only [List.length_singleton]; omega) SZ17 (fun v18 W18 hv18 hg18 ho18 => ?_)
          have BE18 := Lib.hid (BE17.out.grown hg18 BE17.out.size (fun k hk => (V17.out.lt hk).1))
          obtain ⟨pz, cz, rfl, hcz, hpz⟩ := hv18.form
          obtain ⟨gz, oz, rfl⟩ : ∃ gz oz, pz = some ⟨gz, oz, none⟩ := by
            rcases hv18 with ⟨h9, h8⟩ | ⟨gz, oz, cz, h9, _⟩
            · simp at h8
            · cases h9; exact ⟨gz, oz, rfl⟩
          simp only [List.length_append, List.length_singleton] at hcz ⊢
          have VZ := Lib.hid hv18
          have hcz2 : bd.length ≤ cz := by omega
          clear hv18 hg18 ho18 hpz
          simp only [Act.put, List.setIfInBounds_toArray, List.set_cons_zero, List.set_cons_succ]
          have SZ18 : w5.heap.size ≤ W18.heap.size := BE18.out.size
          refine hK.out _ _ ((R1.out.below BE18.out).cell 4 _ rfl) (fun hHeld4 => ?_)
          clear hK K hHeld3
          refine held_take (i := 9) (v := ?_) rfl (by kernel_rfl) (by kernel_rfl) (by kernel_rfl) (fun _ _ _ h => h) (by rfl) (fun wq hSq => ?_) hHeld4 ?_
          rotate_left
          · (try dsimp only at hSq); go_simp; try with_reducible rfl
          simp only [Act.put, List.setIfInBounds_toArray, List.set_cons_zero, List.set_cons_succ]
          refine held_take (i := 10) (v := ?_) rfl (by kernel_rfl) (by kernel_rfl) (by kernel_rfl) (fun _ _ _ h => h) (by rfl) (fun wq hSq => ?_) hHeld4 ?_
          rotate_left
          · (try dsimp only at hSq); go_simp; try with_reducible rfl
          simp only [Act.put, List.setIfInBounds_toArray, List.set_cons_zero, List.set_cons_succ]
          have z3 := (R3.out.below BE18.out).cell 4 _ rfl
          have f3 := (R3.out.below BE18.out).free 4
          refine held_step (i := 11) (by kernel_rfl) rfl (by rfl) (fun K hK => ?_)
          go_simp
          clear z3 f3
          refine hK.out _ _ (((R1.out.below BE18.out).far (p := ⟨g3, 4, none⟩) (by have := HNE.out; show g3 ≠ w.heap.size; omega) _).cell 4 _ rfl) (fun hHeld5 => ?_)
          clear hK K hHeld4
          refine wpAnyH_done (by kernel_rfl) ?_ _
          clear hHeld5
          go_wp2_with fail
          go_meet
          have hap : Apart (fun k => k = g3) W18 (W18.setCell ⟨g3, 4, none⟩ (.slice (some ⟨gz, oz, none⟩) bd.length cz)) := Apart.set (S := fun k => k = g3) _ rfl _
          refine ⟨_, ⟨gz, oz, cz, rfl, WaitV.apart (by have h9 := VZ.out; rw [List.length_append] at h9; exact h9) hap (fun k hk h => by have h5 : k = g3 := h; have h1 := (VZ.out.lt hk).1; have h2 := R3.out.lt; omega)⟩, ((R3.out.below BE18.out).set 4 _ (by simp)), ((R1.out.below BE18.out).far (p := ⟨g3, 4, none⟩) (by have := HNE.out; show g3 ≠ w.heap.size; omega) _), (HB.out.trans (BE18.out.mono HB.out.size)).setCell (p := ⟨g3, 4, none⟩) (by have := HNE.out; show w.heap.size ≤ g3; omega) _, by rw [World.size_setCell]; exact SZ18, ownsRow_apart (ownsRow_apart (S := fun _ => False) SH.out (.ofBelow BE18.out) (fun _ _ h => h)) hap (fun k hk h => by have h0 : ghz = k := Option.some.inj hk; have h5 : k = g3 := h; have h1 := HGZ.out; omega)⟩
      ·
        go_simp
        have ha19 : Below wd.heap.size wd (wd.alloc (Obj.cells #[Value.int IntKind.u8 165] 5)) := (Below.refl _ _).alloc (Nat.le_refl _) _
        have BE19 := Lib.hid (BEd.out.trans (ha19.mono hszd))
        have LT19 : Hid (BytS (wd.alloc (Obj.cells #[Value.int IntKind.u8 165] 5)) (.slice (some ⟨wd.heap.size, 0, none⟩) 1 1) [165]) := Lib.hid (byts_one wd)
        obtain ⟨gl19, hg19⟩ : ∃ x, wd.heap.size = x := ⟨_, rfl⟩
        have SZ19 : w5.heap.size ≤ (wd.alloc (Obj.cells #[Value.int IntKind.u8 165] 5)).heap.size := by rw [World.size_alloc]; have := hszd; omega
        have hG19 : wd.heap.size + 1 = (wd.alloc (Obj.cells #[Value.int IntKind.u8 165] 5)).heap.size := by rw [World.size_alloc]
        clear ha19
        generalize (wd.alloc (Obj.cells #[Value.int IntKind.u8 165] 5)) = W19 at *
        rw [hg19] at hG19 LT19 ⊢
        refine hK.out _ _ ((R1.out.below BE19.out).cell 4 _ rfl) (fun hHeld1 => ?_)
        clear hK K hHeld0
        refine held_step (i := 0) (by kernel_rfl) rfl (by rfl) (fun K hK => ?_)
        go_simp
        have ha20 : Below W19.heap.size W19 (W19.alloc (Obj.cells #[] 5)) := (Below.refl _ _).alloc (Nat.le_refl _) _
        have BE20 := Lib.hid (BE19.out.trans (ha20.mono SZ19))
        have LT20 := Lib.hid (LT19.out.below ha20)
        have V20 : Hid (WaitV (W19.alloc (Obj.cells #[] 5)) w5.heap.size (.slice (some ⟨W19.heap.size, 0, none⟩) 0 0) []) := Lib.hid (WaitV.le (waitV_empty W19 (0, 0)) SZ19)
        obtain ⟨ge20, he20⟩ : ∃ x, W19.heap.size = x := ⟨_, rfl⟩
        have SZ20 : w5.heap.size ≤ (W19.alloc (Obj.cells #[] 5)).heap.size := by rw [World.size_alloc]; have := SZ19; omega
        have hG20 : W19.heap.size + 1 = (W19.alloc (Obj.cells #[] 5)).heap.size := by rw [World.size_alloc]
        clear ha20
        generalize (W19.alloc (Obj.cells #[] 5)) = W20 at *
        rw [he20] at hG20 V20 ⊢
        refine hK.out _ _ ((R1.out.below BE20.out).cell 4 _ rfl) (fun hHeld2 => ?_)
        clear hK K hHeld1
        refine held_step (i := 3) (by kernel_rfl) rfl (by rfl) (fun K hK => ?_)
        refine oper_append_waitG _ _ rfl w5.heap.size _ _ _ _ rfl V20.out rfl (HS0.out.below (HB.out.trans (BE20.out.mono HB.out.size))) (by simp only [List.length_nil]; omega) SZ20 (fun v21 W21 hv21 hg21 ho21 => ?_)
        have BE21 := Lib.hid (BE20.out.grown hg21 BE20.out.size (fun k hk => (V20.out.lt hk).1))
        have LT21 := Lib.hid (LT20.out.apart (Apart.ofGrown (S := fun k => some k = some ge20) hg21 (fun k hk => hk.symm)) (fun k hk h => by have h1 : gl19 = k := Option.some.inj hk; have h2 : k = ge20 := Option.some.inj h; omega))
        have V21 := Lib.hid hv21
        have SZ21 : w5.heap.size ≤ W21.heap.size := BE21.out.size
        rw [List.nil_append] at V21
        clear hv21 hg21 ho21
        simp only [Act.put, List.setIfInBounds_toArray, List.set_cons_zero, List.set_cons_succ]
        refine hK.out _ _ ((R1.out.below BE21.out).cell 4 _ rfl) (fun hHeld3 => ?_)
        clear hK K hHeld2
        refine held_step (i := 5) (by kernel_rfl) rfl (by rfl) (fun K hK => ?_)
        refine oper_append_waitG _ _ rfl w5.heap.size _ _ _ _ rfl V21.out rfl LT21.out.g (by simp only [List.length_singleton]; omega) SZ21 (fun v22 W22 hv22 hg22 ho22 => ?_)
        have BE22 := Lib.hid (BE21.out.grown hg22 BE21.out.size (fun k hk => (V21.out.lt hk).1))
        obtain ⟨pz, cz, rfl, hcz, hpz⟩ := hv22.form
        obtain ⟨gz, oz, rfl⟩ : ∃ gz oz, pz = some ⟨gz, oz, none⟩ := by
          rcases hv22 with ⟨h9, h8⟩ | ⟨gz, oz, cz, h9, _⟩
          · simp at h8
          · cases h9; exact ⟨gz, oz, rfl⟩
        simp only [List.length_append, List.length_singleton] at hcz ⊢
        have VZ := Lib.hid hv22
        have hcz2 : bd.length ≤ cz := by omega
        clear hv22 hg22 ho22 hpz
        simp only [Act.put, List.setIfInBounds_toArray, List.set_cons_zero, List.set_cons_succ]
        have SZ22 : w5.heap.size ≤ W22.heap.size := BE22.out.size
        refine hK.out _ _ ((R1.out.below BE22.out).cell 4 _ rfl) (fun hHeld4 => ?_)
        clear hK K hHeld3
        refine held_take (i := 9) (v := ?_) rfl (by kernel_rfl) (by kernel_rfl) (by kernel_rfl) (fun _ _ _ h => h) (by rfl) (fun wq hSq => ?_) hHeld4 ?_
        rotate_left
        · (try dsimp only at hSq); go_simp; try with_reducible rfl
        simp only [Act.put, List.setIfInBounds_toArray, List.set_cons_zero, List.set_cons_succ]
        refine held_take (i := 10) (v := ?_) rfl (by kernel_rfl) (by kernel_rfl) (by kernel_rfl) (fun _ _ _ h => h) (by rfl) (fun wq hSq => ?_) hHeld4 ?_
        rotate_left
        · (try dsimp only at hSq); go_simp; try with_reducible rfl
        simp only [Act.put, List.setIfInBounds_toArray, List.set_cons_zero, List.set_cons_succ]
        have z3 := (R3.out.below BE22.out).cell 4 _ rfl
        have f3 := (R3.out.below BE22.out).free 4
        refine held_step (i := 11) (by kernel_rfl) rfl (by rfl) (fun K hK => ?_)
        go_simp
        clear z3 f3
        refine hK.out _ _ (((R1.out.below BE22.out).far (p := ⟨g3, 4, none⟩) (by have := HNE.out; show g3 ≠ w.heap.size; omega) _).cell 4 _ rfl) (fun hHeld5 => ?_)
        clear hK K hHeld4
        refine wpAnyH_done (by kernel_rfl) ?_ _
        clear hHeld5
        go_wp2_with fail
        go_meet
        have hap : Apart (fun k => k = g3) W22 (W22.setCell ⟨g3, 4, none⟩ (.slice (some ⟨gz, oz, none⟩) bd.length cz)) := Apart.set (S := fun k => k = g3) _ rfl _
        refine ⟨_, ⟨gz, oz, cz, rfl, WaitV.apart (by have h9 := VZ.out; rw [List.length_append] at h9; exact h9) hap (fun k hk h => by have h5 : k = g3 := h; have h1 := (VZ.out.lt hk).1; have h2 := R3.out.lt; omega)⟩, ((R3.out.below BE22.out).set 4 _ (by simp)), ((R1.out.below BE22.out).far (p := ⟨g3, 4, none⟩) (by have := HNE.out; show g3 ≠ w.heap.size; omega) _), (HB.out.trans (BE22.out.mono HB.out.size)).setCell (p := ⟨g3, 4, none⟩) (by have := HNE.out; show w.heap.size ≤ g3; omega) _, by rw [World.size_setCell]; exact SZ22, ownsRow_apart (ownsRow_apart (S := fun _ => False) SH.out (.ofBelow BE22.out) (fun _ _ h => h)) hap (fun k hk h => by have h0 : ghz = k := Option.some.inj hk; have h5 : k = g3 := h; have h1 := HGZ.out; omega)⟩
    case rest =>
      obtain ⟨bv3, ⟨gz, oz, cz, rfl, hwv⟩, hr3, hr1, hbw, hsz, hsh⟩ := hcut
      obtain ⟨hmS, hsp, hcz, _, hgl⟩ := SpareV.byts hwv
      obtain ⟨hhS, hsp2, hcz2, _, hgl2⟩ := SpareH.parts hsh
      have HF := Lib.hid (show PutS wc w.heap.size g3 ghz gz oz m u qy cl (.slice p1 hs.length c1) (.slice b1 bd.length e1) (.slice (some ⟨ghz, 0, none⟩) hs.length chz) (.slice (some ⟨gz, oz, none⟩) bd.length cz) hs bd from ⟨hr1, hr3, HH0.out.below hbw, HS0.out.below hbw, hhS, hmS.g, hsp2, hgl2, hsp, hgl⟩)
      clear R1 R3 HB SH
      have HB := Lib.hid hbw
      clear hr1 hr3 hbw hsz hsh hwv hmS hsp hgl hhS hsp2 hgl2
      have a0 := HF.out.r3.cell 0 _ rfl
      have a1 := HF.out.r3.cell 1 _ rfl
      have a2 := HF.out.r3.cell 2 _ rfl
      have a3 := HF.out.r3.cell 3 _ rfl
      have a4 := HF.out.r3.cell 4 _ rfl
      have a5 := HF.out.r3.cell 5 _ rfl
      go_wp2_with fail
      clear a0 a1 a2 a3 a4 a5
      refine (bytesP_calls wc (He.out.below HB.out) _ (⟨m, u, qy, hs, bd, cl⟩ : Req) ⟨_, _, rfl, HF.out.h3, HF.out.s3⟩ (Nat.le_trans HN.out (by decide))).mono ?_
      rintro e w6 ⟨hbo, hb6⟩
      have HF6 := Lib.hid (HF.out.below hb6)
      have HB6 := Lib.hid (HB.out.trans (hb6.mono HB.out.size))
      clear hb6 HF HB
      obtain ⟨n1, hn1⟩ : ∃ n1, hs.length + 1 = n1 := ⟨_, rfl⟩
      have hwr : IntKind.i64.wrap ((hs.length : Int) + 1) = (n1 : Int) := by rw [← hn1]; exact IntWalk.i64_in _ (by omega)
      have hn2 : n1 ≤ chz := by omega
      have hn3 : hs.length < n1 := by omega
      obtain ⟨k1, hk1⟩ : ∃ n1, bd.length + 1 = n1 := ⟨_, rfl⟩
      have hwk : IntKind.i64.wrap ((bd.length : Int) + 1) = (k1 : Int) := by rw [← hk1]; exact IntWalk.i64_in _ (by omega)
      have hk2 : k1 ≤ cz := by omega
      have hk3 : bd.length < k1 := by omega
      clear hn1 hk1 hcz hcz2
      rcases hbo with ⟨hbk, v6, rfl, hv6⟩ | ⟨hbk, rfl⟩
      ·
        have HV6 := Lib.hid hv6
        clear hv6
        have a0 := HF6.out.r1.cell 0 _ rfl
        have a1 := HF6.out.r1.cell 1 _ rfl
        have a2 := HF6.out.r1.cell 2 _ rfl
        have a3 := HF6.out.r1.cell 3 _ rfl
        have a4 := HF6.out.r1.cell 4 _ rfl
        have a5 := HF6.out.r1.cell 5 _ rfl
        go_wp2_with fail
        clear a0 a1 a2 a3 a4 a5
        refine (bytesR_calls w6 _ (⟨m, u, qy, hs, bd, cl⟩ : Req) ⟨_, _, rfl, HF6.out.h1, HF6.out.s1⟩ (Nat.le_trans HN.out (by decide))).mono ?_
        rintro e w7 ⟨hbo2, hb7⟩
        have HF7 := Lib.hid (HF6.out.below hb7)
        have HB7 := Lib.hid (HB6.out.trans (hb7.mono HB6.out.size))
        have HV67 := Lib.hid (HV6.out.below hb7)
        clear hb7 HF6 HB6 HV6
        obtain ⟨_, v7, rfl, hv7⟩ := hbo2.resolve_right (fun h => h.1 hbk)
        have HV7 := Lib.hid hv7
        clear hv7 hbo2
        obtain ⟨T, hT⟩ : ∃ T, toldS (⟨m, u, qy, hs, bd, cl⟩ : Req) = T := ⟨_, rfl⟩
        rw [hT] at HV67 HV7
        clear hT
        clear hbk
        go_upto_region 8 with fail
        have HFd := Lib.hid (HF7.out.below (Below.refl _ _).drew)
        have HBd := Lib.hid HB7.out.drew
        have HAd := Lib.hid (HV67.out.below (Below.refl _ _).drew)
        have HCd := Lib.hid (HV7.out.below (Below.refl _ _).drew)
        have hS0 : (fun W => W.cell? ⟨g3, 0, none⟩ = some (.string ⟨m.toArray⟩) ∧ W.cell? ⟨g3, 1, none⟩ = some (.string ⟨u.toArray⟩) ∧ W.cell? ⟨g3, 2, none⟩ = some (.string ⟨qy.toArray⟩) ∧ W.cell? ⟨g3, 3, none⟩ = some ((.slice (some ⟨ghz, 0, none⟩) hs.length chz)) ∧ W.cell? ⟨g3, 4, none⟩ = some ((.slice (some ⟨gz, oz, none⟩) bd.length cz)) ∧ W.cell? ⟨g3, 5, none⟩ = some (.bool cl) ∧ W.cell? ⟨w.heap.size, 0, none⟩ = some (.string ⟨m.toArray⟩) ∧ W.cell? ⟨w.heap.size, 1, none⟩ = some (.string ⟨u.toArray⟩) ∧ W.cell? ⟨w.heap.size, 2, none⟩ = some (.string ⟨qy.toArray⟩) ∧ W.cell? ⟨w.heap.size, 3, none⟩ = some ((.slice p1 hs.length c1)) ∧ W.cell? ⟨w.heap.size, 4, none⟩ = some ((.slice b1 bd.length e1)) ∧ W.cell? ⟨w.heap.size, 5, none⟩ = some (.bool cl) ∧ W.cell? ⟨ghz, hs.length * 2, none⟩ = some (.string ⟨#[115, 112, 97, 114, 101]⟩) ∧ W.cell? ⟨gz, oz + bd.length, none⟩ = some (.int .u8 165) ∧ (convert 23 9 v6).run Tryz.prog W = .ok (.string ⟨(T).toArray⟩) W ∧ (convert 23 9 v7).run Tryz.prog W = .ok (.string ⟨(T).toArray⟩) W) w7.drew := ⟨HFd.out.r3.cell 0 _ rfl, HFd.out.r3.cell 1 _ rfl, HFd.out.r3.cell 2 _ rfl, HFd.out.r3.cell 3 _ rfl, HFd.out.r3.cell 4 _ rfl, HFd.out.r3.cell 5 _ rfl, HFd.out.r1.cell 0 _ rfl, HFd.out.r1.cell 1 _ rfl, HFd.out.r1.cell 2 _ rfl, HFd.out.r1.cell 3 _ rfl, HFd.out.r1.cell 4 _ rfl, HFd.out.r1.cell 5 _ rfl, HFd.out.sh, HFd.out.sb, HAd.out.string, HCd.out.string⟩
        clear HF7 HB7 HV67 HV7
        refine wp_region_held_drew (S := (fun W => W.cell? ⟨g3, 0, none⟩ = some (.string ⟨m.toArray⟩) ∧ W.cell? ⟨g3, 1, none⟩ = some (.string ⟨u.toArray⟩) ∧ W.cell? ⟨g3, 2, none⟩ = some (.string ⟨qy.toArray⟩) ∧ W.cell? ⟨g3, 3, none⟩ = some ((.slice (some ⟨ghz, 0, none⟩) hs.length chz)) ∧ W.cell? ⟨g3, 4, none⟩ = some ((.slice (some ⟨gz, oz, none⟩) bd.length cz)) ∧ W.cell? ⟨g3, 5, none⟩ = some (.bool cl) ∧ W.cell? ⟨w.heap.size, 0, none⟩ = some (.string ⟨m.toArray⟩) ∧ W.cell? ⟨w.heap.size, 1, none⟩ = some (.string ⟨u.toArray⟩) ∧ W.cell? ⟨w.heap.size, 2, none⟩ = some (.string ⟨qy.toArray⟩) ∧ W.cell? ⟨w.heap.size, 3, none⟩ = some ((.slice p1 hs.length c1)) ∧ W.cell? ⟨w.heap.size, 4, none⟩ = some ((.slice b1 bd.length e1)) ∧ W.cell? ⟨w.heap.size, 5, none⟩ = some (.bool cl) ∧ W.cell? ⟨ghz, hs.length * 2, none⟩ = some (.string ⟨#[115, 112, 97, 114, 101]⟩) ∧ W.cell? ⟨gz, oz + bd.length, none⟩ = some (.int .u8 165) ∧ (convert 23 9 v6).run Tryz.prog W = .ok (.string ⟨(T).toArray⟩) W ∧ (convert 23 9 v7).run Tryz.prog W = .ok (.string ⟨(T).toArray⟩) W)) (by kernel_rfl) hS0 (fun hHeld0 => ?_)
        generalize w7.drew = wd at *
        refine held_take (i := 0) (v := ?_) rfl (by kernel_rfl) (by kernel_rfl) (by kernel_rfl) (fun _ _ _ h => h) (by rfl) (fun wq hSq => ?_) hHeld0 ?_
        rotate_left
        · (try dsimp only at hSq); go_simp; try with_reducible rfl
        simp only [Act.put, List.setIfInBounds_toArray, List.set_cons_zero, List.set_cons_succ]
        refine held_take (i := 1) (v := ?_) rfl (by kernel_rfl) (by kernel_rfl) (by kernel_rfl) (fun _ _ _ h => h) (by rfl) (fun wq hSq => ?_) hHeld0 ?_
        rotate_left
        · (try dsimp only at hSq); go_simp; try with_reducible rfl
        simp only [Act.put, List.setIfInBounds_toArray, List.set_cons_zero, List.set_cons_succ]
        refine held_step (i := 2) (by kernel_rfl) rfl (by rfl) (fun K hK => ?_)
        go_simp
        refine (sameR_calls wd _ _ (⟨m, u, qy, hs, bd, cl⟩ : Req) (⟨m, u, qy, hs, bd, cl⟩ : Req) ⟨_, _, rfl, HFd.out.h3, HFd.out.s3⟩ ⟨_, _, rfl, HFd.out.h1, HFd.out.s1⟩).mono ?_
        rintro e9 w9 ⟨rfl, hb9⟩
        rw [eqB_true rfl]
        dsimp only
        have HF9 := Lib.hid (HFd.out.below hb9)
        have HB9 := Lib.hid (HBd.out.trans (hb9.mono HBd.out.size))
        have HA9 := Lib.hid (HAd.out.below hb9)
        have HC9 := Lib.hid (HCd.out.below hb9)
        clear hb9
        refine hK.out _ _ ⟨HF9.out.r3.cell 0 _ rfl, HF9.out.r3.cell 1 _ rfl, HF9.out.r3.cell 2 _ rfl, HF9.out.r3.cell 3 _ rfl, HF9.out.r3.cell 4 _ rfl, HF9.out.r3.cell 5 _ rfl, HF9.out.r1.cell 0 _ rfl, HF9.out.r1.cell 1 _ rfl, HF9.out.r1.cell 2 _ rfl, HF9.out.r1.cell 3 _ rfl, HF9.out.r1.cell 4 _ rfl, HF9.out.r1.cell 5 _ rfl, HF9.out.sh, HF9.out.sb, HA9.out.string, HC9.out.string⟩ (fun hHeld1 => ?_)
        clear hK K hHeld0
        refine held_take (i := 3) (v := ?_) rfl (by kernel_rfl) (by kernel_rfl) (by kernel_rfl) (fun _ _ _ h => h) (by rfl) (fun wq hSq => ?_) hHeld1 ?_
        rotate_left
        · (try dsimp only at hSq); go_simp; try with_reducible rfl
        simp only [Act.put, List.setIfInBounds_toArray, List.set_cons_zero, List.set_cons_succ]
        refine held_take (i := 4) (v := ?_) rfl (by kernel_rfl) (by kernel_rfl) (by kernel_rfl) (fun _ _ _ h => h) (by rfl) (fun wq hSq => ?_) hHeld1 ?_
        rotate_left
        · (try dsimp only at hSq); go_simp; try with_reducible rfl
        simp only [Act.put, List.setIfInBounds_toArray, List.set_cons_zero, List.set_cons_succ]
        refine held_take (i := 5) (v := ?_) rfl (by kernel_rfl) (by kernel_rfl) (by kernel_rfl) (fun _ _ _ h => h) (by rfl) (fun wq hSq => ?_) hHeld1 ?_
        rotate_left
        · (try dsimp only at hSq); go_simp; try with_reducible rfl
        simp only [Act.put, List.setIfInBounds_toArray, List.set_cons_zero, List.set_cons_succ]
        refine held_take (i := 6) (v := ?_) rfl (by kernel_rfl) (by kernel_rfl) (by kernel_rfl) (fun _ _ _ h => h) (by rfl) (fun wq hSq => ?_) hHeld1 ?_
        rotate_left
        · (try dsimp only at hSq); go_simp; try with_reducible rfl
        simp only [Act.put, List.setIfInBounds_toArray, List.set_cons_zero, List.set_cons_succ]
        refine held_take (i := 7) (v := ?_) rfl (by kernel_rfl) (by kernel_rfl) (by kernel_rfl) (fun _ _ _ h => h) (by rfl) (fun wq hSq => ?_) hHeld1 ?_
        rotate_left
        · (try dsimp only at hSq); go_simp; try with_reducible rfl
        simp only [Act.put, List.setIfInBounds_toArray, List.set_cons_zero, List.set_cons_succ]
        refine held_take (i := 8) (v := ?_) rfl (by kernel_rfl) (by kernel_rfl) (by kernel_rfl) (fun _ _ _ h => h) (by rfl) (fun wq hSq => ?_) hHeld1 ?_
        rotate_left
        · (try dsimp only at hSq); go_simp; try with_reducible rfl
        simp only [Act.put, List.setIfInBounds_toArray, List.set_cons_zero, List.set_cons_succ]
        refine held_take (i := 9) (v := ?_) rfl (by kernel_rfl) (by kernel_rfl) (by kernel_rfl) (fun _ _ _ h => h) (by rfl) (fun wq hSq => ?_) hHeld1 ?_
        rotate_left
        · (try dsimp only at hSq); go_simp; try with_reducible rfl
        simp only [Act.put, List.setIfInBounds_toArray, List.set_cons_zero, List.set_cons_succ]
        refine held_take (i := 10) (v := ?_) rfl (by kernel_rfl) (by kernel_rfl) (by kernel_rfl) (fun _ _ _ h => h) (by rfl) (fun wq hSq => ?_) hHeld1 ?_
        rotate_left
        · (try dsimp only at hSq); go_simp; try with_reducible rfl
        simp only [Act.put, List.setIfInBounds_toArray, List.set_cons_zero, List.set_cons_succ]
        refine held_take (i := 11) (v := ?_) rfl (by kernel_rfl) (by kernel_rfl) (by kernel_rfl) (fun _ _ _ h => h) (by rfl) (fun wq hSq => ?_) hHeld1 ?_
        rotate_left
        · (try dsimp only at hSq); go_simp; try with_reducible rfl
        simp only [Act.put, List.setIfInBounds_toArray, List.set_cons_zero, List.set_cons_succ]
        refine held_take (i := 12) (v := ?_) rfl (by kernel_rfl) (by kernel_rfl) (by kernel_rfl) (fun _ _ _ h => h) (by rfl) (fun wq hSq => ?_) hHeld1 ?_
        rotate_left
        · (try dsimp only at hSq); go_simp; try with_reducible rfl
        simp only [Act.put, List.setIfInBounds_toArray, List.set_cons_zero, List.set_cons_succ]
        refine held_take (i := 13) (v := ?_) rfl (by kernel_rfl) (by kernel_rfl) (by kernel_rfl) (fun _ _ _ h => h) (by rfl) (fun wq hSq => ?_) hHeld1 ?_
        rotate_left
        · (try dsimp only at hSq); go_simp; try with_reducible rfl
        simp only [Act.put, List.setIfInBounds_toArray, List.set_cons_zero, List.set_cons_succ]
        refine held_take (i := 14) (v := ?_) rfl (by kernel_rfl) (by kernel_rfl) (by kernel_rfl) (fun _ _ _ h => h) (by rfl) (fun wq hSq => ?_) hHeld1 ?_
        rotate_left
        · (try dsimp only at hSq); go_simp; try with_reducible rfl
        simp only [Act.put, List.setIfInBounds_toArray, List.set_cons_zero, List.set_cons_succ]
        refine held_take (i := 15) (v := ?_) rfl (by kernel_rfl) (by kernel_rfl) (by kernel_rfl) (fun _ _ _ h => h) (by rfl) (fun wq hSq => ?_) hHeld1 ?_
        rotate_left
        · (try dsimp only at hSq); go_simp; try with_reducible rfl
        simp only [Act.put, List.setIfInBounds_toArray, List.set_cons_zero, List.set_cons_succ]
        refine held_take (i := 16) (v := ?_) rfl (by kernel_rfl) (by kernel_rfl) (by kernel_rfl) (fun _ _ _ h => h) (by rfl) (fun wq hSq => ?_) hHeld1 ?_
        rotate_left
        · (try dsimp only at hSq); go_simp; try with_reducible rfl
        simp only [Act.put, List.setIfInBounds_toArray, List.set_cons_zero, List.set_cons_succ]
        refine held_take (i := 17) (v := ?_) rfl (by kernel_rfl) (by kernel_rfl) (by kernel_rfl) (fun _ _ _ h => h) (by rfl) (fun wq hSq => ?_) hHeld1 ?_
        rotate_left
        · (try dsimp only at hSq); go_simp; try with_reducible rfl
        simp only [Act.put, List.setIfInBounds_toArray, List.set_cons_zero, List.set_cons_succ]
        refine held_take (i := 18) (v := ?_) rfl (by kernel_rfl) (by kernel_rfl) (by kernel_rfl) (fun _ _ _ h => h) (by rfl) (fun wq hSq => ?_) hHeld1 ?_
        rotate_left
        · (try dsimp only at hSq); go_simp; try with_reducible rfl
        simp only [Act.put, List.setIfInBounds_toArray, List.set_cons_zero, List.set_cons_succ]
        refine held_take (i := 19) (v := ?_) rfl (by kernel_rfl) (by kernel_rfl) (by kernel_rfl) (fun _ _ _ h => h) (by rfl) (fun wq hSq => ?_) hHeld1 ?_
        rotate_left
        · (try dsimp only at hSq); go_simp; try with_reducible rfl
        simp only [Act.put, List.setIfInBounds_toArray, List.set_cons_zero, List.set_cons_succ]
        refine held_take (i := 20) (v := ?_) rfl (by kernel_rfl) (by kernel_rfl) (by kernel_rfl) (fun _ _ _ h => h) (by rfl) (fun wq hSq => ?_) hHeld1 ?_
        rotate_left
        · (try dsimp only at hSq); go_simp; try with_reducible rfl
        simp only [Act.put, List.setIfInBounds_toArray, List.set_cons_zero, List.set_cons_succ]
        refine held_take (i := 21) (v := ?_) rfl (by kernel_rfl) (by kernel_rfl) (by kernel_rfl) (fun _ _ _ h => h) (by rfl) (fun wq hSq => ?_) hHeld1 ?_
        rotate_left
        · (try dsimp only at hSq); go_simp; try with_reducible rfl
        simp only [Act.put, List.setIfInBounds_toArray, List.set_cons_zero, List.set_cons_succ]
        refine held_take (i := 22) (v := ?_) rfl (by kernel_rfl) (by kernel_rfl) (by kernel_rfl) (fun _ _ _ h => h) (by rfl) (fun wq hSq => ?_) hHeld1 ?_
        rotate_left
        · (try dsimp only at hSq); go_simp; try with_reducible rfl
        simp only [Act.put, List.setIfInBounds_toArray, List.set_cons_zero, List.set_cons_succ]
        refine held_take (i := 23) (v := ?_) rfl (by kernel_rfl) (by kernel_rfl) (by kernel_rfl) (fun _ _ _ h => h) (by rfl) (fun wq hSq => ?_) hHeld1 ?_
        rotate_left
        · (try dsimp only at hSq); go_simp; try with_reducible rfl
        simp only [Act.put, List.setIfInBounds_toArray, List.set_cons_zero, List.set_cons_succ]
        refine held_take (i := 24) (v := ?_) rfl (by kernel_rfl) (by kernel_rfl) (by kernel_rfl) (fun _ _ _ h => h) (by rfl) (fun wq hSq => ?_) hHeld1 ?_
        rotate_left
        · (try dsimp only at hSq); go_simp; try with_reducible rfl
        simp only [Act.put, List.setIfInBounds_toArray, List.set_cons_zero, List.set_cons_succ]
        refine held_take (i := 25) (v := ?_) rfl (by kernel_rfl) (by kernel_rfl) (by kernel_rfl) (fun _ _ _ h => h) (by rfl) (fun wq hSq => ?_) hHeld1 ?_
        rotate_left
        · (try dsimp only at hSq); go_simp; try with_reducible rfl
        simp only [Act.put, List.setIfInBounds_toArray, List.set_cons_zero, List.set_cons_succ]
        refine held_take (i := 26) (v := ?_) rfl (by kernel_rfl) (by kernel_rfl) (by kernel_rfl) (fun _ _ _ h => h) (by rfl) (fun wq hSq => ?_) hHeld1 ?_
        rotate_left
        · (try dsimp only at hSq); go_simp; try with_reducible rfl
        simp only [Act.put, List.setIfInBounds_toArray, List.set_cons_zero, List.set_cons_succ]
        refine held_take (i := 27) (v := ?_) rfl (by kernel_rfl) (by kernel_rfl) (by kernel_rfl) (fun _ _ _ h => h) (by rfl) (fun wq hSq => ?_) hHeld1 ?_
        rotate_left
        · (try dsimp only at hSq); go_simp; try with_reducible rfl
        simp only [Act.put, List.setIfInBounds_toArray, List.set_cons_zero, List.set_cons_succ]
        refine held_take (i := 28) (v := ?_) rfl (by kernel_rfl) (by kernel_rfl) (by kernel_rfl) (fun _ _ _ h => h) (by rfl) (fun wq hSq => ?_) hHeld1 ?_
        rotate_left
        · (try dsimp only at hSq); go_simp; try with_reducible rfl
        simp only [Act.put, List.setIfInBounds_toArray, List.set_cons_zero, List.set_cons_succ]
        refine held_take (i := 29) (v := ?_) rfl (by kernel_rfl) (by kernel_rfl) (by kernel_rfl) (fun _ _ _ h => h) (by rfl) (fun wq hSq => ?_) hHeld1 ?_
        rotate_left
        · (try dsimp only at hSq); go_simp; try with_reducible rfl
        simp only [Act.put, List.setIfInBounds_toArray, List.set_cons_zero, List.set_cons_succ]
        refine held_take (i := 30) (v := ?_) rfl (by kernel_rfl) (by kernel_rfl) (by kernel_rfl) (fun _ _ _ h => h) (by rfl) (fun wq hSq => ?_) hHeld1 ?_
        rotate_left
        · (try dsimp only at hSq); go_simp; try with_reducible rfl
        simp only [Act.put, List.setIfInBounds_toArray, List.set_cons_zero, List.set_cons_succ]
        refine held_take (i := 31) (v := ?_) rfl (by kernel_rfl) (by kernel_rfl) (by kernel_rfl) (fun _ _ _ h => h) (by rfl) (fun wq hSq => ?_) hHeld1 ?_
        rotate_left
        · (try dsimp only at hSq); go_simp; try with_reducible rfl
        simp only [Act.put, List.setIfInBounds_toArray, List.set_cons_zero, List.set_cons_succ]
        refine held_take (i := 32) (v := ?_) rfl (by kernel_rfl) (by kernel_rfl) (by kernel_rfl) (fun _ _ _ h => h) (by rfl) (fun wq hSq => ?_) hHeld1 ?_
        rotate_left
        · (try dsimp only at hSq); go_simp; try with_reducible rfl
        simp only [Act.put, List.setIfInBounds_toArray, List.set_cons_zero, List.set_cons_succ]
        refine held_take (i := 33) (v := ?_) rfl (by kernel_rfl) (by kernel_rfl) (by kernel_rfl) (fun _ _ _ h => h) (by rfl) (fun wq hSq => ?_) hHeld1 ?_
        rotate_left
        · (try dsimp only at hSq); go_simp; try with_reducible rfl
        simp only [Act.put, List.setIfInBounds_toArray, List.set_cons_zero, List.set_cons_succ]
        refine held_take (i := 34) (v := ?_) rfl (by kernel_rfl) (by kernel_rfl) (by kernel_rfl) (fun _ _ _ h => h) (by rfl) (fun wq hSq => ?_) hHeld1 ?_
        rotate_left
        · (try dsimp only at hSq); go_simp; try with_reducible rfl
        simp only [Act.put, List.setIfInBounds_toArray, List.set_cons_zero, List.set_cons_succ]
        refine held_take (i := 35) (v := ?_) rfl (by kernel_rfl) (by kernel_rfl) (by kernel_rfl) (fun _ _ _ h => h) (by rfl) (fun wq hSq => ?_) hHeld1 ?_
        rotate_left
        · (try dsimp only at hSq); go_simp; try with_reducible rfl
        simp only [Act.put, List.setIfInBounds_toArray, List.set_cons_zero, List.set_cons_succ]
        refine held_take (i := 36) (v := ?_) rfl (by kernel_rfl) (by kernel_rfl) (by kernel_rfl) (fun _ _ _ h => h) (by rfl) (fun wq hSq => ?_) hHeld1 ?_
        rotate_left
        · (try dsimp only at hSq); go_simp; try with_reducible rfl
        simp only [Act.put, List.setIfInBounds_toArray, List.set_cons_zero, List.set_cons_succ]
        refine held_take (i := 37) (v := ?_) rfl (by kernel_rfl) (by kernel_rfl) (by kernel_rfl) (fun _ _ _ h => h) (by rfl) (fun wq hSq => ?_) hHeld1 ?_
        rotate_left
        · (try dsimp only at hSq); go_simp; try with_reducible rfl
        simp only [Act.put, List.setIfInBounds_toArray, List.set_cons_zero, List.set_cons_succ]
        refine held_take (i := 38) (v := ?_) rfl (by kernel_rfl) (by kernel_rfl) (by kernel_rfl) (fun _ _ _ h => h) (by rfl) (fun wq hSq => ?_) hHeld1 ?_
        rotate_left
        · (try dsimp only at hSq); go_simp; try with_reducible rfl
        simp only [Act.put, List.setIfInBounds_toArray, List.set_cons_zero, List.set_cons_succ]
        refine held_take (i := 39) (v := ?_) rfl (by kernel_rfl) (by kernel_rfl) (by kernel_rfl) (fun _ _ _ h => h) (by rfl) (fun wq hSq => ?_) hHeld1 ?_
        rotate_left
        · (try dsimp only at hSq); go_simp; try with_reducible rfl
        simp only [Act.put, List.setIfInBounds_toArray, List.set_cons_zero, List.set_cons_succ]
        refine held_take (i := 40) (v := ?_) rfl (by kernel_rfl) (by kernel_rfl) (by kernel_rfl) (fun _ _ _ h => h) (by rfl) (fun wq hSq => ?_) hHeld1 ?_
        rotate_left
        · (try dsimp only at hSq); go_simp; try with_reducible rfl
        simp only [Act.put, List.setIfInBounds_toArray, List.set_cons_zero, List.set_cons_succ]
        refine held_take (i := 41) (v := ?_) rfl (by kernel_rfl) (by kernel_rfl) (by kernel_rfl) (fun _ _ _ h => h) (by rfl) (fun wq hSq => ?_) hHeld1 ?_
        rotate_left
        · (try dsimp only at hSq); go_simp; try with_reducible rfl
        simp only [Act.put, List.setIfInBounds_toArray, List.set_cons_zero, List.set_cons_succ]
        refine held_take (i := 42) (v := ?_) rfl (by kernel_rfl) (by kernel_rfl) (by kernel_rfl) (fun _ _ _ h => h) (by rfl) (fun wq hSq => ?_) hHeld1 ?_
        rotate_left
        · (try dsimp only at hSq); go_simp; try with_reducible rfl
        simp only [Act.put, List.setIfInBounds_toArray, List.set_cons_zero, List.set_cons_succ]
        refine held_take (i := 44) (v := ?_) rfl (by kernel_rfl) (by kernel_rfl) (by kernel_rfl) (fun _ _ _ h => h) (by rfl) (fun wq hSq => ?_) hHeld1 ?_
        rotate_left
        · (try dsimp only at hSq); go_simp; try with_reducible rfl
        simp only [Act.put, List.setIfInBounds_toArray, List.set_cons_zero, List.set_cons_succ]
        refine held_step (i := 43) (by kernel_rfl) rfl (by rfl) (fun K hK => ?_)
        go_simp
        refine (num_calls w9 0).mono ?_
        rintro e9 w10 ⟨rfl, rfl⟩
        dsimp only
        refine hK.out _ _ ⟨HF9.out.r3.cell 0 _ rfl, HF9.out.r3.cell 1 _ rfl, HF9.out.r3.cell 2 _ rfl, HF9.out.r3.cell 3 _ rfl, HF9.out.r3.cell 4 _ rfl, HF9.out.r3.cell 5 _ rfl, HF9.out.r1.cell 0 _ rfl, HF9.out.r1.cell 1 _ rfl, HF9.out.r1.cell 2 _ rfl, HF9.out.r1.cell 3 _ rfl, HF9.out.r1.cell 4 _ rfl, HF9.out.r1.cell 5 _ rfl, HF9.out.sh, HF9.out.sb, HA9.out.string, HC9.out.string⟩ (fun hHeld2 => ?_)
        clear hK K hHeld1
        refine held_take (i := 45) (v := ?_) rfl (by kernel_rfl) (by kernel_rfl) (by kernel_rfl) (fun _ _ _ h => h) (by rfl) (fun wq hSq => ?_) hHeld2 ?_
        rotate_left
        · (try dsimp only at hSq); go_simp; try with_reducible rfl
        simp only [Act.put, List.setIfInBounds_toArray, List.set_cons_zero, List.set_cons_succ]
        refine held_take (i := 46) (v := ?_) rfl (by kernel_rfl) (by kernel_rfl) (by kernel_rfl) (fun _ _ _ h => h) (by rfl) (fun wq hSq => ?_) hHeld2 ?_
        rotate_left
        · (try dsimp only at hSq); go_simp; try with_reducible rfl
        simp only [Act.put, List.setIfInBounds_toArray, List.set_cons_zero, List.set_cons_succ]
        refine held_take (i := 47) (v := ?_) rfl (by kernel_rfl) (by kernel_rfl) (by kernel_rfl) (fun _ _ _ h => h) (by rfl) (fun wq hSq => ?_) hHeld2 ?_
        rotate_left
        · (try dsimp only at hSq); go_simp; try with_reducible rfl
        simp only [Act.put, List.setIfInBounds_toArray, List.set_cons_zero, List.set_cons_succ]
        refine held_step (i := 48) (by kernel_rfl) rfl (by rfl) (fun K hK => ?_)
        go_simp
        refine (works_calls w9 (He.out.below HB9.out)).mono ?_
        rintro e9 w11 ⟨rfl, hb11⟩
        dsimp only
        have HF11 := Lib.hid (HF9.out.below hb11)
        have HB11 := Lib.hid (HB9.out.trans (hb11.mono HB9.out.size))
        have HA11 := Lib.hid (HA9.out.below hb11)
        have HC11 := Lib.hid (HC9.out.below hb11)
        clear hb11
        refine hK.out _ _ ⟨HF11.out.r3.cell 0 _ rfl, HF11.out.r3.cell 1 _ rfl, HF11.out.r3.cell 2 _ rfl, HF11.out.r3.cell 3 _ rfl, HF11.out.r3.cell 4 _ rfl, HF11.out.r3.cell 5 _ rfl, HF11.out.r1.cell 0 _ rfl, HF11.out.r1.cell 1 _ rfl, HF11.out.r1.cell 2 _ rfl, HF11.out.r1.cell 3 _ rfl, HF11.out.r1.cell 4 _ rfl, HF11.out.r1.cell 5 _ rfl, HF11.out.sh, HF11.out.sb, HA11.out.string, HC11.out.string⟩ (fun hHeld3 => ?_)
        clear hK K hHeld2
        refine held_take (i := 49) (v := ?_) rfl (by kernel_rfl) (by kernel_rfl) (by kernel_rfl) (fun _ _ _ h => h) (by rfl) (fun wq hSq => ?_) hHeld3 ?_
        rotate_left
        · (try dsimp only at hSq); go_simp; try with_reducible rfl
        simp only [Act.put, List.setIfInBounds_toArray, List.set_cons_zero, List.set_cons_succ]
        refine held_take (i := 50) (v := ?_) rfl (by kernel_rfl) (by kernel_rfl) (by kernel_rfl) (fun _ _ _ h => h) (by rfl) (fun wq hSq => ?_) hHeld3 ?_
        rotate_left
        · (try dsimp only at hSq); go_simp; try with_reducible rfl
        simp only [Act.put, List.setIfInBounds_toArray, List.set_cons_zero, List.set_cons_succ]
        refine wpAnyH_done (by kernel_rfl) ?_ _
        clear hHeld3
        go_wp2_with fail
        go_ret
        exact ⟨rfl, HB11.out⟩
      ·
        have HV6 : Hid (BytS w6 (.slice none 0 0) []) := Lib.hid (.inl ⟨rfl, rfl⟩)
        have a0 := HF6.out.r1.cell 0 _ rfl
        have a1 := HF6.out.r1.cell 1 _ rfl
        have a2 := HF6.out.r1.cell 2 _ rfl
        have a3 := HF6.out.r1.cell 3 _ rfl
        have a4 := HF6.out.r1.cell 4 _ rfl
        have a5 := HF6.out.r1.cell 5 _ rfl
        go_wp2_with fail
        clear a0 a1 a2 a3 a4 a5
        refine (bytesR_calls w6 _ (⟨m, u, qy, hs, bd, cl⟩ : Req) ⟨_, _, rfl, HF6.out.h1, HF6.out.s1⟩ (Nat.le_trans HN.out (by decide))).mono ?_
        rintro e w7 ⟨hbo2, hb7⟩
        have HF7 := Lib.hid (HF6.out.below hb7)
        have HB7 := Lib.hid (HB6.out.trans (hb7.mono HB6.out.size))
        have HV67 := Lib.hid (HV6.out.below hb7)
        clear hb7 HF6 HB6 HV6
        obtain ⟨_, rfl⟩ := hbo2.resolve_left (fun h => hbk h.1)
        have HV7 : Hid (BytS w7 (.slice none 0 0) []) := Lib.hid (.inl ⟨rfl, rfl⟩)
        clear hbo2
        clear hbk
        go_upto_region 8 with fail
        have HFd := Lib.hid (HF7.out.below (Below.refl _ _).drew)
        have HBd := Lib.hid HB7.out.drew
        have HAd := Lib.hid (HV67.out.below (Below.refl _ _).drew)
        have HCd := Lib.hid (HV7.out.below (Below.refl _ _).drew)
        have hS0 : (fun W => W.cell? ⟨g3, 0, none⟩ = some (.string ⟨m.toArray⟩) ∧ W.cell? ⟨g3, 1, none⟩ = some (.string ⟨u.toArray⟩) ∧ W.cell? ⟨g3, 2, none⟩ = some (.string ⟨qy.toArray⟩) ∧ W.cell? ⟨g3, 3, none⟩ = some ((.slice (some ⟨ghz, 0, none⟩) hs.length chz)) ∧ W.cell? ⟨g3, 4, none⟩ = some ((.slice (some ⟨gz, oz, none⟩) bd.length cz)) ∧ W.cell? ⟨g3, 5, none⟩ = some (.bool cl) ∧ W.cell? ⟨w.heap.size, 0, none⟩ = some (.string ⟨m.toArray⟩) ∧ W.cell? ⟨w.heap.size, 1, none⟩ = some (.string ⟨u.toArray⟩) ∧ W.cell? ⟨w.heap.size, 2, none⟩ = some (.string ⟨qy.toArray⟩) ∧ W.cell? ⟨w.heap.size, 3, none⟩ = some ((.slice p1 hs.length c1)) ∧ W.cell? ⟨w.heap.size, 4, none⟩ = some ((.slice b1 bd.length e1)) ∧ W.cell? ⟨w.heap.size, 5, none⟩ = some (.bool cl) ∧ W.cell? ⟨ghz, hs.length * 2, none⟩ = some (.string ⟨#[115, 112, 97, 114, 101]⟩) ∧ W.cell? ⟨gz, oz + bd.length, none⟩ = some (.int .u8 165) ∧ (convert 23 9 (.slice none 0 0)).run Tryz.prog W = .ok (.string ⟨(([] : List UInt8)).toArray⟩) W ∧ (convert 23 9 (.slice none 0 0)).run Tryz.prog W = .ok (.string ⟨(([] : List UInt8)).toArray⟩) W) w7.drew := ⟨HFd.out.r3.cell 0 _ rfl, HFd.out.r3.cell 1 _ rfl, HFd.out.r3.cell 2 _ rfl, HFd.out.r3.cell 3 _ rfl, HFd.out.r3.cell 4 _ rfl, HFd.out.r3.cell 5 _ rfl, HFd.out.r1.cell 0 _ rfl, HFd.out.r1.cell 1 _ rfl, HFd.out.r1.cell 2 _ rfl, HFd.out.r1.cell 3 _ rfl, HFd.out.r1.cell 4 _ rfl, HFd.out.r1.cell 5 _ rfl, HFd.out.sh, HFd.out.sb, HAd.out.string, HCd.out.string⟩
        clear HF7 HB7 HV67 HV7
        refine wp_region_held_drew (S := (fun W => W.cell? ⟨g3, 0, none⟩ = some (.string ⟨m.toArray⟩) ∧ W.cell? ⟨g3, 1, none⟩ = some (.string ⟨u.toArray⟩) ∧ W.cell? ⟨g3, 2, none⟩ = some (.string ⟨qy.toArray⟩) ∧ W.cell? ⟨g3, 3, none⟩ = some ((.slice (some ⟨ghz, 0, none⟩) hs.length chz)) ∧ W.cell? ⟨g3, 4, none⟩ = some ((.slice (some ⟨gz, oz, none⟩) bd.length cz)) ∧ W.cell? ⟨g3, 5, none⟩ = some (.bool cl) ∧ W.cell? ⟨w.heap.size, 0, none⟩ = some (.string ⟨m.toArray⟩) ∧ W.cell? ⟨w.heap.size, 1, none⟩ = some (.string ⟨u.toArray⟩) ∧ W.cell? ⟨w.heap.size, 2, none⟩ = some (.string ⟨qy.toArray⟩) ∧ W.cell? ⟨w.heap.size, 3, none⟩ = some ((.slice p1 hs.length c1)) ∧ W.cell? ⟨w.heap.size, 4, none⟩ = some ((.slice b1 bd.length e1)) ∧ W.cell? ⟨w.heap.size, 5, none⟩ = some (.bool cl) ∧ W.cell? ⟨ghz, hs.length * 2, none⟩ = some (.string ⟨#[115, 112, 97, 114, 101]⟩) ∧ W.cell? ⟨gz, oz + bd.length, none⟩ = some (.int .u8 165) ∧ (convert 23 9 (.slice none 0 0)).run Tryz.prog W = .ok (.string ⟨(([] : List UInt8)).toArray⟩) W ∧ (convert 23 9 (.slice none 0 0)).run Tryz.prog W = .ok (.string ⟨(([] : List UInt8)).toArray⟩) W)) (by kernel_rfl) hS0 (fun hHeld0 => ?_)
        generalize w7.drew = wd at *
        refine held_take (i := 0) (v := ?_) rfl (by kernel_rfl) (by kernel_rfl) (by kernel_rfl) (fun _ _ _ h => h) (by rfl) (fun wq hSq => ?_) hHeld0 ?_
        rotate_left
        · (try dsimp only at hSq); go_simp; try with_reducible rfl
        simp only [Act.put, List.setIfInBounds_toArray, List.set_cons_zero, List.set_cons_succ]
        refine held_take (i := 1) (v := ?_) rfl (by kernel_rfl) (by kernel_rfl) (by kernel_rfl) (fun _ _ _ h => h) (by rfl) (fun wq hSq => ?_) hHeld0 ?_
        rotate_left
        · (try dsimp only at hSq); go_simp; try with_reducible rfl
        simp only [Act.put, List.setIfInBounds_toArray, List.set_cons_zero, List.set_cons_succ]
        refine held_step (i := 2) (by kernel_rfl) rfl (by rfl) (fun K hK => ?_)
        go_simp
        refine (sameR_calls wd _ _ (⟨m, u, qy, hs, bd, cl⟩ : Req) (⟨m, u, qy, hs, bd, cl⟩ : Req) ⟨_, _, rfl, HFd.out.h3, HFd.out.s3⟩ ⟨_, _, rfl, HFd.out.h1, HFd.out.s1⟩).mono ?_
        rintro e9 w9 ⟨rfl, hb9⟩
        rw [eqB_true rfl]
        dsimp only
        have HF9 := Lib.hid (HFd.out.below hb9)
        have HB9 := Lib.hid (HBd.out.trans (hb9.mono HBd.out.size))
        have HA9 := Lib.hid (HAd.out.below hb9)
        have HC9 := Lib.hid (HCd.out.below hb9)
        clear hb9
        refine hK.out _ _ ⟨HF9.out.r3.cell 0 _ rfl, HF9.out.r3.cell 1 _ rfl, HF9.out.r3.cell 2 _ rfl, HF9.out.r3.cell 3 _ rfl, HF9.out.r3.cell 4 _ rfl, HF9.out.r3.cell 5 _ rfl, HF9.out.r1.cell 0 _ rfl, HF9.out.r1.cell 1 _ rfl, HF9.out.r1.cell 2 _ rfl, HF9.out.r1.cell 3 _ rfl, HF9.out.r1.cell 4 _ rfl, HF9.out.r1.cell 5 _ rfl, HF9.out.sh, HF9.out.sb, HA9.out.string, HC9.out.string⟩ (fun hHeld1 => ?_)
        clear hK K hHeld0
        refine held_take (i := 3) (v := ?_) rfl (by kernel_rfl) (by kernel_rfl) (by kernel_rfl) (fun _ _ _ h => h) (by rfl) (fun wq hSq => ?_) hHeld1 ?_
        rotate_left
        · (try dsimp only at hSq); go_simp; try with_reducible rfl
        simp only [Act.put, List.setIfInBounds_toArray, List.set_cons_zero, List.set_cons_succ]
        refine held_take (i := 4) (v := ?_) rfl (by kernel_rfl) (by kernel_rfl) (by kernel_rfl) (fun _ _ _ h => h) (by rfl) (fun wq hSq => ?_) hHeld1 ?_
        rotate_left
        · (try dsimp only at hSq); go_simp; try with_reducible rfl
        simp only [Act.put, List.setIfInBounds_toArray, List.set_cons_zero, List.set_cons_succ]
        refine held_take (i := 5) (v := ?_) rfl (by kernel_rfl) (by kernel_rfl) (by kernel_rfl) (fun _ _ _ h => h) (by rfl) (fun wq hSq => ?_) hHeld1 ?_
        rotate_left
        · (try dsimp only at hSq); go_simp; try with_reducible rfl
        simp only [Act.put, List.setIfInBounds_toArray, List.set_cons_zero, List.set_cons_succ]
        refine held_take (i := 6) (v := ?_) rfl (by kernel_rfl) (by kernel_rfl) (by kernel_rfl) (fun _ _ _ h => h) (by rfl) (fun wq hSq => ?_) hHeld1 ?_
        rotate_left
        · (try dsimp only at hSq); go_simp; try with_reducible rfl
        simp only [Act.put, List.setIfInBounds_toArray, List.set_cons_zero, List.set_cons_succ]
        refine held_take (i := 7) (v := ?_) rfl (by kernel_rfl) (by kernel_rfl) (by kernel_rfl) (fun _ _ _ h => h) (by rfl) (fun wq hSq => ?_) hHeld1 ?_
        rotate_left
        · (try dsimp only at hSq); go_simp; try with_reducible rfl
        simp only [Act.put, List.setIfInBounds_toArray, List.set_cons_zero, List.set_cons_succ]
        refine held_take (i := 8) (v := ?_) rfl (by kernel_rfl) (by kernel_rfl) (by kernel_rfl) (fun _ _ _ h => h) (by rfl) (fun wq hSq => ?_) hHeld1 ?_
        rotate_left
        · (try dsimp only at hSq); go_simp; try with_reducible rfl
        simp only [Act.put, List.setIfInBounds_toArray, List.set_cons_zero, List.set_cons_succ]
        refine held_take (i := 9) (v := ?_) rfl (by kernel_rfl) (by kernel_rfl) (by kernel_rfl) (fun _ _ _ h => h) (by rfl) (fun wq hSq => ?_) hHeld1 ?_
        rotate_left
        · (try dsimp only at hSq); go_simp; try with_reducible rfl
        simp only [Act.put, List.setIfInBounds_toArray, List.set_cons_zero, List.set_cons_succ]
        refine held_take (i := 10) (v := ?_) rfl (by kernel_rfl) (by kernel_rfl) (by kernel_rfl) (fun _ _ _ h => h) (by rfl) (fun wq hSq => ?_) hHeld1 ?_
        rotate_left
        · (try dsimp only at hSq); go_simp; try with_reducible rfl
        simp only [Act.put, List.setIfInBounds_toArray, List.set_cons_zero, List.set_cons_succ]
        refine held_take (i := 11) (v := ?_) rfl (by kernel_rfl) (by kernel_rfl) (by kernel_rfl) (fun _ _ _ h => h) (by rfl) (fun wq hSq => ?_) hHeld1 ?_
        rotate_left
        · (try dsimp only at hSq); go_simp; try with_reducible rfl
        simp only [Act.put, List.setIfInBounds_toArray, List.set_cons_zero, List.set_cons_succ]
        refine held_take (i := 12) (v := ?_) rfl (by kernel_rfl) (by kernel_rfl) (by kernel_rfl) (fun _ _ _ h => h) (by rfl) (fun wq hSq => ?_) hHeld1 ?_
        rotate_left
        · (try dsimp only at hSq); go_simp; try with_reducible rfl
        simp only [Act.put, List.setIfInBounds_toArray, List.set_cons_zero, List.set_cons_succ]
        refine held_take (i := 13) (v := ?_) rfl (by kernel_rfl) (by kernel_rfl) (by kernel_rfl) (fun _ _ _ h => h) (by rfl) (fun wq hSq => ?_) hHeld1 ?_
        rotate_left
        · (try dsimp only at hSq); go_simp; try with_reducible rfl
        simp only [Act.put, List.setIfInBounds_toArray, List.set_cons_zero, List.set_cons_succ]
        refine held_take (i := 14) (v := ?_) rfl (by kernel_rfl) (by kernel_rfl) (by kernel_rfl) (fun _ _ _ h => h) (by rfl) (fun wq hSq => ?_) hHeld1 ?_
        rotate_left
        · (try dsimp only at hSq); go_simp; try with_reducible rfl
        simp only [Act.put, List.setIfInBounds_toArray, List.set_cons_zero, List.set_cons_succ]
        refine held_take (i := 15) (v := ?_) rfl (by kernel_rfl) (by kernel_rfl) (by kernel_rfl) (fun _ _ _ h => h) (by rfl) (fun wq hSq => ?_) hHeld1 ?_
        rotate_left
        · (try dsimp only at hSq); go_simp; try with_reducible rfl
        simp only [Act.put, List.setIfInBounds_toArray, List.set_cons_zero, List.set_cons_succ]
        refine held_take (i := 16) (v := ?_) rfl (by kernel_rfl) (by kernel_rfl) (by kernel_rfl) (fun _ _ _ h => h) (by rfl) (fun wq hSq => ?_) hHeld1 ?_
        rotate_left
        · (try dsimp only at hSq); go_simp; try with_reducible rfl
        simp only [Act.put, List.setIfInBounds_toArray, List.set_cons_zero, List.set_cons_succ]
        refine held_take (i := 17) (v := ?_) rfl (by kernel_rfl) (by kernel_rfl) (by kernel_rfl) (fun _ _ _ h => h) (by rfl) (fun wq hSq => ?_) hHeld1 ?_
        rotate_left
        · (try dsimp only at hSq); go_simp; try with_reducible rfl
        simp only [Act.put, List.setIfInBounds_toArray, List.set_cons_zero, List.set_cons_succ]
        refine held_take (i := 18) (v := ?_) rfl (by kernel_rfl) (by kernel_rfl) (by kernel_rfl) (fun _ _ _ h => h) (by rfl) (fun wq hSq => ?_) hHeld1 ?_
        rotate_left
        · (try dsimp only at hSq); go_simp; try with_reducible rfl
        simp only [Act.put, List.setIfInBounds_toArray, List.set_cons_zero, List.set_cons_succ]
        refine held_take (i := 19) (v := ?_) rfl (by kernel_rfl) (by kernel_rfl) (by kernel_rfl) (fun _ _ _ h => h) (by rfl) (fun wq hSq => ?_) hHeld1 ?_
        rotate_left
        · (try dsimp only at hSq); go_simp; try with_reducible rfl
        simp only [Act.put, List.setIfInBounds_toArray, List.set_cons_zero, List.set_cons_succ]
        refine held_take (i := 20) (v := ?_) rfl (by kernel_rfl) (by kernel_rfl) (by kernel_rfl) (fun _ _ _ h => h) (by rfl) (fun wq hSq => ?_) hHeld1 ?_
        rotate_left
        · (try dsimp only at hSq); go_simp; try with_reducible rfl
        simp only [Act.put, List.setIfInBounds_toArray, List.set_cons_zero, List.set_cons_succ]
        refine held_take (i := 21) (v := ?_) rfl (by kernel_rfl) (by kernel_rfl) (by kernel_rfl) (fun _ _ _ h => h) (by rfl) (fun wq hSq => ?_) hHeld1 ?_
        rotate_left
        · (try dsimp only at hSq); go_simp; try with_reducible rfl
        simp only [Act.put, List.setIfInBounds_toArray, List.set_cons_zero, List.set_cons_succ]
        refine held_take (i := 22) (v := ?_) rfl (by kernel_rfl) (by kernel_rfl) (by kernel_rfl) (fun _ _ _ h => h) (by rfl) (fun wq hSq => ?_) hHeld1 ?_
        rotate_left
        · (try dsimp only at hSq); go_simp; try with_reducible rfl
        simp only [Act.put, List.setIfInBounds_toArray, List.set_cons_zero, List.set_cons_succ]
        refine held_take (i := 23) (v := ?_) rfl (by kernel_rfl) (by kernel_rfl) (by kernel_rfl) (fun _ _ _ h => h) (by rfl) (fun wq hSq => ?_) hHeld1 ?_
        rotate_left
        · (try dsimp only at hSq); go_simp; try with_reducible rfl
        simp only [Act.put, List.setIfInBounds_toArray, List.set_cons_zero, List.set_cons_succ]
        refine held_take (i := 24) (v := ?_) rfl (by kernel_rfl) (by kernel_rfl) (by kernel_rfl) (fun _ _ _ h => h) (by rfl) (fun wq hSq => ?_) hHeld1 ?_
        rotate_left
        · (try dsimp only at hSq); go_simp; try with_reducible rfl
        simp only [Act.put, List.setIfInBounds_toArray, List.set_cons_zero, List.set_cons_succ]
        refine held_take (i := 25) (v := ?_) rfl (by kernel_rfl) (by kernel_rfl) (by kernel_rfl) (fun _ _ _ h => h) (by rfl) (fun wq hSq => ?_) hHeld1 ?_
        rotate_left
        · (try dsimp only at hSq); go_simp; try with_reducible rfl
        simp only [Act.put, List.setIfInBounds_toArray, List.set_cons_zero, List.set_cons_succ]
        refine held_take (i := 26) (v := ?_) rfl (by kernel_rfl) (by kernel_rfl) (by kernel_rfl) (fun _ _ _ h => h) (by rfl) (fun wq hSq => ?_) hHeld1 ?_
        rotate_left
        · (try dsimp only at hSq); go_simp; try with_reducible rfl
        simp only [Act.put, List.setIfInBounds_toArray, List.set_cons_zero, List.set_cons_succ]
        refine held_take (i := 27) (v := ?_) rfl (by kernel_rfl) (by kernel_rfl) (by kernel_rfl) (fun _ _ _ h => h) (by rfl) (fun wq hSq => ?_) hHeld1 ?_
        rotate_left
        · (try dsimp only at hSq); go_simp; try with_reducible rfl
        simp only [Act.put, List.setIfInBounds_toArray, List.set_cons_zero, List.set_cons_succ]
        refine held_take (i := 28) (v := ?_) rfl (by kernel_rfl) (by kernel_rfl) (by kernel_rfl) (fun _ _ _ h => h) (by rfl) (fun wq hSq => ?_) hHeld1 ?_
        rotate_left
        · (try dsimp only at hSq); go_simp; try with_reducible rfl
        simp only [Act.put, List.setIfInBounds_toArray, List.set_cons_zero, List.set_cons_succ]
        refine held_take (i := 29) (v := ?_) rfl (by kernel_rfl) (by kernel_rfl) (by kernel_rfl) (fun _ _ _ h => h) (by rfl) (fun wq hSq => ?_) hHeld1 ?_
        rotate_left
        · (try dsimp only at hSq); go_simp; try with_reducible rfl
        simp only [Act.put, List.setIfInBounds_toArray, List.set_cons_zero, List.set_cons_succ]
        refine held_take (i := 30) (v := ?_) rfl (by kernel_rfl) (by kernel_rfl) (by kernel_rfl) (fun _ _ _ h => h) (by rfl) (fun wq hSq => ?_) hHeld1 ?_
        rotate_left
        · (try dsimp only at hSq); go_simp; try with_reducible rfl
        simp only [Act.put, List.setIfInBounds_toArray, List.set_cons_zero, List.set_cons_succ]
        refine held_take (i := 31) (v := ?_) rfl (by kernel_rfl) (by kernel_rfl) (by kernel_rfl) (fun _ _ _ h => h) (by rfl) (fun wq hSq => ?_) hHeld1 ?_
        rotate_left
        · (try dsimp only at hSq); go_simp; try with_reducible rfl
        simp only [Act.put, List.setIfInBounds_toArray, List.set_cons_zero, List.set_cons_succ]
        refine held_take (i := 32) (v := ?_) rfl (by kernel_rfl) (by kernel_rfl) (by kernel_rfl) (fun _ _ _ h => h) (by rfl) (fun wq hSq => ?_) hHeld1 ?_
        rotate_left
        · (try dsimp only at hSq); go_simp; try with_reducible rfl
        simp only [Act.put, List.setIfInBounds_toArray, List.set_cons_zero, List.set_cons_succ]
        refine held_take (i := 33) (v := ?_) rfl (by kernel_rfl) (by kernel_rfl) (by kernel_rfl) (fun _ _ _ h => h) (by rfl) (fun wq hSq => ?_) hHeld1 ?_
        rotate_left
        · (try dsimp only at hSq); go_simp; try with_reducible rfl
        simp only [Act.put, List.setIfInBounds_toArray, List.set_cons_zero, List.set_cons_succ]
        refine held_take (i := 34) (v := ?_) rfl (by kernel_rfl) (by kernel_rfl) (by kernel_rfl) (fun _ _ _ h => h) (by rfl) (fun wq hSq => ?_) hHeld1 ?_
        rotate_left
        · (try dsimp only at hSq); go_simp; try with_reducible rfl
        simp only [Act.put, List.setIfInBounds_toArray, List.set_cons_zero, List.set_cons_succ]
        refine held_take (i := 35) (v := ?_) rfl (by kernel_rfl) (by kernel_rfl) (by kernel_rfl) (fun _ _ _ h => h) (by rfl) (fun wq hSq => ?_) hHeld1 ?_
        rotate_left
        · (try dsimp only at hSq); go_simp; try with_reducible rfl
        simp only [Act.put, List.setIfInBounds_toArray, List.set_cons_zero, List.set_cons_succ]
        refine held_take (i := 36) (v := ?_) rfl (by kernel_rfl) (by kernel_rfl) (by kernel_rfl) (fun _ _ _ h => h) (by rfl) (fun wq hSq => ?_) hHeld1 ?_
        rotate_left
        · (try dsimp only at hSq); go_simp; try with_reducible rfl
        simp only [Act.put, List.setIfInBounds_toArray, List.set_cons_zero, List.set_cons_succ]
        refine held_take (i := 37) (v := ?_) rfl (by kernel_rfl) (by kernel_rfl) (by kernel_rfl) (fun _ _ _ h => h) (by rfl) (fun wq hSq => ?_) hHeld1 ?_
        rotate_left
        · (try dsimp only at hSq); go_simp; try with_reducible rfl
        simp only [Act.put, List.setIfInBounds_toArray, List.set_cons_zero, List.set_cons_succ]
        refine held_take (i := 38) (v := ?_) rfl (by kernel_rfl) (by kernel_rfl) (by kernel_rfl) (fun _ _ _ h => h) (by rfl) (fun wq hSq => ?_) hHeld1 ?_
        rotate_left
        · (try dsimp only at hSq); go_simp; try with_reducible rfl
        simp only [Act.put, List.setIfInBounds_toArray, List.set_cons_zero, List.set_cons_succ]
        refine held_take (i := 39) (v := ?_) rfl (by kernel_rfl) (by kernel_rfl) (by kernel_rfl) (fun _ _ _ h => h) (by rfl) (fun wq hSq => ?_) hHeld1 ?_
        rotate_left
        · (try dsimp only at hSq); go_simp; try with_reducible rfl
        simp only [Act.put, List.setIfInBounds_toArray, List.set_cons_zero, List.set_cons_succ]
        refine held_take (i := 40) (v := ?_) rfl (by kernel_rfl) (by kernel_rfl) (by kernel_rfl) (fun _ _ _ h => h) (by rfl) (fun wq hSq => ?_) hHeld1 ?_
        rotate_left
        · (try dsimp only at hSq); go_simp; try with_reducible rfl
        simp only [Act.put, List.setIfInBounds_toArray, List.set_cons_zero, List.set_cons_succ]
        refine held_take (i := 41) (v := ?_) rfl (by kernel_rfl) (by kernel_rfl) (by kernel_rfl) (fun _ _ _ h => h) (by rfl) (fun wq hSq => ?_) hHeld1 ?_
        rotate_left
        · (try dsimp only at hSq); go_simp; try with_reducible rfl
        simp only [Act.put, List.setIfInBounds_toArray, List.set_cons_zero, List.set_cons_succ]
        refine held_take (i := 42) (v := ?_) rfl (by kernel_rfl) (by kernel_rfl) (by kernel_rfl) (fun _ _ _ h => h) (by rfl) (fun wq hSq => ?_) hHeld1 ?_
        rotate_left
        · (try dsimp only at hSq); go_simp; try with_reducible rfl
        simp only [Act.put, List.setIfInBounds_toArray, List.set_cons_zero, List.set_cons_succ]
        refine held_take (i := 44) (v := ?_) rfl (by kernel_rfl) (by kernel_rfl) (by kernel_rfl) (fun _ _ _ h => h) (by rfl) (fun wq hSq => ?_) hHeld1 ?_
        rotate_left
        · (try dsimp only at hSq); go_simp; try with_reducible rfl
        simp only [Act.put, List.setIfInBounds_toArray, List.set_cons_zero, List.set_cons_succ]
        refine held_step (i := 43) (by kernel_rfl) rfl (by rfl) (fun K hK => ?_)
        go_simp
        refine (num_calls w9 2).mono ?_
        rintro e9 w10 ⟨rfl, rfl⟩
        dsimp only
        refine hK.out _ _ ⟨HF9.out.r3.cell 0 _ rfl, HF9.out.r3.cell 1 _ rfl, HF9.out.r3.cell 2 _ rfl, HF9.out.r3.cell 3 _ rfl, HF9.out.r3.cell 4 _ rfl, HF9.out.r3.cell 5 _ rfl, HF9.out.r1.cell 0 _ rfl, HF9.out.r1.cell 1 _ rfl, HF9.out.r1.cell 2 _ rfl, HF9.out.r1.cell 3 _ rfl, HF9.out.r1.cell 4 _ rfl, HF9.out.r1.cell 5 _ rfl, HF9.out.sh, HF9.out.sb, HA9.out.string, HC9.out.string⟩ (fun hHeld2 => ?_)
        clear hK K hHeld1
        refine held_take (i := 45) (v := ?_) rfl (by kernel_rfl) (by kernel_rfl) (by kernel_rfl) (fun _ _ _ h => h) (by rfl) (fun wq hSq => ?_) hHeld2 ?_
        rotate_left
        · (try dsimp only at hSq); go_simp; try with_reducible rfl
        simp only [Act.put, List.setIfInBounds_toArray, List.set_cons_zero, List.set_cons_succ]
        refine held_take (i := 46) (v := ?_) rfl (by kernel_rfl) (by kernel_rfl) (by kernel_rfl) (fun _ _ _ h => h) (by rfl) (fun wq hSq => ?_) hHeld2 ?_
        rotate_left
        · (try dsimp only at hSq); go_simp; try with_reducible rfl
        simp only [Act.put, List.setIfInBounds_toArray, List.set_cons_zero, List.set_cons_succ]
        refine held_take (i := 47) (v := ?_) rfl (by kernel_rfl) (by kernel_rfl) (by kernel_rfl) (fun _ _ _ h => h) (by rfl) (fun wq hSq => ?_) hHeld2 ?_
        rotate_left
        · (try dsimp only at hSq); go_simp; try with_reducible rfl
        simp only [Act.put, List.setIfInBounds_toArray, List.set_cons_zero, List.set_cons_succ]
        refine held_step (i := 48) (by kernel_rfl) rfl (by rfl) (fun K hK => ?_)
        go_simp
        refine (works_calls w9 (He.out.below HB9.out)).mono ?_
        rintro e9 w11 ⟨rfl, hb11⟩
        dsimp only
        have HF11 := Lib.hid (HF9.out.below hb11)
        have HB11 := Lib.hid (HB9.out.trans (hb11.mono HB9.out.size))
        have HA11 := Lib.hid (HA9.out.below hb11)
        have HC11 := Lib.hid (HC9.out.below hb11)
        clear hb11
        refine hK.out _ _ ⟨HF11.out.r3.cell 0 _ rfl, HF11.out.r3.cell 1 _ rfl, HF11.out.r3.cell 2 _ rfl, HF11.out.r3.cell 3 _ rfl, HF11.out.r3.cell 4 _ rfl, HF11.out.r3.cell 5 _ rfl, HF11.out.r1.cell 0 _ rfl, HF11.out.r1.cell 1 _ rfl, HF11.out.r1.cell 2 _ rfl, HF11.out.r1.cell 3 _ rfl, HF11.out.r1.cell 4 _ rfl, HF11.out.r1.cell 5 _ rfl, HF11.out.sh, HF11.out.sb, HA11.out.string, HC11.out.string⟩ (fun hHeld3 => ?_)
        clear hK K hHeld2
        refine held_take (i := 49) (v := ?_) rfl (by kernel_rfl) (by kernel_rfl) (by kernel_rfl) (fun _ _ _ h => h) (by rfl) (fun wq hSq => ?_) hHeld3 ?_
        rotate_left
        · (try dsimp only at hSq); go_simp; try with_reducible rfl
        simp only [Act.put, List.setIfInBounds_toArray, List.set_cons_zero, List.set_cons_succ]
        refine held_take (i := 50) (v := ?_) rfl (by kernel_rfl) (by kernel_rfl) (by kernel_rfl) (fun _ _ _ h => h) (by rfl) (fun wq hSq => ?_) hHeld3 ?_
        rotate_left
        · (try dsimp only at hSq); go_simp; try with_reducible rfl
        simp only [Act.put, List.setIfInBounds_toArray, List.set_cons_zero, List.set_cons_succ]
        refine wpAnyH_done (by kernel_rfl) ?_ _
        clear hHeld3
        go_wp2_with fail
        go_ret
        exact ⟨rfl, HB11.out⟩
end Go.Proofs.YtgdfgppgfkkncaaGreatDoor
