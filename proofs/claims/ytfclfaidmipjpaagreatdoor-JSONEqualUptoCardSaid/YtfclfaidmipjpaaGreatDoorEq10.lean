/- JSONEqual returns true at any two values whose bulk is 1048576 at most, and leaves them as they were, in every world whose listed variables hold what the program text lays (the tied card). -/
import Derived.Test.YtfclfaidmipjpaaGreatDoorEq07
import Derived.Test.YtfclfaidmipjpaaGreatDoorEq09
namespace Go.Proofs.YtfclfaidmipjpaaGreatDoor
set_option maxRecDepth 100000
set_option maxHeartbeats 20000000
open Go.RowKit
theorem wpList_buildJ2 {w : World} {ops : Array Oper} {rest : List Oper} {o : Oper} {a : Act} {Q : Exit → Act → World → Prop} (hgd : o.guard = none) (x y : Operand) (ho : o.op = .buildSlice 27 2 #[(0, x), (1, y)]) (r q : JR) (hx : a.eval x = jval r) (hy : a.eval y = jval q)
  (hK : ∀ w', RowsJ w' w.heap.size [r, q] → Below w.heap.size w w' → wpList Tryz.prog ops Q rest (a.put o.dst (.slice (some ⟨w.heap.size, 0, none⟩) 2 2)) w') : wpList Tryz.prog ops Q (o :: rest) a w := by
 refine wpList_plain hgd fun K hK' => ?_
 obtain ⟨i0, hi, hz0, hz1, hz2⟩ := info_parts Tryz.info30
 have hR := RowAt.new w (jcells r ++ jcells q).toArray 30
 refine wp_buildSlice _ 30 2 _ ho (jcells r ++ jcells q).toArray i0 _ Tryz.underlying27 hi hz0 (by rw [hz1]; decide) (by rw [hz1]; decide) ?_ (hK' _ _ (hK _ ⟨hR.lt, fun i s hs c v hc => ?_⟩ ((Below.refl _ _).alloc (Nat.le_refl _) _)))
 ·rw [hz1]
  simp only [List.map_toArray, List.map_cons, List.map_nil, hx, hy]
  have h8 : Array.range (2 * 8) = #[0, 1, 2, 3, 4, 5, 6, 7, 8, 9, 10, 11, 12, 13, 14, 15] := by decide
  rw [h8]
  simp [Instr.fill, jval, jcells, Value.cells]
 ·have hc8 : c < 8 := by have := (List.getElem?_eq_some_iff.1 hc).1; exact this
  refine hR.cell _ v ?_
  match i, hs with
  | 0, hs =>
   simp only [List.getElem?_cons_zero, Option.some.injEq] at hs
   subst hs
   show (jcells r ++ jcells q)[0 * 8 + c]? = some v
   rw [Nat.zero_mul, Nat.zero_add, List.getElem?_append_left (by exact hc8)]
   exact hc
  | 1, hs =>
   simp only [List.getElem?_cons_succ, List.getElem?_cons_zero, Option.some.injEq] at hs
   subst hs
   show (jcells r ++ jcells q)[1 * 8 + c]? = some v
   rw [List.getElem?_append_right (by show 8 ≤ _; omega), show 1 * 8 + c - (jcells r).length = c by show 1 * 8 + c - 8 = c; omega]
   exact hc
  | i + 2, hs => simp at hs
structure EqF (w wr : World) (g0 g1 : Nat) (r0 r1 : JR) : Prop where
 env : EnvJ wr
 j0 : JV wr (fun _ => True) r0
 j1 : JV wr (fun _ => True) r1
 v0 : RowAt wr g0 (jcells r0)
 v1 : RowAt wr g1 (jcells r1)
 be : Below w.heap.size w wr
theorem EqF.step {w wr w' : World} {g0 g1 : Nat} {r0 r1 : JR} (h : EqF w wr g0 g1 r0 r1) (hb : Below wr.heap.size wr w') : EqF w w' g0 g1 r0 r1 :=
 ⟨h.env.below hb (Nat.le_refl _), h.j0.bel hb, h.j1.bel hb, h.v0.below hb, h.v1.below hb, h.be.trans (hb.mono h.be.size)⟩
def GdP (gd : Bool) (c0 c1 : Int) : Prop := gd = true ↔ c0 = 0 ∧ c1 = 0
theorem eq_ways {a b : J} {x y : Bool} (h : x = true ↔ checkJ a = 0 ∧ checkJ b = 0 ∧ sortJ a = sortJ b) (k : y = true ↔ checkJ b = 0 ∧ checkJ a = 0 ∧ sortJ b = sortJ a) : y = x := by
 rw [Bool.eq_iff_iff, h, k]
 exact ⟨fun e => ⟨e.2.1, e.1, e.2.2.symm⟩, fun e => ⟨e.2.1, e.1, e.2.2.symm⟩⟩
theorem jequal_calls (w : World) (he : EnvJ w) (r0 r1 : JR) (hj0 : JV w (fun _ => True) r0) (hsz0 : szJ r0.1 ≤ 20000000) (hj1 : JV w (fun _ => True) r1) (hsz1 : szJ r1.1 ≤ 20000000) : Calls Tryz.prog 8 #[jval r0, jval r1] w fun e w' => e = .returned (.bool true) ∧ Below w.heap.size w w' := by
 have HE := Lib.hid he
 have HJ0 := Lib.hid hj0
 have HJ1 := Lib.hid hj1
 have HZ0 := Lib.hid hsz0
 have HZ1 := Lib.hid hsz1
 clear he hj0 hj1 hsz0 hsz1
 go_enter Tryz.func8, Tryz.ntmps8
 go_upto_region 1 with (first | (refine wpList_boxJ rfl _ rfl r0 rfl ?_; intro wb1 hBx1) | (refine wpList_boxJ rfl _ rfl r1 rfl ?_; intro wb2 hBx2))
 have hb : Below w.heap.size w wb2 := hBx2.below hBx1.be hBx1.be.size
 have HF : Hid (EqF w wb2 w.heap.size wb1.heap.size r0 r1) := Lib.hid ⟨HE.out.below hb (Nat.le_refl _), HJ0.out.bel hb, HJ1.out.bel hb, hBx1.row.below hBx2.be, hBx2.row, hb⟩
 obtain ⟨g0, hg0⟩ : ∃ g, w.heap.size = g := ⟨_, rfl⟩
 obtain ⟨g1, hg1⟩ : ∃ g, wb1.heap.size = g := ⟨_, rfl⟩
 have HF : Hid (EqF w wb2 g0 g1 r0 r1) := Lib.hid (by subst hg0 hg1; exact HF.out)
 try rw [hg0]
 try rw [hg1]
 clear hBx1 hBx2 hg0 hg1 hb HE HJ0 HJ1
 go_wp2_with (first | refine wpList_loadJ rfl _ rfl r0 HF.out.v0 rfl ?_ | refine wpList_loadJ rfl _ rfl r1 HF.out.v1 rfl ?_ | (refine wpList_buildJ2 rfl _ _ rfl r0 r1 rfl rfl ?_; intro w2 hrs hb))
 replace HF := Lib.hid (HF.out.step hb)
 clear hb
 refine (small_calls w2 _ [r0, r1] hrs (fun r hr => by rcases List.mem_cons.1 hr with rfl | hr; (exact ⟨_, HF.out.j0⟩); rw [List.mem_singleton.1 hr]; exact ⟨_, HF.out.j1⟩) (fun r hr => by rcases List.mem_cons.1 hr with rfl | hr; (exact HZ0.out); rw [List.mem_singleton.1 hr]; exact HZ1.out) (by simp)).mono ?_
 rintro e w3 ⟨bs, rfl, hb⟩
 clear hrs
 replace HF := Lib.hid (HF.out.step hb)
 clear hb
 cases bs with
 | false =>
  go_wp2_with fail
  refine (works_calls w3 HF.out.env).mono ?_
  rintro e w4 ⟨rfl, hb⟩
  replace HF := Lib.hid (HF.out.step hb)
  clear hb
  go_wp2_with fail
  go_ret
  exact ⟨rfl, HF.out.be⟩
 | true =>
  obtain ⟨c0, hc0⟩ : ∃ c, checkJ r0.1 = c := ⟨_, rfl⟩
  obtain ⟨c1, hc1⟩ : ∃ c, checkJ r1.1 = c := ⟨_, rfl⟩
  have HC0 := Lib.hid hc0
  have HC1 := Lib.hid hc1
  clear hc0 hc1
  go_upto_region 3 with fail
  go_cut [5] from 12 to 19 (fun s5 wc => ∃ gd : Bool, s5 = .bool gd ∧ GdP gd c0 c1 ∧ EqF w wc g0 g1 r0 r1)
  case first =>
   by_cases hc0 : c0 = 0
   rotate_left
   ·
    have n0 : ((c0 : Int) == 0) = false := by rw [beq_eq_false_iff_ne]; exact hc0
    go_wp2_with (first | refine wpList_loadJ rfl _ rfl r0 HF.out.v0 rfl ?_ | refine wpList_loadJ rfl _ rfl r1 HF.out.v1 rfl ?_)
    refine (checkR_calls (r1 := r0) HF.out.j0 HF.out.env.tab w3 (Below.refl _ _) HZ0.out).mono ?_
    rintro e w5 ⟨rfl, hb⟩
    rw [HC0.out]
    replace HF := Lib.hid (HF.out.step hb)
    clear hb
    go_wp2_with fail
    go_meet
    exact ⟨false, rfl, ⟨fun h => (by cases h), fun h => absurd h.1 hc0⟩, HF.out⟩
   subst hc0
   go_wp2_with (first | refine wpList_loadJ rfl _ rfl r0 HF.out.v0 rfl ?_ | refine wpList_loadJ rfl _ rfl r1 HF.out.v1 rfl ?_)
   refine (checkR_calls (r1 := r0) HF.out.j0 HF.out.env.tab w3 (Below.refl _ _) HZ0.out).mono ?_
   rintro e w6 ⟨rfl, hb⟩
   rw [HC0.out]
   replace HF := Lib.hid (HF.out.step hb)
   clear hb
   have k0 : w6.cell? ⟨g1, 0, none⟩ = some (.int .i64 r1.1.kind) := HF.out.v1.cell 0 _ rfl
   have k1 : w6.cell? ⟨g1, 1, none⟩ = some (.bool r1.1.b) := HF.out.v1.cell 1 _ rfl
   have k2 : w6.cell? ⟨g1, 2, none⟩ = some (.bool r1.1.n.neg) := HF.out.v1.cell 2 _ rfl
   have k3 : w6.cell? ⟨g1, 3, none⟩ = some (.string ⟨r1.1.n.digits.toArray⟩) := HF.out.v1.cell 3 _ rfl
   have k4 : w6.cell? ⟨g1, 4, none⟩ = some (.int .i64 r1.1.n.exp) := HF.out.v1.cell 4 _ rfl
   have k5 : w6.cell? ⟨g1, 5, none⟩ = some (.string ⟨r1.1.t.toArray⟩) := HF.out.v1.cell 5 _ rfl
   have k6 : w6.cell? ⟨g1, 6, none⟩ = some (r1.2.1) := HF.out.v1.cell 6 _ rfl
   have k7 : w6.cell? ⟨g1, 7, none⟩ = some (r1.2.2) := HF.out.v1.cell 7 _ rfl
   go_wp2_with fail
   refine (checkR_calls (r1 := r1) HF.out.j1 HF.out.env.tab w6 (Below.refl _ _) HZ1.out).mono ?_
   rintro e w7 ⟨rfl, hb⟩
   rw [HC1.out]
   replace HF := Lib.hid (HF.out.step hb)
   clear hb
   clear k0 k1 k2 k3 k4 k5 k6 k7
   by_cases hc1 : c1 = 0
   rotate_left
   ·
    have n1 : ((c1 : Int) == 0) = false := by rw [beq_eq_false_iff_ne]; exact hc1
    go_wp2_with fail
    go_meet
    exact ⟨false, rfl, ⟨fun h => (by cases h), fun h => absurd h.2 hc1⟩, HF.out⟩
   subst hc1
   go_wp2_with fail
   go_meet
   exact ⟨true, rfl, ⟨fun _ => ⟨rfl, rfl⟩, fun _ => rfl⟩, HF.out⟩
  obtain ⟨gd, rfl, hgd, hf⟩ := hcut
  have HG := Lib.hid hgd
  clear HF
  have HF := Lib.hid hf
  clear hf hgd
  obtain ⟨z0, hz0⟩ : ∃ z : Bool, ((c0 : Int) == 0) = z := ⟨_, rfl⟩
  have HZC : Hid (z0 = true ↔ c0 = 0) := Lib.hid (by rw [← hz0, beq_iff_eq])
  cases gd with
  | false =>
   have hS0 : (fun wq => RowAt wq g0 (jcells r0) ∧ RowAt wq g1 (jcells r1)) wc.drew := ⟨HF.out.v0.below (Below.refl _ _).drew, HF.out.v1.below (Below.refl _ _).drew⟩
   go_upto_region 4 with fail
   have hb : Below wc.heap.size wc wc.drew := (Below.refl _ _).drew
   refine wp_region_held_drew (S := (fun wq => RowAt wq g0 (jcells r0) ∧ RowAt wq g1 (jcells r1))) (by kernel_rfl) hS0 (fun hHeld0 => ?_)
   generalize wc.drew = wd at *
   replace HF := Lib.hid (HF.out.step hb)
   clear hb
   refine held_take (i := 0) (v := jval r0) rfl (by kernel_rfl) (by kernel_rfl) (by kernel_rfl) (fun _ _ _ h => h) (by rfl) (fun wq hSq => exec_loadJ _ rfl rfl r0 hSq.1) hHeld0 ?_
   simp only [Act.put, sbA, sbB, sbC]
   refine held_take (i := 1) (v := jval r1) rfl (by kernel_rfl) (by kernel_rfl) (by kernel_rfl) (fun _ _ _ h => h) (by rfl) (fun wq hSq => exec_loadJ _ rfl rfl r1 hSq.2) hHeld0 ?_
   simp only [Act.put, sbA, sbB, sbC]
   refine held_tk 3 ?_ (fun wq hSq => ?_) hHeld0 ?_
   rotate_left
   ·(try dsimp only at hSq); go_simp; try with_reducible rfl
   simp only [Act.put, sbA, sbB, sbC]
   refine held_step (i := 2) (by kernel_rfl) rfl (by rfl) (fun K hK => ?_)
   go_simp
   refine (equalJ_calls (r1 := r0) (r2 := r1) HF.out.j0 HF.out.j1 HF.out.env.tab HF.out.env.utf wd (Below.refl _ _) HZ0.out HZ1.out).mono ?_
   rintro e w8 ⟨⟨bb, rfl, hbb⟩, hb⟩
   replace HF := Lib.hid (HF.out.step hb)
   clear hb
   have HQ := Lib.hid hbb
   obtain rfl : bb = false := by
    cases bb with
    | false => rfl
    | true => have h9 := hbb.1 rfl; rw [HC0.out, HC1.out] at h9; exact absurd (HG.out.2 ⟨h9.1, h9.2.1⟩) (by decide)
   clear hbb
   refine hK.out _ _ ⟨HF.out.v0, HF.out.v1⟩ (fun hHeld1 => ?_)
   clear hK K hHeld0
   refine held_tk 4 ?_ (fun wq hSq => ?_) hHeld1 ?_
   rotate_left
   ·(try dsimp only at hSq); go_simp; try with_reducible rfl
   simp only [Act.put, sbA, sbB, sbC]
   refine held_skip (i := 5) rfl (by kernel_rfl) (by kernel_rfl) (by kernel_rfl) (fun _ _ _ h => h) (by rfl) hHeld1 ?_
   simp only [Act.put, sbA, sbB, sbC]
   refine held_skip (i := 6) rfl (by kernel_rfl) (by kernel_rfl) (by kernel_rfl) (fun _ _ _ h => h) (by rfl) hHeld1 ?_
   simp only [Act.put, sbA, sbB, sbC]
   refine held_skip (i := 7) rfl (by kernel_rfl) (by kernel_rfl) (by kernel_rfl) (fun _ _ _ h => h) (by rfl) hHeld1 ?_
   simp only [Act.put, sbA, sbB, sbC]
   refine held_skip (i := 8) rfl (by kernel_rfl) (by kernel_rfl) (by kernel_rfl) (fun _ _ _ h => h) (by rfl) hHeld1 ?_
   simp only [Act.put, sbA, sbB, sbC]
   refine held_skip (i := 9) rfl (by kernel_rfl) (by kernel_rfl) (by kernel_rfl) (fun _ _ _ h => h) (by rfl) hHeld1 ?_
   simp only [Act.put, sbA, sbB, sbC]
   refine held_tk 10 ?_ (fun wq hSq => ?_) hHeld1 ?_
   rotate_left
   ·(try dsimp only at hSq); go_simp; try with_reducible rfl
   simp only [Act.put, sbA, sbB, sbC]
   refine held_tk 11 ?_ (fun wq hSq => ?_) hHeld1 ?_
   rotate_left
   ·(try dsimp only at hSq); go_simp; try with_reducible rfl
   simp only [Act.put, sbA, sbB, sbC]
   refine held_tk 12 ?_ (fun wq hSq => ?_) hHeld1 ?_
   rotate_left
   ·(try dsimp only at hSq); go_simp; try with_reducible rfl
   simp only [Act.put, sbA, sbB, sbC]
   refine held_take (i := 13) (v := jval r1) rfl (by kernel_rfl) (by kernel_rfl) (by kernel_rfl) (fun _ _ _ h => h) (by rfl) (fun wq hSq => exec_loadJ _ rfl rfl r1 hSq.2) hHeld1 ?_
   simp only [Act.put, sbA, sbB, sbC]
   refine held_take (i := 14) (v := jval r0) rfl (by kernel_rfl) (by kernel_rfl) (by kernel_rfl) (fun _ _ _ h => h) (by rfl) (fun wq hSq => exec_loadJ _ rfl rfl r0 hSq.1) hHeld1 ?_
   simp only [Act.put, sbA, sbB, sbC]
   refine held_take (i := 16) (v := jval r0) rfl (by kernel_rfl) (by kernel_rfl) (by kernel_rfl) (fun _ _ _ h => h) (by rfl) (fun wq hSq => exec_loadJ _ rfl rfl r0 hSq.1) hHeld1 ?_
   simp only [Act.put, sbA, sbB, sbC]
   refine held_take (i := 17) (v := jval r1) rfl (by kernel_rfl) (by kernel_rfl) (by kernel_rfl) (fun _ _ _ h => h) (by rfl) (fun wq hSq => exec_loadJ _ rfl rfl r1 hSq.2) hHeld1 ?_
   simp only [Act.put, sbA, sbB, sbC]
   refine held_step (i := 15) (by kernel_rfl) rfl (by rfl) (fun K hK => ?_)
   go_simp
   refine (equalJ_calls (r1 := r1) (r2 := r0) HF.out.j1 HF.out.j0 HF.out.env.tab HF.out.env.utf w8 (Below.refl _ _) HZ1.out HZ0.out).mono ?_
   rintro e w9 ⟨⟨bb, rfl, hbb⟩, hb⟩
   replace HF := Lib.hid (HF.out.step hb)
   clear hb
   obtain rfl : false = bb := Eq.symm (eq_ways HQ.out hbb)
   clear hbb
   refine hK.out _ _ ⟨HF.out.v0, HF.out.v1⟩ (fun hHeld2 => ?_)
   clear hK K hHeld1
   refine held_step (i := 18) (by kernel_rfl) rfl (by rfl) (fun K hK => ?_)
   go_simp
   refine (equalJ_calls (r1 := r0) (r2 := r1) HF.out.j0 HF.out.j1 HF.out.env.tab HF.out.env.utf w9 (Below.refl _ _) HZ0.out HZ1.out).mono ?_
   rintro e w10 ⟨⟨bb, rfl, hbb⟩, hb⟩
   replace HF := Lib.hid (HF.out.step hb)
   clear hb
   obtain rfl : false = bb := Eq.symm (by rw [Bool.eq_iff_iff, hbb, HQ.out])
   clear hbb
   refine hK.out _ _ ⟨HF.out.v0, HF.out.v1⟩ (fun hHeld3 => ?_)
   clear hK K hHeld2
   refine held_tk 19 ?_ (fun wq hSq => ?_) hHeld3 ?_
   rotate_left
   ·(try dsimp only at hSq); go_simp; try with_reducible rfl
   simp only [Act.put, sbA, sbB, sbC]
   refine held_tk 20 ?_ (fun wq hSq => ?_) hHeld3 ?_
   rotate_left
   ·(try dsimp only at hSq); go_simp; try with_reducible rfl
   simp only [Act.put, sbA, sbB, sbC]
   refine held_tk 21 ?_ (fun wq hSq => ?_) hHeld3 ?_
   rotate_left
   ·(try dsimp only at hSq); go_simp; try with_reducible rfl
   simp only [Act.put, sbA, sbB, sbC]
   refine held_take (i := 22) (v := jval r0) rfl (by kernel_rfl) (by kernel_rfl) (by kernel_rfl) (fun _ _ _ h => h) (by rfl) (fun wq hSq => exec_loadJ _ rfl rfl r0 hSq.1) hHeld3 ?_
   simp only [Act.put, sbA, sbB, sbC]
   refine held_take (i := 23) (v := jval r0) rfl (by kernel_rfl) (by kernel_rfl) (by kernel_rfl) (fun _ _ _ h => h) (by rfl) (fun wq hSq => exec_loadJ _ rfl rfl r0 hSq.1) hHeld3 ?_
   simp only [Act.put, sbA, sbB, sbC]
   refine held_take (i := 25) (v := jval r0) rfl (by kernel_rfl) (by kernel_rfl) (by kernel_rfl) (fun _ _ _ h => h) (by rfl) (fun wq hSq => exec_loadJ _ rfl rfl r0 hSq.1) hHeld3 ?_
   simp only [Act.put, sbA, sbB, sbC]
   refine held_step (i := 24) (by kernel_rfl) rfl (by rfl) (fun K hK => ?_)
   go_simp
   refine (equalJ_calls (r1 := r0) (r2 := r0) HF.out.j0 HF.out.j0 HF.out.env.tab HF.out.env.utf w10 (Below.refl _ _) HZ0.out HZ0.out).mono ?_
   rintro e w11 ⟨⟨bb, rfl, hbb⟩, hb⟩
   replace HF := Lib.hid (HF.out.step hb)
   clear hb
   obtain rfl : bb = z0 := by rw [Bool.eq_iff_iff, hbb, HZC.out, HC0.out]; exact ⟨fun e => e.1, fun e => ⟨e, e, rfl⟩⟩
   clear hbb
   refine hK.out _ _ ⟨HF.out.v0, HF.out.v1⟩ (fun hHeld4 => ?_)
   clear hK K hHeld3
   refine held_step (i := 26) (by kernel_rfl) rfl (by rfl) (fun K hK => ?_)
   go_simp
   refine (checkR_calls (r1 := r0) HF.out.j0 HF.out.env.tab w11 (Below.refl _ _) HZ0.out).mono ?_
   rintro e w12 ⟨rfl, hb⟩
   rw [HC0.out]
   replace HF := Lib.hid (HF.out.step hb)
   clear hb
   refine hK.out _ _ ⟨HF.out.v0, HF.out.v1⟩ (fun hHeld5 => ?_)
   clear hK K hHeld4
   refine held_tk 27 ?_ (fun wq hSq => ?_) hHeld5 ?_
   rotate_left
   ·(try dsimp only at hSq); go_simp; try with_reducible rfl
   simp only [Act.put, sbA, sbB, sbC]
   refine held_tk 28 ?_ (fun wq hSq => ?_) hHeld5 ?_
   rotate_left
   ·(try dsimp only at hSq); go_simp; try with_reducible rfl
   simp only [Act.put, sbA, sbB, sbC]
   refine held_tk 29 ?_ (fun wq hSq => ?_) hHeld5 ?_
   rotate_left
   ·(try dsimp only at hSq); go_simp; try with_reducible rfl
   simp only [Act.put, sbA, sbB, sbC]
   refine held_tk 30 ?_ (fun wq hSq => ?_) hHeld5 ?_
   rotate_left
   ·(try dsimp only at hSq); go_simp; try with_reducible rfl
   simp only [Act.put, sbA, sbB, sbC]
   refine held_step (i := 31) (by kernel_rfl) rfl (by rfl) (fun K hK => ?_)
   go_simp
   refine (works_calls w12 HF.out.env).mono ?_
   rintro e w13 ⟨rfl, hb⟩
   replace HF := Lib.hid (HF.out.step hb)
   clear hb
   refine hK.out _ _ ⟨HF.out.v0, HF.out.v1⟩ (fun hHeld6 => ?_)
   clear hK K hHeld5
   refine held_tk 32 ?_ (fun wq hSq => ?_) hHeld6 ?_
   rotate_left
   ·(try dsimp only at hSq); go_simp; try with_reducible rfl
   simp only [Act.put, sbA, sbB, sbC]
   refine held_tk 33 ?_ (fun wq hSq => ?_) hHeld6 ?_
   rotate_left
   ·(try dsimp only at hSq); go_simp; try with_reducible rfl
   simp only [Act.put, sbA, sbB, sbC]
   refine wpAnyH_done (by kernel_rfl) ?_ _
   clear hHeld6
   go_wp2_with fail
   go_ret
   exact ⟨rfl, HF.out.be⟩
  | true =>
   have hS0 : (fun wq => RowAt wq g0 (jcells r0) ∧ RowAt wq g1 (jcells r1)) wc.drew := ⟨HF.out.v0.below (Below.refl _ _).drew, HF.out.v1.below (Below.refl _ _).drew⟩
   go_upto_region 4 with fail
   have hb : Below wc.heap.size wc wc.drew := (Below.refl _ _).drew
   refine wp_region_held_drew (S := (fun wq => RowAt wq g0 (jcells r0) ∧ RowAt wq g1 (jcells r1))) (by kernel_rfl) hS0 (fun hHeld0 => ?_)
   generalize wc.drew = wd at *
   replace HF := Lib.hid (HF.out.step hb)
   clear hb
   refine held_take (i := 0) (v := jval r0) rfl (by kernel_rfl) (by kernel_rfl) (by kernel_rfl) (fun _ _ _ h => h) (by rfl) (fun wq hSq => exec_loadJ _ rfl rfl r0 hSq.1) hHeld0 ?_
   simp only [Act.put, sbA, sbB, sbC]
   refine held_take (i := 1) (v := jval r1) rfl (by kernel_rfl) (by kernel_rfl) (by kernel_rfl) (fun _ _ _ h => h) (by rfl) (fun wq hSq => exec_loadJ _ rfl rfl r1 hSq.2) hHeld0 ?_
   simp only [Act.put, sbA, sbB, sbC]
   refine held_tk 3 ?_ (fun wq hSq => ?_) hHeld0 ?_
   rotate_left
   ·(try dsimp only at hSq); go_simp; try with_reducible rfl
   simp only [Act.put, sbA, sbB, sbC]
   refine held_step (i := 2) (by kernel_rfl) rfl (by rfl) (fun K hK => ?_)
   go_simp
   refine (equalJ_calls (r1 := r0) (r2 := r1) HF.out.j0 HF.out.j1 HF.out.env.tab HF.out.env.utf wd (Below.refl _ _) HZ0.out HZ1.out).mono ?_
   rintro e w14 ⟨⟨bb, rfl, hbb⟩, hb⟩
   replace HF := Lib.hid (HF.out.step hb)
   clear hb
   have HQ := Lib.hid hbb
   clear hbb
   obtain ⟨q, hq⟩ : ∃ q, bb = q := ⟨_, rfl⟩
   rw [hq] at HQ ⊢
   clear hq
   refine hK.out _ _ ⟨HF.out.v0, HF.out.v1⟩ (fun hHeld1 => ?_)
   clear hK K hHeld0
   refine held_tk 4 ?_ (fun wq hSq => ?_) hHeld1 ?_
   rotate_left
   ·(try dsimp only at hSq); go_simp; try with_reducible rfl
   simp only [Act.put, sbA, sbB, sbC]
   refine held_take (i := 5) (v := jval r0) rfl (by kernel_rfl) (by kernel_rfl) (by kernel_rfl) (fun _ _ _ h => h) (by rfl) (fun wq hSq => exec_loadJ _ rfl rfl r0 hSq.1) hHeld1 ?_
   simp only [Act.put, sbA, sbB, sbC]
   refine held_take (i := 7) (v := jval r1) rfl (by kernel_rfl) (by kernel_rfl) (by kernel_rfl) (fun _ _ _ h => h) (by rfl) (fun wq hSq => exec_loadJ _ rfl rfl r1 hSq.2) hHeld1 ?_
   simp only [Act.put, sbA, sbB, sbC]
   refine held_step (i := 6) (by kernel_rfl) rfl (by rfl) (fun K hK => ?_)
   go_simp
   refine (sortedR_calls (r1 := r0) HF.out.j0 w14 (Below.refl _ _) (checkJ_zero.1 (HC0.out.trans (HG.out.1 rfl).1)).1 HZ0.out).mono ?_
   rintro e w15 ⟨lv0, nv0, rfl, hj, hb⟩
   have HJq0 := Lib.hid hj
   clear hj
   replace HF := Lib.hid (HF.out.step hb)
   clear hb
   refine hK.out _ _ ⟨HF.out.v0, HF.out.v1⟩ (fun hHeld2 => ?_)
   clear hK K hHeld1
   refine held_step (i := 8) (by kernel_rfl) rfl (by rfl) (fun K hK => ?_)
   go_simp
   refine (sortedR_calls (r1 := r1) HF.out.j1 w15 (Below.refl _ _) (checkJ_zero.1 (HC1.out.trans (HG.out.1 rfl).2)).1 HZ1.out).mono ?_
   rintro e w16 ⟨lv1, nv1, rfl, hj, hb⟩
   have HJq1 := Lib.hid hj
   clear hj
   replace HJq0 := Lib.hid (HJq0.out.bel hb)
   replace HF := Lib.hid (HF.out.step hb)
   clear hb
   refine hK.out _ _ ⟨HF.out.v0, HF.out.v1⟩ (fun hHeld3 => ?_)
   clear hK K hHeld2
   refine held_step (i := 9) (by kernel_rfl) rfl (by rfl) (fun K hK => ?_)
   go_simp
   refine (sameR_calls HJq0.out _ _ w16 (Below.refl _ _) HJq1.out).mono ?_
   rintro e w17 ⟨bb, rfl, hbb, hb⟩
   obtain rfl : q = bb := Eq.symm <| by rw [Bool.eq_iff_iff, HQ.out, hbb]; exact ⟨fun e => ⟨HC0.out.trans (HG.out.1 rfl).1, HC1.out.trans (HG.out.1 rfl).2, e⟩, fun e => e.2.2⟩
   clear hbb
   replace HF := Lib.hid (HF.out.step hb)
   clear hb
   refine hK.out _ _ ⟨HF.out.v0, HF.out.v1⟩ (fun hHeld4 => ?_)
   clear hK K hHeld3
   refine held_tk 10 ?_ (fun wq hSq => ?_) hHeld4 ?_
   rotate_left
   ·(try dsimp only at hSq); go_simp; try with_reducible rfl
   simp only [Act.put, sbA, sbB, sbC]
   refine held_tk 11 ?_ (fun wq hSq => ?_) hHeld4 ?_
   rotate_left
   ·(try dsimp only at hSq); go_simp; try with_reducible rfl
   simp only [Act.put, sbA, sbB, sbC]
   refine held_tk 12 ?_ (fun wq hSq => ?_) hHeld4 ?_
   rotate_left
   ·(try dsimp only at hSq); go_simp; try with_reducible rfl
   simp only [Act.put, sbA, sbB, sbC]
   refine held_take (i := 13) (v := jval r1) rfl (by kernel_rfl) (by kernel_rfl) (by kernel_rfl) (fun _ _ _ h => h) (by rfl) (fun wq hSq => exec_loadJ _ rfl rfl r1 hSq.2) hHeld4 ?_
   simp only [Act.put, sbA, sbB, sbC]
   refine held_take (i := 14) (v := jval r0) rfl (by kernel_rfl) (by kernel_rfl) (by kernel_rfl) (fun _ _ _ h => h) (by rfl) (fun wq hSq => exec_loadJ _ rfl rfl r0 hSq.1) hHeld4 ?_
   simp only [Act.put, sbA, sbB, sbC]
   refine held_take (i := 16) (v := jval r0) rfl (by kernel_rfl) (by kernel_rfl) (by kernel_rfl) (fun _ _ _ h => h) (by rfl) (fun wq hSq => exec_loadJ _ rfl rfl r0 hSq.1) hHeld4 ?_
   simp only [Act.put, sbA, sbB, sbC]
   refine held_take (i := 17) (v := jval r1) rfl (by kernel_rfl) (by kernel_rfl) (by kernel_rfl) (fun _ _ _ h => h) (by rfl) (fun wq hSq => exec_loadJ _ rfl rfl r1 hSq.2) hHeld4 ?_
   simp only [Act.put, sbA, sbB, sbC]
   refine held_step (i := 15) (by kernel_rfl) rfl (by rfl) (fun K hK => ?_)
   go_simp
   refine (equalJ_calls (r1 := r1) (r2 := r0) HF.out.j1 HF.out.j0 HF.out.env.tab HF.out.env.utf w17 (Below.refl _ _) HZ1.out HZ0.out).mono ?_
   rintro e w18 ⟨⟨bb, rfl, hbb⟩, hb⟩
   replace HF := Lib.hid (HF.out.step hb)
   clear hb
   obtain rfl : q = bb := Eq.symm (eq_ways HQ.out hbb)
   clear hbb
   refine hK.out _ _ ⟨HF.out.v0, HF.out.v1⟩ (fun hHeld5 => ?_)
   clear hK K hHeld4
   refine held_step (i := 18) (by kernel_rfl) rfl (by rfl) (fun K hK => ?_)
   go_simp
   refine (equalJ_calls (r1 := r0) (r2 := r1) HF.out.j0 HF.out.j1 HF.out.env.tab HF.out.env.utf w18 (Below.refl _ _) HZ0.out HZ1.out).mono ?_
   rintro e w19 ⟨⟨bb, rfl, hbb⟩, hb⟩
   replace HF := Lib.hid (HF.out.step hb)
   clear hb
   obtain rfl : q = bb := Eq.symm (by rw [Bool.eq_iff_iff, hbb, HQ.out])
   clear hbb
   refine hK.out _ _ ⟨HF.out.v0, HF.out.v1⟩ (fun hHeld6 => ?_)
   clear hK K hHeld5
   refine held_tk 19 ?_ (fun wq hSq => ?_) hHeld6 ?_
   rotate_left
   ·(try dsimp only at hSq); go_simp; try with_reducible rfl
   simp only [Act.put, sbA, sbB, sbC]
   refine held_tk 20 ?_ (fun wq hSq => ?_) hHeld6 ?_
   rotate_left
   ·(try dsimp only at hSq); go_simp; try with_reducible rfl
   simp only [Act.put, sbA, sbB, sbC]
   refine held_tk 21 ?_ (fun wq hSq => ?_) hHeld6 ?_
   rotate_left
   ·(try dsimp only at hSq); go_simp; try with_reducible rfl
   simp only [Act.put, sbA, sbB, sbC]
   refine held_take (i := 22) (v := jval r0) rfl (by kernel_rfl) (by kernel_rfl) (by kernel_rfl) (fun _ _ _ h => h) (by rfl) (fun wq hSq => exec_loadJ _ rfl rfl r0 hSq.1) hHeld6 ?_
   simp only [Act.put, sbA, sbB, sbC]
   refine held_take (i := 23) (v := jval r0) rfl (by kernel_rfl) (by kernel_rfl) (by kernel_rfl) (fun _ _ _ h => h) (by rfl) (fun wq hSq => exec_loadJ _ rfl rfl r0 hSq.1) hHeld6 ?_
   simp only [Act.put, sbA, sbB, sbC]
   refine held_take (i := 25) (v := jval r0) rfl (by kernel_rfl) (by kernel_rfl) (by kernel_rfl) (fun _ _ _ h => h) (by rfl) (fun wq hSq => exec_loadJ _ rfl rfl r0 hSq.1) hHeld6 ?_
   simp only [Act.put, sbA, sbB, sbC]
   refine held_step (i := 24) (by kernel_rfl) rfl (by rfl) (fun K hK => ?_)
   go_simp
   refine (equalJ_calls (r1 := r0) (r2 := r0) HF.out.j0 HF.out.j0 HF.out.env.tab HF.out.env.utf w19 (Below.refl _ _) HZ0.out HZ0.out).mono ?_
   rintro e w20 ⟨⟨bb, rfl, hbb⟩, hb⟩
   replace HF := Lib.hid (HF.out.step hb)
   clear hb
   obtain rfl : bb = z0 := by rw [Bool.eq_iff_iff, hbb, HZC.out, HC0.out]; exact ⟨fun e => e.1, fun e => ⟨e, e, rfl⟩⟩
   clear hbb
   refine hK.out _ _ ⟨HF.out.v0, HF.out.v1⟩ (fun hHeld7 => ?_)
   clear hK K hHeld6
   refine held_step (i := 26) (by kernel_rfl) rfl (by rfl) (fun K hK => ?_)
   go_simp
   refine (checkR_calls (r1 := r0) HF.out.j0 HF.out.env.tab w20 (Below.refl _ _) HZ0.out).mono ?_
   rintro e w21 ⟨rfl, hb⟩
   rw [HC0.out]
   replace HF := Lib.hid (HF.out.step hb)
   clear hb
   refine hK.out _ _ ⟨HF.out.v0, HF.out.v1⟩ (fun hHeld8 => ?_)
   clear hK K hHeld7
   refine held_tk 27 ?_ (fun wq hSq => ?_) hHeld8 ?_
   rotate_left
   ·(try dsimp only at hSq); go_simp; try with_reducible rfl
   simp only [Act.put, sbA, sbB, sbC]
   refine held_tk 28 ?_ (fun wq hSq => ?_) hHeld8 ?_
   rotate_left
   ·(try dsimp only at hSq); go_simp; try with_reducible rfl
   simp only [Act.put, sbA, sbB, sbC]
   refine held_tk 29 ?_ (fun wq hSq => ?_) hHeld8 ?_
   rotate_left
   ·(try dsimp only at hSq); go_simp; try with_reducible rfl
   simp only [Act.put, sbA, sbB, sbC]
   refine held_tk 30 ?_ (fun wq hSq => ?_) hHeld8 ?_
   rotate_left
   ·(try dsimp only at hSq); go_simp; try with_reducible rfl
   simp only [Act.put, sbA, sbB, sbC]
   refine held_step (i := 31) (by kernel_rfl) rfl (by rfl) (fun K hK => ?_)
   go_simp
   refine (works_calls w21 HF.out.env).mono ?_
   rintro e w22 ⟨rfl, hb⟩
   replace HF := Lib.hid (HF.out.step hb)
   clear hb
   refine hK.out _ _ ⟨HF.out.v0, HF.out.v1⟩ (fun hHeld9 => ?_)
   clear hK K hHeld8
   refine held_tk 32 ?_ (fun wq hSq => ?_) hHeld9 ?_
   rotate_left
   ·(try dsimp only at hSq); go_simp; try with_reducible rfl
   simp only [Act.put, sbA, sbB, sbC]
   refine held_tk 33 ?_ (fun wq hSq => ?_) hHeld9 ?_
   rotate_left
   ·(try dsimp only at hSq); go_simp; try with_reducible rfl
   simp only [Act.put, sbA, sbB, sbC]
   refine wpAnyH_done (by kernel_rfl) ?_ _
   clear hHeld9
   go_wp2_with fail
   go_ret
   exact ⟨rfl, HF.out.be⟩
open Go.ChangeShapes Go.WideShapes Go.ChangeAt Go.RowKit
open Go.ChangeMaps (open_string shut_string)
theorem jequal_laid : Rows.jSONEqualUptoRow.laid = laidAll := by rfl
theorem jequal_contract (H : Type) (enc : TypeId × Value → H) (W : World) (base : Nat) (args : Array Value) (ds gs : List (DataW H)) (before : List MemPlace)
  (hval : ∀ (j : Nat) t v, Tryz.f8.params[j]? = some t → args[j]? = some v → Value.okWide Tryz.prog W .any base t v)
  (hW : DataW.Whole enc Tryz.prog Tryz.f8.params.toList Rows.jSONEqualSpec.vars false W args.toList ds gs before) (hL : laidMetH Tryz.prog laidAll W) (hsh : W.ShapedOpen Tryz.prog) (hk : Rows.uptoSmall H (ds ++ gs) = true) :
  Calls Tryz.prog 8 args W fun e W' => ∃ v, e = .returned v ∧ Rows.jSONEqualSpec.post enc Tryz.prog Tryz.f8 false true false false W args v W' := by
 have hW' := hW
 obtain ⟨p, q, hA0, hV, rfl, hfz, hnd⟩ := hW
 have hA : DataW.TrodAll enc Tryz.prog W 0 (fun _ => true) true Tryz.f8.params.toList args.toList ds p := hA0
 rw [Tryz.params8] at hA hval
 obtain ⟨v0, vs0, d0, ds0, p0, q0, hargs, rfl, rfl, h0, r0⟩ := trodAll_cons hA
 obtain ⟨v1, vs1, d1, ds1, p1, q1, rfl, rfl, rfl, h1, r1⟩ := trodAll_cons r0
 obtain ⟨rfl, rfl, rfl⟩ := trodAll_nil r1
 obtain rfl : args = #[v0, v1] := by cases args; simp_all
 obtain ⟨rfl, rfl⟩ := trodVars_none hV
 have hlt0 : ∀ x ∈ p0, x.block < W.heap.size := fun x hx => by have h9 := hW'.lt x (by simp [hx]); simpa using h9
 obtain ⟨q0j, rfl, hx0, hn0⟩ := open_json (hval 0 30 v0 rfl rfl) h0
 have hk1 := of_decide_eq_true hk
 simp only [Rows.uptoBulkAll, List.append_nil] at hk1
 have hlt1 : ∀ x ∈ p1, x.block < W.heap.size := fun x hx => by have h9 := hW'.lt x (by simp [hx]); simpa using h9
 obtain ⟨q1j, rfl, hx1, hn1⟩ := open_json (hval 1 30 v1 rfl rfl) h1
 clear hA0
 refine (jequal_calls W (env_of hL hsh) q0j q1j hx0 (by omega) hx1 (by omega)).mono fun e W' ⟨he, hb⟩ => ?_
 subst he
 exact ⟨_, rfl, _, _, _, [], _, [], hW', trodAll_cons_mk (shut_bool Tryz.underlying4 _) trodAll_mk0, trodAll_cons_mk (Below.trod laid_out (by kernel_rfl) (of_decide_eq_true (by kernel_rfl)) h0 hb hlt0) (trodAll_cons_mk (Below.trod laid_out (by kernel_rfl) (of_decide_eq_true (by kernel_rfl)) h1 hb hlt1) (trodAll_mk0)), rfl, hb.frame _, fun h => by cases h⟩
def jequalArgs : Array Value := #[.agg #[.int .i64 0, .bool false, .bool false, .string ⟨#[]⟩, .int .i64 0, .string ⟨#[]⟩, .slice none 0 0, .slice none 0 0], .agg #[.int .i64 0, .bool false, .bool false, .string ⟨#[]⟩, .int .i64 0, .string ⟨#[]⟩, .slice none 0 0, .slice none 0 0]]
theorem jequal_reads (os : Os) {H : Type} (enc : TypeId × Value → H) : ∃ places, DataW.whole enc Tryz.prog ((laidWorld os).forCall (fun _ _ => 0) ⟨#[], jequalArgs, []⟩).memory Tryz.f8.params.toList Rows.jSONEqualSpec.vars false jequalArgs.toList 8 = some ([.agg [.lit (.int .i64 0), .lit (.bool false), .agg [.lit (.bool false), .lit (.string []), .lit (.int .i64 0)], .lit (.string []), .nil, .nil], .agg [.lit (.int .i64 0), .lit (.bool false), .agg [.lit (.bool false), .lit (.string []), .lit (.int .i64 0)], .lit (.string []), .nil, .nil]], [], places) :=
 ⟨[], by kernel_rfl⟩
theorem jequal_lifted (os : Os) (started : os.Started) (H : Type) (enc : TypeId × Value → H) (F : Stop.Interp) :
  ReturnsInHanded {} Tryz.checked os 8 .any ((Rows.OpenSpec.upto Rows.jSONEqualSpec).preRow enc Tryz.prog Tryz.f8 Rows.jSONEqualUptoRow.domain false Rows.jSONEqualUptoRow.laid) (((Rows.OpenSpec.upto Rows.jSONEqualSpec).at F).post enc Tryz.prog Tryz.f8 false true false false) := by
 obtain ⟨places, hx⟩ := jequal_reads os enc
 refine returnsInHanded_of_row (C := Tryz.checked) (s := Rows.OpenSpec.upto Rows.jSONEqualSpec) frmOwn started (by kernel_rfl) Tryz.func8
  (witness_zip (enc := enc) (C := Tryz.checked) false (laidWorld os) jequalArgs (laid_os os) (laid_shaped os _) (by kernel_rfl)
   (OpenSpec.preRow_of_cond 8 hx (by kernel_rfl) (fun k hk => by cases hk; kernel_rfl) (by kernel_rfl) (laid_met os _))) ?_
 intro W base args ds gs before hval hW _ hcond _ hL hsh _
 exact jequal_contract H enc W base args ds gs before hval hW hL hsh (hcond _ rfl)
theorem jequal_in : (Rows.jSONEqualUptoRow.inPlace == Tryz.pinned.checked.prog.inPlace 8) = true := by kernel_rfl
theorem jequal_un : (Rows.jSONEqualUptoRow.unfollowed == Tryz.pinned.checked.prog.unfollowed 8) = true := by kernel_rfl
theorem jequal_re : (Rows.jSONEqualUptoRow.recurses == Tryz.pinned.checked.prog.recurses 8) = true := by kernel_rfl
theorem jequal_na : (Rows.jSONEqualUptoRow.named == Tryz.pinned.checked.prog.varsNamed 8) = true := by kernel_rfl
theorem jequal_facts : joinedFacts Tryz.pinned.checked.prog 8 Tryz.f8 (Rows.OpenSpec.upto Rows.jSONEqualSpec).bare Rows.jSONEqualUptoRow = true := by
 unfold joinedFacts
 rw [jequal_in, jequal_un, jequal_re, jequal_na]
 kernel_rfl
theorem jequal_said : Rows.JSONEqualUptoSaid :=
 OpenClaim.holds_of_cond 8 Tryz.f8 rfl rfl rfl rfl rfl rfl rfl ⟨rfl, rfl, rfl, rfl, rfl⟩ rfl rfl rfl rfl rfl (by kernel_rfl) Tryz.func8 jequal_facts
  (of_decide_eq_true (by as_aux_lemma => kernel_rfl)) (by unfold Func.isWrapper; first | (rw [if_pos (by decide +kernel)]; kernel_rfl) | (rw [if_neg (by decide +kernel)]; exact ⟨rfl, rfl⟩))
  (fun os started H enc _ F => by rw [OpenClaim.pre_eq_preRow]; exact jequal_lifted os started H enc F)
theorem jequal_plain (f : FuncId) (fn : Func) (hf : Tryz.pinned.checked.prog.funcNamed "lexicon/lexiconlaw08.JSONEqual" = some f) (hfn : Tryz.pinned.checked.prog.funcs[f]? = some fn) :
  true = Tryz.pinned.checked.prog.looks [] ∧ ∀ (j : Nat) t, fn.params[j]? = some t → Tryz.pinned.checked.prog.wantsStandIn t = false := by
 obtain rfl : f = 8 := Option.some.inj ((show Tryz.prog.funcNamed "lexicon/lexiconlaw08.JSONEqual" = some 8 by kernel_rfl).symm.trans hf) |>.symm
 obtain rfl : fn = Tryz.f8 := (Option.some.inj (Tryz.func8.symm.trans hfn)).symm
 refine ⟨by kernel_rfl, fun j t ht => ?_⟩
 rw [Tryz.params8] at ht
 have : t = 30 := by simpa using Array.mem_of_getElem? ht
 subst this
 exact (show Tryz.prog.wantsStandIn 30 = false by kernel_rfl)
theorem jSONEqual_proved : Rows.JSONEqualUptoCardSaid :=
 Claim7.holds_tied_plain_at .later [] _ _ _ _ jequal_said (fun _ h => by cases h) (by kernel_rfl) (fun _ h => by cases h) jSONEqualUpto_row_tie rfl ⟨rfl, rfl⟩ (by kernel_rfl) rfl jequal_plain (by kernel_rfl)
end Go.Proofs.YtfclfaidmipjpaaGreatDoor
