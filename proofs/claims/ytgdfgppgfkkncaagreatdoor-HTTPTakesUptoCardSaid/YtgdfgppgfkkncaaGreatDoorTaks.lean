/- The walk of HTTPTakes: over any world. Printed by gen_takes.py. -/
import Derived.Test.YtgdfgppgfkkncaaGreatDoorHqL
import Derived.Test.YtgdfgppgfkkncaaGreatDoorHqN
import Derived.Test.YtgdfgppgfkkncaaGreatDoorHr9
import Derived.Test.YtgdfgppgfkkncaaGreatDoorHtQ
import Derived.Test.YtgdfgppgfkkncaaGreatDoorHqO
namespace Go.Proofs.YtgdfgppgfkkncaaGreatDoor
open Go.RowKit

theorem pcsN_take {ps : List (Value × List UInt8)} {j : Nat} {q : Value × List UInt8} (h : ps[j]? = some q) : pcsN (ps.take (j + 1)) = pcsN (ps.take j) + q.2.length := by
  unfold pcsN
  rw [List.take_add_one, h, List.map_append, List.sum_append]
  simp
theorem pcsN_le (ps : List (Value × List UInt8)) (j : Nat) : pcsN (ps.take j) ≤ pcsN ps := by
  unfold pcsN
  conv => rhs; rw [← List.take_append_drop j ps, List.map_append, List.sum_append]
  omega
/-- What the flipping of bodies reads. -/
structure FlI (W : World) (B : Nat) (x : Value) (rs : List ReqR) : Prop where
  row : W.ownsRow B 40 6 x rs.length (reqRow rs)
  form : ∀ r ∈ rs, ∃ p cap, r.2.2 = .slice p r.1.body.length cap ∧ r.1.body.length ≤ cap ∧ r.1.body.length ≤ 9223372036854775807 ∧ (0 < r.1.body.length → ∃ g, p = some ⟨g, 0, none⟩ ∧ SomeB W g 0 r.1.body.length ∧ B ≤ g ∧ x.ownBlock ≠ some g)
theorem FlI.set {W : World} {B : Nat} {x : Value} {rs : List ReqR} (h : FlI W B x rs) {g : Nat} (hg : x.ownBlock ≠ some g) (k : Nat) (z : Int) : FlI (W.setCell ⟨g, k, none⟩ (.int .u8 z)) B x rs := by
  refine ⟨ownsRow_apart (S := fun k => k = g) h.row (Apart.set (S := fun k => k = g) W rfl _) (fun k hk h9 => hg (by rw [← h9]; exact hk)), fun r hr => ?_⟩
  obtain ⟨p, cap, h1, h2, h3, h4⟩ := h.form r hr
  refine ⟨p, cap, h1, h2, h3, fun h0 => ?_⟩
  obtain ⟨g', e, h5, h6, h7⟩ := h4 h0
  exact ⟨g', e, h5.set g k z, h6, h7⟩
theorem FlI.ofReqs {W : World} {B : Nat} {x : Value} {rs : List ReqR} (h : ReqsV W B x rs) : FlI W B x rs := by
  refine ⟨h.row, fun r hr => ?_⟩
  have hb := h.bod r hr
  rcases hb with ⟨h1, h2⟩ | ⟨g, cap, cur, fz, h1, h2, h3, h4, h5, h6⟩
  · exact ⟨none, 0, by rw [h1, h2]; rfl, by rw [h2]; exact Nat.le_refl _, by rw [h2]; exact Nat.zero_le _, fun h0 => by rw [h2] at h0; cases h0⟩
  · have hb := h.bod r hr
    refine ⟨_, cap, h1, h4, by unfold maxLen at h5; omega, fun _ => ⟨g, rfl, SomeB.ofBod (by rw [← h1]; exact hb), h2, fun hk => ?_⟩⟩
    exact BodV.ne hb h.row (by decide) g (by rw [h1]; rfl) hk
theorem FlI.cell {W : World} {B g cap : Nat} {rs : List ReqR} (h : FlI W B (.slice (some ⟨g, 0, none⟩) rs.length cap) rs) {j : Nat} {r : ReqR} (hr : rs[j]? = some r) : W.cell? ⟨g, j * 6 + 4, none⟩ = some r.2.2 := by
  have hj := (List.getElem?_eq_some_iff.1 hr).1
  have h1 := World.ownsRow.cellAt h.row (j * 6 + 4) (show j * 6 + 4 < rs.length * 6 by omega)
  rw [h1]
  exact reqRow_at rs j r hr 4 (by omega)
theorem FlI.at {W : World} {B : Nat} {x : Value} {rs : List ReqR} (h : FlI W B x rs) (h0 : 0 < rs.length) : ∃ g cap, x = .slice (some ⟨g, 0, none⟩) rs.length cap ∧ rs.length ≤ cap ∧ rs.length ≤ 9223372036854775807 := by
  rcases h.row.2 with ⟨hn, h2⟩ | ⟨g', cap, cur, e, h1, h2, h3, h4, _⟩
  · omega
  · exact ⟨_, cap, e, h3, by unfold maxLen at h4; omega⟩
theorem sparev_flip {w : World} {B g off cap : Nat} {l : List UInt8} (h : WaitV w B (.slice (some ⟨g, off, none⟩) (l.length + 1) cap) (l ++ [165])) : SomeB w g off l.length := by
  have h1 : WaitV w B (.slice (some ⟨g, off, none⟩) (l ++ [165]).length cap) (l ++ [165]) := by rw [List.length_append]; exact h
  exact (SomeB.ofWait h1).le (by simp)
set_option maxHeartbeats 20000000 in
set_option maxRecDepth 100000 in
theorem takes_calls (w : World) (he : Env w) (x : Value) (ps : List (Value × List UInt8)) (hx : PcsS w x ps) (hn : pcsN ps ≤ 50000000) : Calls Tryz.prog 3 #[x] w fun e w' => e = .returned (.bool true) ∧ Below w.heap.size w w' := by
  obtain ⟨px, cx, rfl, hcx, hmx, hfx⟩ := hx.form
  have HX := Lib.hid hx
  have He := Lib.hid he
  have HN := Lib.hid hn
  have HF := Lib.hid hfx
  have hmy : ps.length ≤ 9223372036854775807 := hmx
  clear hx he hn hfx hmx
  go_enter Tryz.func3, Tryz.ntmps3
  go_wp2_with fail
  go_loopg [3, 4] ps.length (fun k n i wr => ∃ j : Nat, k = ps.length - j ∧ j ≤ ps.length ∧ n = .int .i64 (pcsN (ps.take j) : Int) ∧ i = .int .i64 (j : Int) ∧ Below w.heap.size w wr)
  case atStart => exact ⟨0, rfl, Nat.zero_le _, rfl, rfl, Below.refl _ _⟩
  case round =>
    obtain ⟨j, hk, hj, rfl, rfl, hbr⟩ := hrel
    have Hk := Lib.hid hk
    have Hbr := Lib.hid hbr
    clear hk hbr
    by_cases hlt : j < ps.length
    ·
      have hlt2 : (j : Int) < ps.length := by omega
      obtain ⟨b, off, rfl⟩ := HF.out (by omega)
      obtain ⟨q, hq⟩ : ∃ q, ps[j]? = some q := ⟨_, List.getElem?_eq_getElem hlt⟩
      have y := (HX.out.below Hbr.out).at hq
      have HS := Lib.hid (pcsN_take hq)
      have hle := pcsN_le ps (j + 1)
      rw [HS.out] at hle
      have HQ := Lib.hid hq
      obtain ⟨qv, ql⟩ := q
      obtain ⟨pq, cq, e9, _⟩ := y.2.open
      dsimp only at y e9 hle
      rw [e9] at y
      have y1 := y.1
      generalize pcsN (ps.take j) = nj at *
      have hw1 : IntKind.i64.wrap ((nj : Int) + ql.length) = ((nj + ql.length : Nat) : Int) := by have := HN.out; rw [IntWalk.i64_in _ (by omega)]; omega
      clear y hq e9 hle
      go_wp2_with fail
      go_roundg (ps.length - (j + 1))
      case measure => have := Hk.out; omega
      case rel => exact ⟨j + 1, rfl, by omega, by rw [HS.out]; rfl, by go_num, Hbr.out⟩
    ·
      obtain rfl : j = ps.length := by omega
      have hlt2 : ¬ (ps.length : Int) < ps.length := by omega
      rw [List.take_length]
      go_wp2_with fail
      refine (new_calls wr).mono ?_
      rintro e w1 ⟨rfl, hc, hb1⟩
      have HC := Lib.hid hc
      have HB1 := Lib.hid (Hbr.out.trans (hb1.mono Hbr.out.size))
      have hsr : w.heap.size ≤ wr.heap.size := Hbr.out.size
      clear hc hb1 hlt hlt2 hj Hk
      obtain ⟨C, hC⟩ : ∃ C, wr.heap.size = C := ⟨_, rfl⟩
      rw [hC] at HC hsr ⊢
      have HCe := Lib.hid hC
      clear hC
      obtain ⟨N, hN⟩ : ∃ N, pcsN ps = N := ⟨_, rfl⟩
      rw [hN] at HN ⊢
      have HNe := Lib.hid hN
      clear hN
      by_cases hbig : 200 < ps.length ∨ 40000 < N
      ·
        by_cases h2 : (200 : Int) < ps.length
        ·
          clear hbig
          go_wp2_with fail
          refine (works_calls w1 (He.out.below HB1.out)).mono ?_
          rintro e w2 ⟨rfl, hb⟩
          go_wp2_with fail
          go_ret
          exact ⟨rfl, HB1.out.trans (hb.mono HB1.out.size)⟩
        ·
          have h3 : (40000 : Int) < N := by omega
          clear hbig
          go_wp2_with fail
          refine (works_calls w1 (He.out.below HB1.out)).mono ?_
          rintro e w2 ⟨rfl, hb⟩
          go_wp2_with fail
          go_ret
          exact ⟨rfl, HB1.out.trans (hb.mono HB1.out.size)⟩
      have h2 : ¬ (200 : Int) < ps.length := by omega
      have h3 : ¬ (40000 : Int) < N := by omega
      have hN4 : N ≤ 40000 := by omega
      have hP2 : ps.length ≤ 200 := by omega
      clear hbig
      go_wp2_with fail
      have R0 := RowAt.new w1 #[Value.string { data := #[] }, Value.bool false] 28
      have ha2 : Below w1.heap.size w1 (w1.alloc (Obj.cells #[Value.string { data := #[] }, Value.bool false] 28)) := (Below.refl _ _).alloc (Nat.le_refl _) _
      have HC2 := Lib.hid (HC.out.below ha2)
      have HB2 := Lib.hid (HB1.out.trans (ha2.mono HB1.out.size))
      have R2 := Lib.hid R0
      have hCg : C < w1.heap.size := HC.out.row.lt
      obtain ⟨g6, hg6⟩ : ∃ g, w1.heap.size = g := ⟨_, rfl⟩
      rw [hg6] at R2 hCg ⊢
      generalize w1.alloc (Obj.cells #[Value.string { data := #[] }, Value.bool false] 28) = w2 at *
      clear R0 ha2 HC HB1 hg6 h2 h3
      have HT0 : Hid (TkI w w2 C g6 (.slice none 0 0) [] false 0) := by
        refine Lib.hid ⟨HC2.out, R2.out, HB2.out, fun k hk => ?_, Nat.zero_le _⟩
        rcases hk with rfl | hk
        · omega
        · cases hk
      clear HC2 R2 HB2 Hbr
      go_loopg [7] ps.length (fun k s7 wr => ∃ (j : Nat) (vr : Value) (lw : List UInt8) (dd : Bool), k = ps.length - j ∧ j ≤ ps.length ∧ s7 = .int .i64 (j : Int) ∧ TkI w wr C g6 vr lw dd (pcsN (ps.take j)))
      case atStart => exact ⟨0, _, [], false, rfl, Nat.zero_le _, rfl, HT0.out⟩
      case round =>
        obtain ⟨j, v, lw, dd, hk, hj, rfl, hI⟩ := hrel
        have Hk := Lib.hid hk
        have HI := Lib.hid hI
        clear hk hI
        by_cases hlt : j < ps.length
        ·
          have hlt2 : (j : Int) < ps.length := by omega
          obtain ⟨b, off, rfl⟩ := HF.out (by omega)
          obtain ⟨q, hq⟩ : ∃ q, ps[j]? = some q := ⟨_, List.getElem?_eq_getElem hlt⟩
          obtain ⟨qv, ql⟩ := q
          have HS := Lib.hid (pcsN_take hq)
          have hle := pcsN_le ps (j + 1)
          rw [HS.out, HNe.out] at hle
          dsimp only at hle
          have HP : Hid (∀ W, Below w.heap.size w W → W.cell? ⟨b, off + j, none⟩ = some qv ∧ BytG W qv ql) := fun W hW => (HX.out.below hW).at hq
          obtain ⟨pq, cq, e9, _⟩ := (HP.out w (Below.refl _ _)).2.open
          rw [e9] at HP
          generalize pcsN (ps.take j) = nj at *
          have hll : lw.length ≤ nj := HI.out.len
          have hqn : ql.length ≤ 40000 := by omega
          clear hq e9
          go_upto_region 13 with fail
          go_cut [8] from 53 to 66 (fun s8 wc => SpareV wc wr.heap.size s8 ql ∧ Below wr.heap.size wr wc)
          case first =>
            have hszd : wr.heap.size ≤ wr.drew.heap.size := Nat.le_refl _
            have BEd : Hid (Below wr.heap.size wr wr.drew) := Lib.hid (Below.refl _ _).drew
            have hS0 : (fun W => W.cell? ⟨b, off + j, none⟩ = some (Value.slice pq ql.length cq)) wr.drew := (HP.out _ (HI.out.bel.trans (BEd.out.mono HI.out.bel.size))).1
            refine wp_region_held_drew (S := (fun W => W.cell? ⟨b, off + j, none⟩ = some (Value.slice pq ql.length cq))) (by kernel_rfl) hS0 (fun hHeld0 => ?_)
            generalize wr.drew = wd at *
            refine held_take (i := 1) (v := ?_) rfl (by kernel_rfl) (by kernel_rfl) (by kernel_rfl) (fun _ _ _ h => h) (by rfl) (fun wq hSq => ?_) hHeld0 ?_
            rotate_left
            · (try dsimp only at hSq); go_simp; try with_reducible rfl
            simp only [Act.put, List.setIfInBounds_toArray, List.set_cons_zero, List.set_cons_succ]
            refine held_take (i := 2) (v := ?_) rfl (by kernel_rfl) (by kernel_rfl) (by kernel_rfl) (fun _ _ _ h => h) (by rfl) (fun wq hSq => ?_) hHeld0 ?_
            rotate_left
            · (try dsimp only at hSq); go_simp; try with_reducible rfl
            simp only [Act.put, List.setIfInBounds_toArray, List.set_cons_zero, List.set_cons_succ]
            refine held_take (i := 3) (v := ?_) rfl (by kernel_rfl) (by kernel_rfl) (by kernel_rfl) (fun _ _ _ h => h) (by rfl) (fun wq hSq => ?_) hHeld0 ?_
            rotate_left
            · (try dsimp only at hSq); go_simp; try with_reducible rfl
            simp only [Act.put, List.setIfInBounds_toArray, List.set_cons_zero, List.set_cons_succ]
            refine held_take (i := 4) (v := ?_) rfl (by kernel_rfl) (by kernel_rfl) (by kernel_rfl) (fun _ _ _ h => h) (by rfl) (fun wq hSq => ?_) hHeld0 ?_
            rotate_left
            · (try dsimp only at hSq); go_simp; try with_reducible rfl
            simp only [Act.put, List.setIfInBounds_toArray, List.set_cons_zero, List.set_cons_succ]
            refine held_take (i := 8) (v := ?_) rfl (by kernel_rfl) (by kernel_rfl) (by kernel_rfl) (fun _ _ _ h => h) (by rfl) (fun wq hSq => ?_) hHeld0 ?_
            rotate_left
            · (try dsimp only at hSq); go_simp; try with_reducible rfl
            simp only [Act.put, List.setIfInBounds_toArray, List.set_cons_zero, List.set_cons_succ]
            refine held_take (i := 9) (v := ?_) rfl (by kernel_rfl) (by kernel_rfl) (by kernel_rfl) (fun _ _ _ h => h) (by rfl) (fun wq hSq => ?_) hHeld0 ?_
            rotate_left
            · (try dsimp only at hSq); go_simp; try with_reducible rfl
            simp only [Act.put, List.setIfInBounds_toArray, List.set_cons_zero, List.set_cons_succ]
            refine held_take (i := 10) (v := ?_) rfl (by kernel_rfl) (by kernel_rfl) (by kernel_rfl) (fun _ _ _ h => h) (by rfl) (fun wq hSq => ?_) hHeld0 ?_
            rotate_left
            · (try dsimp only at hSq); go_simp; try with_reducible rfl
            simp only [Act.put, List.setIfInBounds_toArray, List.set_cons_zero, List.set_cons_succ]
            refine held_take (i := 11) (v := ?_) rfl (by kernel_rfl) (by kernel_rfl) (by kernel_rfl) (fun _ _ _ h => h) (by rfl) (fun wq hSq => ?_) hHeld0 ?_
            rotate_left
            · (try dsimp only at hSq); go_simp; try with_reducible rfl
            simp only [Act.put, List.setIfInBounds_toArray, List.set_cons_zero, List.set_cons_succ]
            refine held_take (i := 12) (v := ?_) rfl (by kernel_rfl) (by kernel_rfl) (by kernel_rfl) (fun _ _ _ h => h) (by rfl) (fun wq hSq => ?_) hHeld0 ?_
            rotate_left
            · (try dsimp only at hSq); go_simp; try with_reducible rfl
            simp only [Act.put, List.setIfInBounds_toArray, List.set_cons_zero, List.set_cons_succ]
            refine held_two (i := 0) (j := 6) (by kernel_rfl) rfl rfl (by rfl) (by rfl) (fun K hK => ?_) (fun K hK => ?_)
            ·
              go_simp
              have ha1 : Below wd.heap.size wd (wd.alloc (Obj.cells #[] 5)) := (Below.refl _ _).alloc (Nat.le_refl _) _
              have BE1 := Lib.hid (BEd.out.trans (ha1.mono hszd))
              have V1 : Hid (WaitV (wd.alloc (Obj.cells #[] 5)) wr.heap.size (.slice (some ⟨wd.heap.size, 0, none⟩) 0 0) []) := Lib.hid (WaitV.le (waitV_empty wd (0, 0)) hszd)
              obtain ⟨ge1, he1⟩ : ∃ x, wd.heap.size = x := ⟨_, rfl⟩
              have SZ1 : wr.heap.size ≤ (wd.alloc (Obj.cells #[] 5)).heap.size := by rw [World.size_alloc]; have := hszd; omega
              have hG1 : wd.heap.size + 1 = (wd.alloc (Obj.cells #[] 5)).heap.size := by rw [World.size_alloc]
              clear ha1
              generalize (wd.alloc (Obj.cells #[] 5)) = W1 at *
              rw [he1] at hG1 V1 ⊢
              refine hK.out _ _ ((HP.out _ (HI.out.bel.trans (BE1.out.mono HI.out.bel.size))).1) (fun hHeld1 => ?_)
              clear hK K hHeld0
              refine held_two (i := 5) (j := 6) (by kernel_rfl) rfl rfl (by rfl) (by rfl) (fun K hK => ?_) (fun K hK => ?_)
              ·
                refine oper_append_waitG _ _ rfl wr.heap.size _ _ _ _ rfl V1.out rfl ((HP.out _ (HI.out.bel.trans (BE1.out.mono HI.out.bel.size))).2) (by simp only [List.length_nil]; omega) SZ1 (fun v2 W2 hv2 hg2 ho2 => ?_)
                have BE2 := Lib.hid (BE1.out.grown hg2 BE1.out.size (fun k hk => (V1.out.lt hk).1))
                have V2 := Lib.hid hv2
                have SZ2 : wr.heap.size ≤ W2.heap.size := BE2.out.size
                rw [List.nil_append] at V2
                clear hv2 hg2 ho2
                simp only [Act.put, List.setIfInBounds_toArray, List.set_cons_zero, List.set_cons_succ]
                refine hK.out _ _ ((HP.out _ (HI.out.bel.trans (BE2.out.mono HI.out.bel.size))).1) (fun hHeld2 => ?_)
                clear hK K hHeld1
                refine held_step (i := 6) (by kernel_rfl) rfl (by rfl) (fun K hK => ?_)
                go_simp
                have ha3 : Below W2.heap.size W2 (W2.alloc (Obj.cells #[Value.int IntKind.u8 165] 5)) := (Below.refl _ _).alloc (Nat.le_refl _) _
                have BE3 := Lib.hid (BE2.out.trans (ha3.mono SZ2))
                have V3 := Lib.hid (V2.out.below ha3)
                have LT3 : Hid (BytS (W2.alloc (Obj.cells #[Value.int IntKind.u8 165] 5)) (.slice (some ⟨W2.heap.size, 0, none⟩) 1 1) [165]) := Lib.hid (byts_one W2)
                obtain ⟨gl3, hg3⟩ : ∃ x, W2.heap.size = x := ⟨_, rfl⟩
                have SZ3 : wr.heap.size ≤ (W2.alloc (Obj.cells #[Value.int IntKind.u8 165] 5)).heap.size := by rw [World.size_alloc]; have := SZ2; omega
                have hG3 : W2.heap.size + 1 = (W2.alloc (Obj.cells #[Value.int IntKind.u8 165] 5)).heap.size := by rw [World.size_alloc]
                clear ha3
                generalize (W2.alloc (Obj.cells #[Value.int IntKind.u8 165] 5)) = W3 at *
                rw [hg3] at hG3 LT3 ⊢
                refine hK.out _ _ ((HP.out _ (HI.out.bel.trans (BE3.out.mono HI.out.bel.size))).1) (fun hHeld3 => ?_)
                clear hK K hHeld2
                refine held_step (i := 7) (by kernel_rfl) rfl (by rfl) (fun K hK => ?_)
                refine oper_append_waitG _ _ rfl wr.heap.size _ _ _ _ rfl V3.out rfl LT3.out.g (by simp only [List.length_singleton]; omega) SZ3 (fun v4 W4 hv4 hg4 ho4 => ?_)
                have BE4 := Lib.hid (BE3.out.grown hg4 BE3.out.size (fun k hk => (V3.out.lt hk).1))
                obtain ⟨pz, cz, rfl, hcz, hpz⟩ := hv4.form
                obtain ⟨gz, oz, rfl⟩ : ∃ gz oz, pz = some ⟨gz, oz, none⟩ := by
                  rcases hv4 with ⟨h9, h8⟩ | ⟨gz, oz, cz, h9, _⟩
                  · simp at h8
                  · cases h9; exact ⟨gz, oz, rfl⟩
                simp only [List.length_append, List.length_singleton] at hcz ⊢
                have VZ := Lib.hid hv4
                have hcz2 : ql.length ≤ cz := by omega
                clear hv4 hg4 ho4 hpz
                simp only [Act.put, List.setIfInBounds_toArray, List.set_cons_zero, List.set_cons_succ]
                have SZ4 : wr.heap.size ≤ W4.heap.size := BE4.out.size
                refine hK.out _ _ ((HP.out _ (HI.out.bel.trans (BE4.out.mono HI.out.bel.size))).1) (fun hHeld4 => ?_)
                clear hK K hHeld3
                refine held_take (i := 13) (v := ?_) rfl (by kernel_rfl) (by kernel_rfl) (by kernel_rfl) (fun _ _ _ h => h) (by rfl) (fun wq hSq => ?_) hHeld4 ?_
                rotate_left
                · (try dsimp only at hSq); go_simp; try with_reducible rfl
                simp only [Act.put, List.setIfInBounds_toArray, List.set_cons_zero, List.set_cons_succ]
                refine held_take (i := 14) (v := ?_) rfl (by kernel_rfl) (by kernel_rfl) (by kernel_rfl) (fun _ _ _ h => h) (by rfl) (fun wq hSq => ?_) hHeld4 ?_
                rotate_left
                · (try dsimp only at hSq); go_simp; try with_reducible rfl
                simp only [Act.put, List.setIfInBounds_toArray, List.set_cons_zero, List.set_cons_succ]
                refine wpAnyH_done (by kernel_rfl) ?_ _
                clear hHeld4
                go_wp2_with fail
                go_meet
                exact ⟨⟨gz, oz, cz, rfl, by have h9 := VZ.out; rw [List.length_append] at h9; exact h9⟩, BE4.out⟩
              ·
                go_simp
                have ha5 : Below W1.heap.size W1 (W1.alloc (Obj.cells #[Value.int IntKind.u8 165] 5)) := (Below.refl _ _).alloc (Nat.le_refl _) _
                have BE5 := Lib.hid (BE1.out.trans (ha5.mono SZ1))
                have V5 := Lib.hid (V1.out.below ha5)
                have LT5 : Hid (BytS (W1.alloc (Obj.cells #[Value.int IntKind.u8 165] 5)) (.slice (some ⟨W1.heap.size, 0, none⟩) 1 1) [165]) := Lib.hid (byts_one W1)
                obtain ⟨gl5, hg5⟩ : ∃ x, W1.heap.size = x := ⟨_, rfl⟩
                have SZ5 : wr.heap.size ≤ (W1.alloc (Obj.cells #[Value.int IntKind.u8 165] 5)).heap.size := by rw [World.size_alloc]; have := SZ1; omega
                have hG5 : W1.heap.size + 1 = (W1.alloc (Obj.cells #[Value.int IntKind.u8 165] 5)).heap.size := by rw [World.size_alloc]
                clear ha5
                generalize (W1.alloc (Obj.cells #[Value.int IntKind.u8 165] 5)) = W5 at *
                rw [hg5] at hG5 LT5 ⊢
                refine hK.out _ _ ((HP.out _ (HI.out.bel.trans (BE5.out.mono HI.out.bel.size))).1) (fun hHeld2 => ?_)
                clear hK K hHeld1
                refine held_step (i := 5) (by kernel_rfl) rfl (by rfl) (fun K hK => ?_)
                refine oper_append_waitG _ _ rfl wr.heap.size _ _ _ _ rfl V5.out rfl ((HP.out _ (HI.out.bel.trans (BE5.out.mono HI.out.bel.size))).2) (by simp only [List.length_nil]; omega) SZ5 (fun v6 W6 hv6 hg6 ho6 => ?_)
                have BE6 := Lib.hid (BE5.out.grown hg6 BE5.out.size (fun k hk => (V5.out.lt hk).1))
                have LT6 := Lib.hid (LT5.out.apart (Apart.ofGrown (S := fun k => some k = some ge1) hg6 (fun k hk => hk.symm)) (fun k hk h => by have h1 : gl5 = k := Option.some.inj hk; have h2 : k = ge1 := Option.some.inj h; omega))
                have V6 := Lib.hid hv6
                have SZ6 : wr.heap.size ≤ W6.heap.size := BE6.out.size
                rw [List.nil_append] at V6
                clear hv6 hg6 ho6
                simp only [Act.put, List.setIfInBounds_toArray, List.set_cons_zero, List.set_cons_succ]
                refine hK.out _ _ ((HP.out _ (HI.out.bel.trans (BE6.out.mono HI.out.bel.size))).1) (fun hHeld3 => ?_)
                clear hK K hHeld2
                refine held_step (i := 7) (by kernel_rfl) rfl (by rfl) (fun K hK => ?_)
                refine oper_append_waitG _ _ rfl wr.heap.size _ _ _ _ rfl V6.out rfl LT6.out.g (by simp only [List.length_singleton]; omega) SZ6 (fun v7 W7 hv7 hg7 ho7 => ?_)
                have BE7 := Lib.hid (BE6.out.grown hg7 BE6.out.size (fun k hk => (V6.out.lt hk).1))
                obtain ⟨pz, cz, rfl, hcz, hpz⟩ := hv7.form
                obtain ⟨gz, oz, rfl⟩ : ∃ gz oz, pz = some ⟨gz, oz, none⟩ := by
                  rcases hv7 with ⟨h9, h8⟩ | ⟨gz, oz, cz, h9, _⟩
                  · simp at h8
                  · cases h9; exact ⟨gz, oz, rfl⟩
                simp only [List.length_append, List.length_singleton] at hcz ⊢
                have VZ := Lib.hid hv7
                have hcz2 : ql.length ≤ cz := by omega
                clear hv7 hg7 ho7 hpz
                simp only [Act.put, List.setIfInBounds_toArray, List.set_cons_zero, List.set_cons_succ]
                have SZ7 : wr.heap.size ≤ W7.heap.size := BE7.out.size
                refine hK.out _ _ ((HP.out _ (HI.out.bel.trans (BE7.out.mono HI.out.bel.size))).1) (fun hHeld4 => ?_)
                clear hK K hHeld3
                refine held_take (i := 13) (v := ?_) rfl (by kernel_rfl) (by kernel_rfl) (by kernel_rfl) (fun _ _ _ h => h) (by rfl) (fun wq hSq => ?_) hHeld4 ?_
                rotate_left
                · (try dsimp only at hSq); go_simp; try with_reducible rfl
                simp only [Act.put, List.setIfInBounds_toArray, List.set_cons_zero, List.set_cons_succ]
                refine held_take (i := 14) (v := ?_) rfl (by kernel_rfl) (by kernel_rfl) (by kernel_rfl) (fun _ _ _ h => h) (by rfl) (fun wq hSq => ?_) hHeld4 ?_
                rotate_left
                · (try dsimp only at hSq); go_simp; try with_reducible rfl
                simp only [Act.put, List.setIfInBounds_toArray, List.set_cons_zero, List.set_cons_succ]
                refine wpAnyH_done (by kernel_rfl) ?_ _
                clear hHeld4
                go_wp2_with fail
                go_meet
                exact ⟨⟨gz, oz, cz, rfl, by have h9 := VZ.out; rw [List.length_append] at h9; exact h9⟩, BE7.out⟩
            ·
              go_simp
              have ha8 : Below wd.heap.size wd (wd.alloc (Obj.cells #[Value.int IntKind.u8 165] 5)) := (Below.refl _ _).alloc (Nat.le_refl _) _
              have BE8 := Lib.hid (BEd.out.trans (ha8.mono hszd))
              have LT8 : Hid (BytS (wd.alloc (Obj.cells #[Value.int IntKind.u8 165] 5)) (.slice (some ⟨wd.heap.size, 0, none⟩) 1 1) [165]) := Lib.hid (byts_one wd)
              obtain ⟨gl8, hg8⟩ : ∃ x, wd.heap.size = x := ⟨_, rfl⟩
              have SZ8 : wr.heap.size ≤ (wd.alloc (Obj.cells #[Value.int IntKind.u8 165] 5)).heap.size := by rw [World.size_alloc]; have := hszd; omega
              have hG8 : wd.heap.size + 1 = (wd.alloc (Obj.cells #[Value.int IntKind.u8 165] 5)).heap.size := by rw [World.size_alloc]
              clear ha8
              generalize (wd.alloc (Obj.cells #[Value.int IntKind.u8 165] 5)) = W8 at *
              rw [hg8] at hG8 LT8 ⊢
              refine hK.out _ _ ((HP.out _ (HI.out.bel.trans (BE8.out.mono HI.out.bel.size))).1) (fun hHeld1 => ?_)
              clear hK K hHeld0
              refine held_step (i := 0) (by kernel_rfl) rfl (by rfl) (fun K hK => ?_)
              go_simp
              have ha9 : Below W8.heap.size W8 (W8.alloc (Obj.cells #[] 5)) := (Below.refl _ _).alloc (Nat.le_refl _) _
              have BE9 := Lib.hid (BE8.out.trans (ha9.mono SZ8))
              have LT9 := Lib.hid (LT8.out.below ha9)
              have V9 : Hid (WaitV (W8.alloc (Obj.cells #[] 5)) wr.heap.size (.slice (some ⟨W8.heap.size, 0, none⟩) 0 0) []) := Lib.hid (WaitV.le (waitV_empty W8 (0, 0)) SZ8)
              obtain ⟨ge9, he9⟩ : ∃ x, W8.heap.size = x := ⟨_, rfl⟩
              have SZ9 : wr.heap.size ≤ (W8.alloc (Obj.cells #[] 5)).heap.size := by rw [World.size_alloc]; have := SZ8; omega
              have hG9 : W8.heap.size + 1 = (W8.alloc (Obj.cells #[] 5)).heap.size := by rw [World.size_alloc]
              clear ha9
              generalize (W8.alloc (Obj.cells #[] 5)) = W9 at *
              rw [he9] at hG9 V9 ⊢
              refine hK.out _ _ ((HP.out _ (HI.out.bel.trans (BE9.out.mono HI.out.bel.size))).1) (fun hHeld2 => ?_)
              clear hK K hHeld1
              refine held_step (i := 5) (by kernel_rfl) rfl (by rfl) (fun K hK => ?_)
              refine oper_append_waitG _ _ rfl wr.heap.size _ _ _ _ rfl V9.out rfl ((HP.out _ (HI.out.bel.trans (BE9.out.mono HI.out.bel.size))).2) (by simp only [List.length_nil]; omega) SZ9 (fun v10 W10 hv10 hg10 ho10 => ?_)
              have BE10 := Lib.hid (BE9.out.grown hg10 BE9.out.size (fun k hk => (V9.out.lt hk).1))
              have LT10 := Lib.hid (LT9.out.apart (Apart.ofGrown (S := fun k => some k = some ge9) hg10 (fun k hk => hk.symm)) (fun k hk h => by have h1 : gl8 = k := Option.some.inj hk; have h2 : k = ge9 := Option.some.inj h; omega))
              have V10 := Lib.hid hv10
              have SZ10 : wr.heap.size ≤ W10.heap.size := BE10.out.size
              rw [List.nil_append] at V10
              clear hv10 hg10 ho10
              simp only [Act.put, List.setIfInBounds_toArray, List.set_cons_zero, List.set_cons_succ]
              refine hK.out _ _ ((HP.out _ (HI.out.bel.trans (BE10.out.mono HI.out.bel.size))).1) (fun hHeld3 => ?_)
              clear hK K hHeld2
              refine held_step (i := 7) (by kernel_rfl) rfl (by rfl) (fun K hK => ?_)
              refine oper_append_waitG _ _ rfl wr.heap.size _ _ _ _ rfl V10.out rfl LT10.out.g (by simp only [List.length_singleton]; omega) SZ10 (fun v11 W11 hv11 hg11 ho11 => ?_)
              have BE11 := Lib.hid (BE10.out.grown hg11 BE10.out.size (fun k hk => (V10.out.lt hk).1))
              obtain ⟨pz, cz, rfl, hcz, hpz⟩ := hv11.form
              obtain ⟨gz, oz, rfl⟩ : ∃ gz oz, pz = some ⟨gz, oz, none⟩ := by
                rcases hv11 with ⟨h9, h8⟩ | ⟨gz, oz, cz, h9, _⟩
                · simp at h8
                · cases h9; exact ⟨gz, oz, rfl⟩
              simp only [List.length_append, List.length_singleton] at hcz ⊢
              have VZ := Lib.hid hv11
              have hcz2 : ql.length ≤ cz := by omega
              clear hv11 hg11 ho11 hpz
              simp only [Act.put, List.setIfInBounds_toArray, List.set_cons_zero, List.set_cons_succ]
              have SZ11 : wr.heap.size ≤ W11.heap.size := BE11.out.size
              refine hK.out _ _ ((HP.out _ (HI.out.bel.trans (BE11.out.mono HI.out.bel.size))).1) (fun hHeld4 => ?_)
              clear hK K hHeld3
              refine held_take (i := 13) (v := ?_) rfl (by kernel_rfl) (by kernel_rfl) (by kernel_rfl) (fun _ _ _ h => h) (by rfl) (fun wq hSq => ?_) hHeld4 ?_
              rotate_left
              · (try dsimp only at hSq); go_simp; try with_reducible rfl
              simp only [Act.put, List.setIfInBounds_toArray, List.set_cons_zero, List.set_cons_succ]
              refine held_take (i := 14) (v := ?_) rfl (by kernel_rfl) (by kernel_rfl) (by kernel_rfl) (fun _ _ _ h => h) (by rfl) (fun wq hSq => ?_) hHeld4 ?_
              rotate_left
              · (try dsimp only at hSq); go_simp; try with_reducible rfl
              simp only [Act.put, List.setIfInBounds_toArray, List.set_cons_zero, List.set_cons_succ]
              refine wpAnyH_done (by kernel_rfl) ?_ _
              clear hHeld4
              go_wp2_with fail
              go_meet
              exact ⟨⟨gz, oz, cz, rfl, by have h9 := VZ.out; rw [List.length_append] at h9; exact h9⟩, BE11.out⟩
          case rest =>
            obtain ⟨⟨gz, oz, cz, rfl, hspv⟩, hbc⟩ := hcut
            obtain ⟨hmS, hsp, hcz, hgB, hgl⟩ := SpareV.byts hspv
            have HM := Lib.hid hmS
            have HSP := Lib.hid hsp
            have HFZ := Lib.hid (sparev_flip hspv)
            have HCc := Lib.hid (HI.out.conn.below hbc)
            have HBc := Lib.hid (HI.out.bel.trans (hbc.mono HI.out.bel.size))
            have HRc := Lib.hid (HI.out.row.below hbc)
            have HO : Hid (∀ k, OwnC C v k → k < wr.heap.size) := Lib.hid (fun k hk => (HI.out.conn.own hk).2)
            have HO6 := Lib.hid HI.out.own
            have hg6 : g6 < wr.heap.size := HI.out.row.lt
            have hws : w.heap.size ≤ wr.heap.size := HI.out.bel.size
            have hsc : wr.heap.size ≤ wc.heap.size := hbc.size
            clear hspv hbc hmS hsp HI
            go_wp2_with fail
            refine (take_calls w wc He.out HBc.out HCc.out hsr HM.out (by omega)).mono ?_
            rintro e w4 ⟨B, xl, rs, v4, rfl, hB, hrq, hmp, hc4, hap4, hlt4, hown4⟩
            have hBz : ∀ k, OwnC C v k → w.heap.size ≤ k := fun k hk => by have := (HCc.out.own hk).1; omega
            have HB4 := Lib.hid (HBc.out.trans (hap4.below HBc.out.size (fun i hi h9 => by have := hBz i h9; omega)))
            have hzc : ¬ OwnC C v gz := fun h9 => by have := HO.out gz h9; omega
            have hgz4 : gz < w4.heap.size := Nat.lt_of_lt_of_le hgl hap4.size
            have HM4 := Lib.hid (HM.out.apart hap4 (fun k hk => by cases hk; exact hzc))
            have HSP4 := Lib.hid ((hap4.cell (a := ⟨gz, oz + ql.length, none⟩) hgl hzc).trans HSP.out)
            have HFZ4 := Lib.hid (HFZ.out.apart hap4 hzc)
            have HR4 := Lib.hid (HRc.out.apart hap4 (fun h9 => HO6.out g6 h9 rfl))
            have hz4 : ∀ k, OwnC C v4 k → k ≠ gz ∧ k ≠ g6 := fun k hk => by
              rcases hk with rfl | hk
              · have h1 := HO.out k (.inl rfl); exact ⟨by omega, HO6.out k (.inl rfl)⟩
              · rcases hown4 k hk with h9 | h9
                · have h1 := HO.out k (.inr h9); exact ⟨by omega, HO6.out k (.inr h9)⟩
                · exact ⟨by omega, by omega⟩
            have HZ4 := Lib.hid hz4
            have HC4 := Lib.hid hc4
            have HRQ4 := Lib.hid hrq
            have HMP := Lib.hid hmp
            have HLT4 := Lib.hid hlt4
            have hlen4 := takeS_len lw ql dd
            obtain ⟨⟨qs, er, rest, d4⟩, hT⟩ : ∃ t, takeS lw dd ql = t := ⟨_, rfl⟩
            rw [hT] at HC4 HMP hlen4 ⊢
            dsimp only at HC4 HMP hlen4 ⊢
            have HT := Lib.hid hT
            clear hT hrq hmp hc4 hap4 hlt4 hown4 hz4 HM HSP HFZ HRc HCc HBc hBz hzc HO HO6
            obtain ⟨pl, cl, rfl⟩ := HRQ4.out.forms
            go_upto_region 15 with fail
            obtain ⟨n1, hn1⟩ : ∃ n1, ql.length + 1 = n1 := ⟨_, rfl⟩
            have hwr : IntKind.i64.wrap ((ql.length : Int) + 1) = (n1 : Int) := by rw [← hn1]; exact IntWalk.i64_in _ (by omega)
            have hn2 : n1 ≤ cz := by omega
            have hn3 : ql.length < n1 := by omega
            clear hn1
            have HBd : Hid (Below w.heap.size w w4.drew) := Lib.hid HB4.out.drew
            have HMd := Lib.hid (HM4.out.below (Below.refl _ _).drew)
            have hS0 : (fun W => W.cell? ⟨b, off + j, none⟩ = some (Value.slice pq ql.length cq) ∧ W.cell? ⟨gz, oz + ql.length, none⟩ = some (.int .u8 165) ∧ (convert 23 9 (.slice (some ⟨gz, oz, none⟩) ql.length cz)).run Tryz.prog W = .ok (.string ⟨ql.toArray⟩) W ∧ (convert 23 9 (.slice pq ql.length cq)).run Tryz.prog W = .ok (.string ⟨ql.toArray⟩) W) w4.drew := ⟨(HP.out _ HBd.out).1, HSP4.out, HMd.out.string, (HP.out _ HBd.out).2.string⟩
            have HBe := Lib.hid (Below.refl w4.heap.size w4).drew
            refine wp_region_held_drew (S := (fun W => W.cell? ⟨b, off + j, none⟩ = some (Value.slice pq ql.length cq) ∧ W.cell? ⟨gz, oz + ql.length, none⟩ = some (.int .u8 165) ∧ (convert 23 9 (.slice (some ⟨gz, oz, none⟩) ql.length cz)).run Tryz.prog W = .ok (.string ⟨ql.toArray⟩) W ∧ (convert 23 9 (.slice pq ql.length cq)).run Tryz.prog W = .ok (.string ⟨ql.toArray⟩) W)) (by kernel_rfl) hS0 (fun hHeld0 => ?_)
            have hqlt2 := hlt2
            generalize hwd : w4.drew = wd at *
            have HWD := Lib.hid hwd
            clear hwd
            refine held_take (i := 0) (v := ?_) rfl (by kernel_rfl) (by kernel_rfl) (by kernel_rfl) (fun _ _ _ h => h) (by rfl) (fun wq hSq => ?_) hHeld0 ?_
            rotate_left
            · (try dsimp only at hSq); go_simp; try with_reducible rfl
            simp only [Act.put, List.setIfInBounds_toArray, List.set_cons_zero, List.set_cons_succ]
            refine held_take (i := 1) (v := ?_) rfl (by kernel_rfl) (by kernel_rfl) (by kernel_rfl) (fun _ _ _ h => h) (by rfl) (fun wq hSq => ?_) hHeld0 ?_
            rotate_left
            · (try dsimp only at hSq); go_simp; try with_reducible rfl
            simp only [Act.put, List.setIfInBounds_toArray, List.set_cons_zero, List.set_cons_succ]
            refine held_take (i := 2) (v := ?_) rfl (by kernel_rfl) (by kernel_rfl) (by kernel_rfl) (fun _ _ _ h => h) (by rfl) (fun wq hSq => ?_) hHeld0 ?_
            rotate_left
            · (try dsimp only at hSq); go_simp; try with_reducible rfl
            simp only [Act.put, List.setIfInBounds_toArray, List.set_cons_zero, List.set_cons_succ]
            refine held_take (i := 3) (v := ?_) rfl (by kernel_rfl) (by kernel_rfl) (by kernel_rfl) (fun _ _ _ h => h) (by rfl) (fun wq hSq => ?_) hHeld0 ?_
            rotate_left
            · (try dsimp only at hSq); go_simp; try with_reducible rfl
            simp only [Act.put, List.setIfInBounds_toArray, List.set_cons_zero, List.set_cons_succ]
            refine held_take (i := 4) (v := ?_) rfl (by kernel_rfl) (by kernel_rfl) (by kernel_rfl) (fun _ _ _ h => h) (by rfl) (fun wq hSq => ?_) hHeld0 ?_
            rotate_left
            · (try dsimp only at hSq); go_simp; try with_reducible rfl
            simp only [Act.put, List.setIfInBounds_toArray, List.set_cons_zero, List.set_cons_succ]
            refine held_take (i := 5) (v := ?_) rfl (by kernel_rfl) (by kernel_rfl) (by kernel_rfl) (fun _ _ _ h => h) (by rfl) (fun wq hSq => ?_) hHeld0 ?_
            rotate_left
            · (try dsimp only at hSq); go_simp; try with_reducible rfl
            simp only [Act.put, List.setIfInBounds_toArray, List.set_cons_zero, List.set_cons_succ]
            refine held_take (i := 6) (v := ?_) rfl (by kernel_rfl) (by kernel_rfl) (by kernel_rfl) (fun _ _ _ h => h) (by rfl) (fun wq hSq => ?_) hHeld0 ?_
            rotate_left
            · (try dsimp only at hSq); go_simp; try with_reducible rfl
            simp only [Act.put, List.setIfInBounds_toArray, List.set_cons_zero, List.set_cons_succ]
            refine held_take (i := 7) (v := ?_) rfl (by kernel_rfl) (by kernel_rfl) (by kernel_rfl) (fun _ _ _ h => h) (by rfl) (fun wq hSq => ?_) hHeld0 ?_
            rotate_left
            · (try dsimp only at hSq); go_simp; try with_reducible rfl
            simp only [Act.put, List.setIfInBounds_toArray, List.set_cons_zero, List.set_cons_succ]
            refine held_take (i := 8) (v := ?_) rfl (by kernel_rfl) (by kernel_rfl) (by kernel_rfl) (fun _ _ _ h => h) (by rfl) (fun wq hSq => ?_) hHeld0 ?_
            rotate_left
            · (try dsimp only at hSq); go_simp; try with_reducible rfl
            simp only [Act.put, List.setIfInBounds_toArray, List.set_cons_zero, List.set_cons_succ]
            refine held_take (i := 9) (v := ?_) rfl (by kernel_rfl) (by kernel_rfl) (by kernel_rfl) (fun _ _ _ h => h) (by rfl) (fun wq hSq => ?_) hHeld0 ?_
            rotate_left
            · (try dsimp only at hSq); go_simp; try with_reducible rfl
            simp only [Act.put, List.setIfInBounds_toArray, List.set_cons_zero, List.set_cons_succ]
            refine held_take (i := 10) (v := ?_) rfl (by kernel_rfl) (by kernel_rfl) (by kernel_rfl) (fun _ _ _ h => h) (by rfl) (fun wq hSq => ?_) hHeld0 ?_
            rotate_left
            · (try dsimp only at hSq); go_simp; try with_reducible rfl
            simp only [Act.put, List.setIfInBounds_toArray, List.set_cons_zero, List.set_cons_succ]
            refine held_take (i := 11) (v := ?_) rfl (by kernel_rfl) (by kernel_rfl) (by kernel_rfl) (fun _ _ _ h => h) (by rfl) (fun wq hSq => ?_) hHeld0 ?_
            rotate_left
            · (try dsimp only at hSq); go_simp; try with_reducible rfl
            simp only [Act.put, List.setIfInBounds_toArray, List.set_cons_zero, List.set_cons_succ]
            refine held_take (i := 12) (v := ?_) rfl (by kernel_rfl) (by kernel_rfl) (by kernel_rfl) (fun _ _ _ h => h) (by rfl) (fun wq hSq => ?_) hHeld0 ?_
            rotate_left
            · (try dsimp only at hSq); go_simp; try with_reducible rfl
            simp only [Act.put, List.setIfInBounds_toArray, List.set_cons_zero, List.set_cons_succ]
            refine held_take (i := 13) (v := ?_) rfl (by kernel_rfl) (by kernel_rfl) (by kernel_rfl) (fun _ _ _ h => h) (by rfl) (fun wq hSq => ?_) hHeld0 ?_
            rotate_left
            · (try dsimp only at hSq); go_simp; try with_reducible rfl
            simp only [Act.put, List.setIfInBounds_toArray, List.set_cons_zero, List.set_cons_succ]
            refine held_take (i := 14) (v := ?_) rfl (by kernel_rfl) (by kernel_rfl) (by kernel_rfl) (fun _ _ _ h => h) (by rfl) (fun wq hSq => ?_) hHeld0 ?_
            rotate_left
            · (try dsimp only at hSq); go_simp; try with_reducible rfl
            simp only [Act.put, List.setIfInBounds_toArray, List.set_cons_zero, List.set_cons_succ]
            refine held_take (i := 15) (v := ?_) rfl (by kernel_rfl) (by kernel_rfl) (by kernel_rfl) (fun _ _ _ h => h) (by rfl) (fun wq hSq => ?_) hHeld0 ?_
            rotate_left
            · (try dsimp only at hSq); go_simp; try with_reducible rfl
            simp only [Act.put, List.setIfInBounds_toArray, List.set_cons_zero, List.set_cons_succ]
            refine held_take (i := 16) (v := ?_) rfl (by kernel_rfl) (by kernel_rfl) (by kernel_rfl) (fun _ _ _ h => h) (by rfl) (fun wq hSq => ?_) hHeld0 ?_
            rotate_left
            · (try dsimp only at hSq); go_simp; try with_reducible rfl
            simp only [Act.put, List.setIfInBounds_toArray, List.set_cons_zero, List.set_cons_succ]
            refine held_take (i := 17) (v := ?_) rfl (by kernel_rfl) (by kernel_rfl) (by kernel_rfl) (fun _ _ _ h => h) (by rfl) (fun wq hSq => ?_) hHeld0 ?_
            rotate_left
            · (try dsimp only at hSq); go_simp; try with_reducible rfl
            simp only [Act.put, List.setIfInBounds_toArray, List.set_cons_zero, List.set_cons_succ]
            refine held_take (i := 18) (v := ?_) rfl (by kernel_rfl) (by kernel_rfl) (by kernel_rfl) (fun _ _ _ h => h) (by rfl) (fun wq hSq => ?_) hHeld0 ?_
            rotate_left
            · (try dsimp only at hSq); go_simp; try with_reducible rfl
            simp only [Act.put, List.setIfInBounds_toArray, List.set_cons_zero, List.set_cons_succ]
            refine held_take (i := 19) (v := ?_) rfl (by kernel_rfl) (by kernel_rfl) (by kernel_rfl) (fun _ _ _ h => h) (by rfl) (fun wq hSq => ?_) hHeld0 ?_
            rotate_left
            · (try dsimp only at hSq); go_simp; try with_reducible rfl
            simp only [Act.put, List.setIfInBounds_toArray, List.set_cons_zero, List.set_cons_succ]
            refine wpAnyH_done (by kernel_rfl) ?_ _
            clear hHeld0
            go_wp2_with fail
            clear hwr hn2 hn3 HMd HBd HM4 HSP4
            have HCd := Lib.hid (HC4.out.below HBe.out)
            have HRQd := Lib.hid (HRQ4.out.below HBe.out)
            have HFZd := Lib.hid (HFZ4.out.apart (Apart.ofBelow (S := fun _ => False) HBe.out) (fun h => h))
            have HRd := Lib.hid (HR4.out.below HBe.out)
            have HBw := Lib.hid (HB4.out.trans (HBe.out.mono HB4.out.size))
            have hsd : w4.heap.size ≤ wd.heap.size := HBe.out.size
            clear HC4 HRQ4 HFZ4 HR4 HB4 HBe HWD
            go_loopg [11] ql.length (fun k s11 wr => ∃ t : Nat, k = ql.length - t ∧ t ≤ ql.length ∧ s11 = .int .i64 (t : Int) ∧ SomeB wr gz oz ql.length ∧ Apart (fun k => k = gz) wd wr)
            case atStart => exact ⟨0, rfl, Nat.zero_le _, rfl, HFZd.out, Apart.refl _ _⟩
            case round =>
              obtain ⟨t, hk, ht, rfl, hsb, hap⟩ := hrel
              have HK2 := Lib.hid hk
              have HSB := Lib.hid hsb
              have HAP := Lib.hid hap
              clear hk hsb hap
              by_cases hlt3 : t < ql.length
              ·
                have hlt4 : (t : Int) < ql.length := by omega
                obtain ⟨⟨z, hz⟩, hfz⟩ := HSB.out.2 t hlt3
                go_wp2_with fail
                go_roundg (ql.length - (t + 1))
                case measure => have := HK2.out; omega
                case rel => exact ⟨t + 1, rfl, by omega, by go_num, HSB.out.set gz (oz + t) _, HAP.out.tset rfl _⟩
              ·
                have hlt4 : ¬ (t : Int) < ql.length := by omega
                have HBf := Lib.hid (HBw.out.trans (HAP.out.below HBw.out.size (fun i hi h9 => by omega)))
                have HCf := Lib.hid (HCd.out.apart HAP.out (fun k hk h9 => (HZ4.out k hk).1 h9))
                have HRf := Lib.hid (HRd.out.apart HAP.out (by omega))
                have HRQf := Lib.hid (HRQd.out.apart HAP.out (fun k hk _ h9 => by omega))
                clear HSB HAP HK2 HCd HRQd HFZd HRd HBw hlt3 ht
                go_upto_region 23 with fail
                have BEd : Hid (Below wr.heap.size wr wr.drew) := Lib.hid (Below.refl _ _).drew
                have HBg := Lib.hid HBf.out.drew
                have HRg := Lib.hid (HRf.out.below BEd.out)
                have HCg := Lib.hid (HCf.out.below BEd.out)
                have HRQg := Lib.hid (HRQf.out.below BEd.out)
                have hS0 : (fun W => W.cell? ⟨b, off + j, none⟩ = some (Value.slice pq ql.length cq)) wr.drew := (HP.out _ HBg.out).1
                clear HBf HCf HRf HRQf BEd
                refine wp_region_held_drew (S := (fun W => W.cell? ⟨b, off + j, none⟩ = some (Value.slice pq ql.length cq))) (by kernel_rfl) hS0 (fun hHeld0 => ?_)
                generalize wr.drew = wg at *
                have z0 := HRg.out.cell 0 _ rfl
                have z1 := HRg.out.cell 1 _ rfl
                refine held_take (i := 1) (v := ?_) rfl (by kernel_rfl) (by kernel_rfl) (by kernel_rfl) (fun _ _ _ h => h) (by rfl) (fun wq hSq => ?_) hHeld0 ?_
                rotate_left
                · (try dsimp only at hSq); go_simp; try with_reducible rfl
                simp only [Act.put, List.setIfInBounds_toArray, List.set_cons_zero, List.set_cons_succ]
                refine held_take (i := 2) (v := ?_) rfl (by kernel_rfl) (by kernel_rfl) (by kernel_rfl) (fun _ _ _ h => h) (by rfl) (fun wq hSq => ?_) hHeld0 ?_
                rotate_left
                · (try dsimp only at hSq); go_simp; try with_reducible rfl
                simp only [Act.put, List.setIfInBounds_toArray, List.set_cons_zero, List.set_cons_succ]
                refine held_take (i := 3) (v := ?_) rfl (by kernel_rfl) (by kernel_rfl) (by kernel_rfl) (fun _ _ _ h => h) (by rfl) (fun wq hSq => ?_) hHeld0 ?_
                rotate_left
                · (try dsimp only at hSq); go_simp; try with_reducible rfl
                simp only [Act.put, List.setIfInBounds_toArray, List.set_cons_zero, List.set_cons_succ]
                refine held_take (i := 4) (v := ?_) rfl (by kernel_rfl) (by kernel_rfl) (by kernel_rfl) (fun _ _ _ h => h) (by rfl) (fun wq hSq => ?_) hHeld0 ?_
                rotate_left
                · (try dsimp only at hSq); go_simp; try with_reducible rfl
                simp only [Act.put, List.setIfInBounds_toArray, List.set_cons_zero, List.set_cons_succ]
                refine held_step (i := 0) (by kernel_rfl) rfl (by rfl) (fun K hK => ?_)
                go_simp
                clear z0 z1
                refine hK.out _ _ (HP.out _ HBg.out).1 (fun hHeld1 => ?_)
                clear hK K hHeld0
                refine held_step (i := 5) (by kernel_rfl) rfl (by rfl) (fun K hK => ?_)
                go_simp
                refine (takeG_calls wg lw ql dd _ (HP.out _ HBg.out).2 (by omega)).mono ?_
                rintro e9 w9 ⟨xv, rs2, rfl, hrq9, hmp9, hb9⟩
                rw [HT.out] at hmp9 ⊢
                dsimp only at hmp9 ⊢
                have HMP9 := Lib.hid hmp9
                have HRQ9 := Lib.hid hrq9
                have HB9 := Lib.hid (HBg.out.trans (hb9.mono HBg.out.size))
                have HR9 := Lib.hid (HRg.out.below hb9)
                have HC9 := Lib.hid (HCg.out.below hb9)
                have HRQl := Lib.hid (HRQg.out.below hb9)
                have hs9 : wg.heap.size ≤ w9.heap.size := hb9.size
                have HRg6 : Hid (g6 < wg.heap.size) := Lib.hid HRg.out.lt
                clear hmp9 hrq9 hb9 HRg HCg HRQg
                obtain ⟨p2, c2, rfl⟩ := HRQ9.out.forms
                refine hK.out _ _ (HP.out _ HB9.out).1 (fun hHeld2 => ?_)
                clear hK K hHeld1
                refine held_take (i := 6) (v := ?_) rfl (by kernel_rfl) (by kernel_rfl) (by kernel_rfl) (fun _ _ _ h => h) (by rfl) (fun wq hSq => ?_) hHeld2 ?_
                rotate_left
                · (try dsimp only at hSq); go_simp; try with_reducible rfl
                simp only [Act.put, List.setIfInBounds_toArray, List.set_cons_zero, List.set_cons_succ]
                refine held_take (i := 7) (v := ?_) rfl (by kernel_rfl) (by kernel_rfl) (by kernel_rfl) (fun _ _ _ h => h) (by rfl) (fun wq hSq => ?_) hHeld2 ?_
                rotate_left
                · (try dsimp only at hSq); go_simp; try with_reducible rfl
                simp only [Act.put, List.setIfInBounds_toArray, List.set_cons_zero, List.set_cons_succ]
                refine held_take (i := 8) (v := ?_) rfl (by kernel_rfl) (by kernel_rfl) (by kernel_rfl) (fun _ _ _ h => h) (by rfl) (fun wq hSq => ?_) hHeld2 ?_
                rotate_left
                · (try dsimp only at hSq); go_simp; try with_reducible rfl
                simp only [Act.put, List.setIfInBounds_toArray, List.set_cons_zero, List.set_cons_succ]
                refine held_take (i := 9) (v := ?_) rfl (by kernel_rfl) (by kernel_rfl) (by kernel_rfl) (fun _ _ _ h => h) (by rfl) (fun wq hSq => ?_) hHeld2 ?_
                rotate_left
                · (try dsimp only at hSq); go_simp; try with_reducible rfl
                simp only [Act.put, List.setIfInBounds_toArray, List.set_cons_zero, List.set_cons_succ]
                have z0 := HR9.out.cell 0 _ rfl
                have z1 := HR9.out.cell 1 _ rfl
                have f0 := HR9.out.free 0
                have f1 := HR9.out.free 1
                refine held_step (i := 10) (by kernel_rfl) rfl (by rfl) (fun K hK => ?_)
                go_simp
                have HR10 := Lib.hid ((HR9.out.set 0 (.string ⟨rest.toArray⟩) (by simp)).set 1 (.bool d4) (by simp))
                clear z0 z1 f0 f1
                have HA10 : Hid (Apart (fun k => k = g6) w9 ((w9.setCell ⟨g6, 0, none⟩ (.string ⟨rest.toArray⟩)).setCell ⟨g6, 1, none⟩ (.bool d4))) := Lib.hid (((Apart.refl (fun k => k = g6) w9).tset (a := ⟨g6, 0, none⟩) rfl _).tset (a := ⟨g6, 1, none⟩) rfl _)
                have HB10 := Lib.hid (HB9.out.trans (HA10.out.below HB9.out.size (fun i hi h9 => by omega)))
                refine hK.out _ _ (HP.out _ HB10.out).1 (fun hHeld3 => ?_)
                clear hK K hHeld2
                refine held_take (i := 11) (v := ?_) rfl (by kernel_rfl) (by kernel_rfl) (by kernel_rfl) (fun _ _ _ h => h) (by rfl) (fun wq hSq => ?_) hHeld3 ?_
                rotate_left
                · (try dsimp only at hSq); go_simp; try with_reducible rfl
                simp only [Act.put, List.setIfInBounds_toArray, List.set_cons_zero, List.set_cons_succ]
                refine held_take (i := 12) (v := ?_) rfl (by kernel_rfl) (by kernel_rfl) (by kernel_rfl) (fun _ _ _ h => h) (by rfl) (fun wq hSq => ?_) hHeld3 ?_
                rotate_left
                · (try dsimp only at hSq); go_simp; try with_reducible rfl
                simp only [Act.put, List.setIfInBounds_toArray, List.set_cons_zero, List.set_cons_succ]
                refine wpAnyH_done (by kernel_rfl) ?_ _
                clear hHeld3
                have HC10 := Lib.hid (HC9.out.apart HA10.out (fun k hk h9 => (HZ4.out k hk).2 h9))
                have hB9 : g6 < B := by omega
                have HRQ10 := Lib.hid (HRQl.out.apart HA10.out (fun k hk _ h9 => by omega))
                have HRW10 := Lib.hid (HRQ9.out.apart HA10.out (fun k hk _ h9 => by have := HRg6.out; omega))
                generalize hw10 : ((w9.setCell ⟨g6, 0, none⟩ (.string ⟨rest.toArray⟩)).setCell ⟨g6, 1, none⟩ (.bool d4)) = w10 at *
                clear hw10 HR9 HB9 HC9 HRQl HRQ9 HA10
                go_upto_region 24 with fail
                have BEd : Hid (Below w10.heap.size w10 w10.drew) := Lib.hid (Below.refl _ _).drew
                have HR11 := Lib.hid (HR10.out.below BEd.out)
                have HB11 := Lib.hid HB10.out.drew
                have HC11 := Lib.hid (HC10.out.below BEd.out)
                have HRQ11 := Lib.hid (HRQ10.out.below BEd.out)
                have HRW11 := Lib.hid (HRW10.out.below BEd.out)
                have hS0 : (fun W => W.cell? ⟨g6, 0, none⟩ = some (.string ⟨rest.toArray⟩) ∧ W.cell? ⟨g6, 1, none⟩ = some (.bool d4)) w10.drew := ⟨HR11.out.cell 0 _ rfl, HR11.out.cell 1 _ rfl⟩
                clear HR10 HB10 HC10 HRQ10 HRW10 BEd
                refine wp_region_held_drew (S := (fun W => W.cell? ⟨g6, 0, none⟩ = some (.string ⟨rest.toArray⟩) ∧ W.cell? ⟨g6, 1, none⟩ = some (.bool d4))) (by kernel_rfl) hS0 (fun hHeld0 => ?_)
                generalize w10.drew = w11 at *
                refine held_take (i := 0) (v := ?_) rfl (by kernel_rfl) (by kernel_rfl) (by kernel_rfl) (fun _ _ _ h => h) (by rfl) (fun wq hSq => ?_) hHeld0 ?_
                rotate_left
                · (try dsimp only at hSq); go_simp; try with_reducible rfl
                simp only [Act.put, List.setIfInBounds_toArray, List.set_cons_zero, List.set_cons_succ]
                refine held_take (i := 1) (v := ?_) rfl (by kernel_rfl) (by kernel_rfl) (by kernel_rfl) (fun _ _ _ h => h) (by rfl) (fun wq hSq => ?_) hHeld0 ?_
                rotate_left
                · (try dsimp only at hSq); go_simp; try with_reducible rfl
                simp only [Act.put, List.setIfInBounds_toArray, List.set_cons_zero, List.set_cons_succ]
                refine held_step (i := 2) (by kernel_rfl) rfl (by rfl) (fun K hK => ?_)
                go_simp
                refine (lists_trueS w11 _ _ rs rs2 HRQ11.out.reqsS HRW11.out.reqsS (by rw [HMP.out, HMP9.out])).mono ?_
                rintro e9 w12 ⟨rfl, hb12⟩
                dsimp only
                have HR12 := Lib.hid (HR11.out.below hb12)
                have HB12 := Lib.hid (HB11.out.trans (hb12.mono HB11.out.size))
                have HC12 := Lib.hid (HC11.out.below hb12)
                have HRQ12 := Lib.hid (HRQ11.out.below hb12)
                clear hb12 HR11 HB11 HC11 HRQ11 HRW11 HMP9
                refine hK.out _ _ ⟨HR12.out.cell 0 _ rfl, HR12.out.cell 1 _ rfl⟩ (fun hHeld1 => ?_)
                clear hK K hHeld0
                refine held_take (i := 3) (v := ?_) rfl (by kernel_rfl) (by kernel_rfl) (by kernel_rfl) (fun _ _ _ h => h) (by rfl) (fun wq hSq => ?_) hHeld1 ?_
                rotate_left
                · (try dsimp only at hSq); go_simp; try with_reducible rfl
                simp only [Act.put, List.setIfInBounds_toArray, List.set_cons_zero, List.set_cons_succ]
                refine held_take (i := 4) (v := ?_) rfl (by kernel_rfl) (by kernel_rfl) (by kernel_rfl) (fun _ _ _ h => h) (by rfl) (fun wq hSq => ?_) hHeld1 ?_
                rotate_left
                · (try dsimp only at hSq); go_simp; try with_reducible rfl
                simp only [Act.put, List.setIfInBounds_toArray, List.set_cons_zero, List.set_cons_succ]
                refine held_take (i := 5) (v := ?_) rfl (by kernel_rfl) (by kernel_rfl) (by kernel_rfl) (fun _ _ _ h => h) (by rfl) (fun wq hSq => ?_) hHeld1 ?_
                rotate_left
                · (try dsimp only at hSq); go_simp; try with_reducible rfl
                simp only [Act.put, List.setIfInBounds_toArray, List.set_cons_zero, List.set_cons_succ]
                refine held_take (i := 7) (v := ?_) rfl (by kernel_rfl) (by kernel_rfl) (by kernel_rfl) (fun _ _ _ h => h) (by rfl) (fun wq hSq => ?_) hHeld1 ?_
                rotate_left
                · (try dsimp only at hSq); go_simp; try with_reducible rfl
                simp only [Act.put, List.setIfInBounds_toArray, List.set_cons_zero, List.set_cons_succ]
                refine held_step (i := 6) (by kernel_rfl) rfl (by rfl) (fun K hK => ?_)
                go_simp
                refine (num_calls w12 _).mono ?_
                rintro e9 w13 ⟨rfl, rfl⟩
                dsimp only
                refine hK.out _ _ ⟨HR12.out.cell 0 _ rfl, HR12.out.cell 1 _ rfl⟩ (fun hHeld2 => ?_)
                clear hK K hHeld1
                refine held_take (i := 8) (v := ?_) rfl (by kernel_rfl) (by kernel_rfl) (by kernel_rfl) (fun _ _ _ h => h) (by rfl) (fun wq hSq => ?_) hHeld2 ?_
                rotate_left
                · (try dsimp only at hSq); go_simp; try with_reducible rfl
                simp only [Act.put, List.setIfInBounds_toArray, List.set_cons_zero, List.set_cons_succ]
                refine held_take (i := 9) (v := ?_) rfl (by kernel_rfl) (by kernel_rfl) (by kernel_rfl) (fun _ _ _ h => h) (by rfl) (fun wq hSq => ?_) hHeld2 ?_
                rotate_left
                · (try dsimp only at hSq); go_simp; try with_reducible rfl
                simp only [Act.put, List.setIfInBounds_toArray, List.set_cons_zero, List.set_cons_succ]
                refine held_take (i := 10) (v := ?_) rfl (by kernel_rfl) (by kernel_rfl) (by kernel_rfl) (fun _ _ _ h => h) (by rfl) (fun wq hSq => ?_) hHeld2 ?_
                rotate_left
                · (try dsimp only at hSq); go_simp; try with_reducible rfl
                simp only [Act.put, List.setIfInBounds_toArray, List.set_cons_zero, List.set_cons_succ]
                refine held_take (i := 11) (v := ?_) rfl (by kernel_rfl) (by kernel_rfl) (by kernel_rfl) (fun _ _ _ h => h) (by rfl) (fun wq hSq => ?_) hHeld2 ?_
                rotate_left
                · (try dsimp only at hSq); go_simp; try with_reducible rfl
                simp only [Act.put, List.setIfInBounds_toArray, List.set_cons_zero, List.set_cons_succ]
                refine held_take (i := 13) (v := ?_) rfl (by kernel_rfl) (by kernel_rfl) (by kernel_rfl) (fun _ _ _ h => h) (by rfl) (fun wq hSq => ?_) hHeld2 ?_
                rotate_left
                · (try dsimp only at hSq); go_simp; try with_reducible rfl
                simp only [Act.put, List.setIfInBounds_toArray, List.set_cons_zero, List.set_cons_succ]
                refine held_take (i := 14) (v := ?_) rfl (by kernel_rfl) (by kernel_rfl) (by kernel_rfl) (fun _ _ _ h => h) (by rfl) (fun wq hSq => ?_) hHeld2 ?_
                rotate_left
                · (try dsimp only at hSq); go_simp; try with_reducible rfl
                simp only [Act.put, List.setIfInBounds_toArray, List.set_cons_zero, List.set_cons_succ]
                refine held_step (i := 12) (by kernel_rfl) rfl (by rfl) (fun K hK => ?_)
                go_simp
                refine (dead_calls w12 HC12.out).mono ?_
                rintro e9 w13 ⟨rfl, rfl⟩
                dsimp only
                refine hK.out _ _ ⟨HR12.out.cell 0 _ rfl, HR12.out.cell 1 _ rfl⟩ (fun hHeld3 => ?_)
                clear hK K hHeld2
                refine held_take (i := 15) (v := ?_) rfl (by kernel_rfl) (by kernel_rfl) (by kernel_rfl) (fun _ _ _ h => h) (by rfl) (fun wq hSq => ?_) hHeld3 ?_
                rotate_left
                · (try dsimp only at hSq); go_simp; try with_reducible rfl
                simp only [Act.put, List.setIfInBounds_toArray, List.set_cons_zero, List.set_cons_succ]
                refine held_take (i := 16) (v := ?_) rfl (by kernel_rfl) (by kernel_rfl) (by kernel_rfl) (fun _ _ _ h => h) (by rfl) (fun wq hSq => ?_) hHeld3 ?_
                rotate_left
                · (try dsimp only at hSq); go_simp; try with_reducible rfl
                simp only [Act.put, List.setIfInBounds_toArray, List.set_cons_zero, List.set_cons_succ]
                refine held_take (i := 17) (v := ?_) rfl (by kernel_rfl) (by kernel_rfl) (by kernel_rfl) (fun _ _ _ h => h) (by rfl) (fun wq hSq => ?_) hHeld3 ?_
                rotate_left
                · (try dsimp only at hSq); go_simp; try with_reducible rfl
                simp only [Act.put, List.setIfInBounds_toArray, List.set_cons_zero, List.set_cons_succ]
                refine held_take (i := 18) (v := ?_) rfl (by kernel_rfl) (by kernel_rfl) (by kernel_rfl) (fun _ _ _ h => h) (by rfl) (fun wq hSq => ?_) hHeld3 ?_
                rotate_left
                · (try dsimp only at hSq); go_simp; try with_reducible rfl
                simp only [Act.put, List.setIfInBounds_toArray, List.set_cons_zero, List.set_cons_succ]
                refine held_take (i := 20) (v := ?_) rfl (by kernel_rfl) (by kernel_rfl) (by kernel_rfl) (fun _ _ _ h => h) (by rfl) (fun wq hSq => ?_) hHeld3 ?_
                rotate_left
                · (try dsimp only at hSq); go_simp; try with_reducible rfl
                simp only [Act.put, List.setIfInBounds_toArray, List.set_cons_zero, List.set_cons_succ]
                refine held_take (i := 21) (v := ?_) rfl (by kernel_rfl) (by kernel_rfl) (by kernel_rfl) (fun _ _ _ h => h) (by rfl) (fun wq hSq => ?_) hHeld3 ?_
                rotate_left
                · (try dsimp only at hSq); go_simp; try with_reducible rfl
                simp only [Act.put, List.setIfInBounds_toArray, List.set_cons_zero, List.set_cons_succ]
                refine held_take (i := 22) (v := ?_) rfl (by kernel_rfl) (by kernel_rfl) (by kernel_rfl) (fun _ _ _ h => h) (by rfl) (fun wq hSq => ?_) hHeld3 ?_
                rotate_left
                · (try dsimp only at hSq); go_simp; try with_reducible rfl
                simp only [Act.put, List.setIfInBounds_toArray, List.set_cons_zero, List.set_cons_succ]
                refine held_step (i := 19) (by kernel_rfl) rfl (by rfl) (fun K hK => ?_)
                go_simp
                refine (waiting_calls w12 HC12.out).mono ?_
                rintro e9 w13 ⟨rfl, rfl⟩
                dsimp only
                refine hK.out _ _ ⟨HR12.out.cell 0 _ rfl, HR12.out.cell 1 _ rfl⟩ (fun hHeld4 => ?_)
                clear hK K hHeld3
                refine held_take (i := 23) (v := ?_) rfl (by kernel_rfl) (by kernel_rfl) (by kernel_rfl) (fun _ _ _ h => h) (by rfl) (fun wq hSq => ?_) hHeld4 ?_
                rotate_left
                · (try dsimp only at hSq); go_simp; try with_reducible rfl
                simp only [Act.put, List.setIfInBounds_toArray, List.set_cons_zero, List.set_cons_succ]
                refine held_take (i := 24) (v := ?_) rfl (by kernel_rfl) (by kernel_rfl) (by kernel_rfl) (fun _ _ _ h => h) (by rfl) (fun wq hSq => ?_) hHeld4 ?_
                rotate_left
                · (try dsimp only at hSq); go_simp; try with_reducible rfl
                simp only [Act.put, List.setIfInBounds_toArray, List.set_cons_zero, List.set_cons_succ]
                refine wpAnyH_done (by kernel_rfl) ?_ _
                clear hHeld4
                go_wp2_with fail
                have HFL : Hid (FlI w12 B (.slice pl rs.length cl) rs) := Lib.hid (FlI.ofReqs HRQ12.out)
                clear HRQ12
                have hsB : w.heap.size ≤ B := by omega
                have HLT : Hid (∀ k, OwnC C v4 k → k < B) := HLT4
                clear HLT4
                go_loopg [14] rs.length (fun k s14 wr => ∃ t : Nat, k = rs.length - t ∧ t ≤ rs.length ∧ s14 = .int .i64 (t : Int) ∧ FlI wr B (.slice pl rs.length cl) rs ∧ Apart (fun k => B ≤ k) w12 wr)
                case atStart => exact ⟨0, rfl, Nat.zero_le _, rfl, HFL.out, Apart.refl _ _⟩
                case round =>
                  obtain ⟨t, hk, ht, rfl, hfl, hap⟩ := hrel
                  have HK3 := Lib.hid hk
                  have HF3 := Lib.hid hfl
                  have HA3 := Lib.hid hap
                  clear hk hfl hap HFL
                  by_cases hlt3 : t < rs.length
                  ·
                    obtain ⟨gl, cl2, e9, hcl, hml⟩ := HF3.out.at (by omega)
                    simp only [Value.slice.injEq, true_and] at e9
                    obtain ⟨rfl, rfl⟩ := e9
                    obtain ⟨rq, hrq⟩ : ∃ q, rs[t]? = some q := ⟨_, List.getElem?_eq_getElem hlt3⟩
                    obtain ⟨pb, cb, e8, hcb, hmb, hgb⟩ := HF3.out.form rq (List.mem_of_getElem? hrq)
                    have hlt4 : (t : Int) < rs.length := by omega
                    have HRQE := Lib.hid hrq
                    have HE8 := Lib.hid e8
                    have HGB := Lib.hid hgb
                    obtain ⟨N9, hN9⟩ : ∃ n, rq.1.body.length = n := ⟨_, rfl⟩
                    rw [hN9] at HE8 HGB hcb hmb
                    have HN9 := Lib.hid hN9
                    clear hrq e8 hgb hN9
                    go_wp2_with fail
                    go_loopg [15] N9 (fun k s15 wr => ∃ u : Nat, k = N9 - u ∧ u ≤ N9 ∧ s15 = .int .i64 (u : Int) ∧ FlI wr B (.slice (some ⟨gl, 0, none⟩) rs.length cl) rs ∧ Apart (fun k => B ≤ k) w12 wr)
                    case atStart => exact ⟨0, rfl, Nat.zero_le _, rfl, HF3.out, HA3.out⟩
                    case round =>
                      obtain ⟨u, hk, hu, rfl, hfl, hap⟩ := hrel
                      have HK4 := Lib.hid hk
                      have HF4 := Lib.hid hfl
                      have HA4 := Lib.hid hap
                      clear hk hfl hap
                      have y4 := HF4.out.cell HRQE.out
                      rw [HE8.out] at y4
                      by_cases hlt5 : u < N9
                      ·
                        have hlt6 : (u : Int) < N9 := by omega
                        obtain ⟨pb4, cb4, e8, _, _, hgb4⟩ := HF4.out.form rq (List.mem_of_getElem? HRQE.out)
                        rw [HE8.out, HN9.out] at e8
                        rw [HN9.out] at hgb4
                        simp only [Value.slice.injEq, true_and] at e8
                        obtain ⟨rfl, rfl⟩ := e8
                        obtain ⟨gb, rfl, hsb, hBg, hxg⟩ := hgb4 (by omega)
                        obtain ⟨⟨z, hz⟩, hfz⟩ := hsb.2 u hlt5
                        rw [Nat.zero_add] at hz hfz
                        have HXG := Lib.hid hxg
                        clear hsb hxg
                        go_wp2_with fail
                        go_roundg (N9 - (u + 1))
                        case measure => have := HK4.out; omega
                        case rel => exact ⟨u + 1, rfl, by omega, by go_num, HF4.out.set HXG.out u _, HA4.out.tset hBg _⟩
                      ·
                        have hlt6 : ¬ (u : Int) < N9 := by omega
                        go_wp2_with fail
                        go_roundg (rs.length - (t + 1))
                        case measure => have := HK3.out; omega
                        case rel => exact ⟨t + 1, rfl, by omega, by go_num, HF4.out, HA4.out⟩
                  ·
                    have hlt4 : ¬ (t : Int) < rs.length := by omega
                    go_wp2_with fail
                    go_roundg (ps.length - (j + 1))
                    case measure => have := Hk.out; omega
                    case rel =>
                      refine ⟨j + 1, v4, rest, d4, rfl, by omega, by go_num, ⟨HC12.out.apart HA3.out (fun k hk h9 => by have := HLT.out k hk; omega), HR12.out.apart HA3.out (by omega), HB12.out.trans (HA3.out.below HB12.out.size (fun i hi h9 => by omega)), fun k hk => (HZ4.out k hk).2, ?_⟩⟩
                      rw [HS.out]
                      omega
        ·
          have hlt2 : ¬ (j : Int) < ps.length := by omega
          go_wp2_with fail
          refine (nothing_calls wr).mono ?_
          rintro e w3 ⟨rfl, hb3⟩
          have HB3 := Lib.hid (HI.out.bel.trans (hb3.mono HI.out.bel.size))
          clear hb3
          go_wp2_with fail
          refine (works_calls w3 (He.out.below HB3.out)).mono ?_
          rintro e w4 ⟨rfl, hb4⟩
          go_wp2_with fail
          go_ret
          exact ⟨rfl, HB3.out.trans (hb4.mono HB3.out.size)⟩
end Go.Proofs.YtgdfgppgfkkncaaGreatDoor
