/- Lists of requests, wherever they lie. Printed by gen_lists.py. -/
import Derived.Test.YtgdfgppgfkkncaaGreatDoorHtS
namespace Go.Proofs.YtgdfgppgfkkncaaGreatDoor
open Go.RowKit

/-- v is a slice that reads as these requests. -/
def ReqsS (w : World) (v : Value) (rs : List ReqR) : Prop :=
  (v = .slice none 0 0 ∧ rs = []) ∨ ∃ b off cap, v = .slice (some ⟨b, off, none⟩) rs.length cap ∧ rs.length ≤ cap ∧ rs.length ≤ maxLen ∧ b < w.heap.size ∧ ∀ j r, rs[j]? = some r → (∀ i, i < 6 → w.cell? ⟨b, off + j * 6 + i, none⟩ = (reqCells r)[i]?) ∧ ReqS w (reqVal r) r.1
theorem ReqsS.below {w w' : World} {v : Value} {rs : List ReqR} (h : ReqsS w v rs) (hb : Below w.heap.size w w') : ReqsS w' v rs := by
  rcases h with h | ⟨b, off, cap, h1, h2, h3, h4, h5⟩
  · exact .inl h
  · exact .inr ⟨b, off, cap, h1, h2, h3, Nat.lt_of_lt_of_le h4 hb.size, fun j r hr => ⟨fun i hi => (hb.cell (p := ⟨b, off + j * 6 + i, none⟩) h4).trans ((h5 j r hr).1 i hi), (h5 j r hr).2.below hb⟩⟩
theorem ReqsS.forms {w : World} {v : Value} {rs : List ReqR} (h : ReqsS w v rs) : ∃ p cap, v = .slice p rs.length cap ∧ rs.length ≤ cap ∧ rs.length ≤ 9223372036854775807 ∧ (0 < rs.length → ∃ b off, p = some ⟨b, off, none⟩) := by
  rcases h with ⟨rfl, rfl⟩ | ⟨b, off, cap, h1, h2, h3, h4, h5⟩
  · exact ⟨none, 0, rfl, Nat.le_refl _, Nat.zero_le _, fun h => by simp at h⟩
  · exact ⟨_, cap, h1, h2, by unfold maxLen at h3; omega, fun _ => ⟨b, off, rfl⟩⟩
theorem ReqsS.at {w : World} {b off n cap : Nat} {rs : List ReqR} (h : ReqsS w (.slice (some ⟨b, off, none⟩) n cap) rs) {j : Nat} {r : ReqR} (hr : rs[j]? = some r) (i : Nat) (hi : i < 6) : w.cell? ⟨b, off + j * 6 + i, none⟩ = (reqCells r)[i]? := by
  rcases h with ⟨h, _⟩ | ⟨b, off, cap, h1, h2, h3, h4, h5⟩
  · cases h
  · cases h1; exact (h5 j r hr).1 i hi
theorem ReqsS.req {w : World} {v : Value} {rs : List ReqR} (h : ReqsS w v rs) {j : Nat} {r : ReqR} (hr : rs[j]? = some r) : ReqS w (reqVal r) r.1 := by
  rcases h with ⟨_, rfl⟩ | ⟨b, off, cap, h1, h2, h3, h4, h5⟩
  · simp at hr
  · exact (h5 j r hr).2
theorem ReqsV.reqsS {w : World} {B : Nat} {v : Value} {rs : List ReqR} (h : ReqsV w B v rs) : ReqsS w v rs := by
  rcases h.row.2 with ⟨rfl, h2⟩ | ⟨g, cap, cur, rfl, h1, hgg, h3, h4, h5, h6⟩
  · exact .inl ⟨rfl, List.length_eq_zero_iff.1 h2⟩
  · refine .inr ⟨g, 0, cap, rfl, h3, by omega, (Array.getElem?_eq_some_iff.1 hgg).1, fun j r hr => ⟨fun i hi => ?_, h.req (List.mem_of_getElem? hr)⟩⟩
    rw [Nat.zero_add]
    exact h.at rfl hr i hi
set_option maxHeartbeats 4000000 in
set_option maxRecDepth 100000 in
/-- Lists of the same requests. -/
theorem lists_trueS (w : World) (x1 x2 : Value) (rs1 rs2 : List ReqR) (h1 : ReqsS w x1 rs1) (h2 : ReqsS w x2 rs2) (he : rs1.map (·.1) = rs2.map (·.1)) : Calls Tryz.prog 14 #[x1, x2] w fun e w' => e = .returned (.bool true) ∧ Below w.heap.size w w' := by
  obtain ⟨p1, c1, rfl, hc1, _, hp1⟩ := h1.forms
  obtain ⟨p2, c2, rfl, hc2, hmx, hp2⟩ := h2.forms
  have hle : rs1.length = rs2.length := by simpa using congrArg List.length he
  rw [hle] at h1 hc1 hp1 ⊢
  have H1 := Lib.hid h1
  have H2 := Lib.hid h2
  have HE := Lib.hid he
  have HL := Lib.hid hle
  have HP1 := Lib.hid hp1
  have HP2 := Lib.hid hp2
  clear h1 h2 he hle hp1 hp2
  go_enter Tryz.func14, Tryz.ntmps14
  go_wp2_with fail
  go_loopg [5] rs2.length (fun k i wr => ∃ j : Nat, k = rs2.length - j ∧ j ≤ rs2.length ∧ i = .int .i64 (j : Int) ∧ Below w.heap.size w wr)
  case atStart => exact ⟨0, rfl, by omega, rfl, Below.refl _ _⟩
  case round =>
    obtain ⟨j, hk, hj, rfl, hbr⟩ := hrel
    have Hk := Lib.hid hk
    have Hbr := Lib.hid hbr
    clear hk hbr
    by_cases hlt : j < rs2.length
    ·
      have hlt2 : (j : Int) < rs2.length := by omega
      obtain ⟨r2, hr2⟩ : ∃ r, rs2[j]? = some r := ⟨_, List.getElem?_eq_getElem hlt⟩
      obtain ⟨r1, hr1⟩ : ∃ r, rs1[j]? = some r := ⟨_, List.getElem?_eq_getElem (by rw [HL.out]; exact hlt)⟩
      have hq : r1.1 = r2.1 := by
        have h9 := congrArg (·[j]?) HE.out
        simp only [List.getElem?_map, hr1, hr2, Option.map_some, Option.some.injEq] at h9
        exact h9
      obtain ⟨g1, o1, rfl⟩ := HP1.out (by omega)
      obtain ⟨g2, o2, rfl⟩ := HP2.out (by omega)
      have Ha1 := Lib.hid (H1.out.below Hbr.out)
      have Ha2 := Lib.hid (H2.out.below Hbr.out)
      have HQ1 := Lib.hid (Ha1.out.req hr1)
      have HQ2 := Lib.hid (Ha2.out.req hr2)
      rw [hq] at HQ1
      have y10 := Ha1.out.at hr1 0 (by decide)
      have y20 := Ha2.out.at hr2 0 (by decide)
      have y11 := Ha1.out.at hr1 1 (by decide)
      have y21 := Ha2.out.at hr2 1 (by decide)
      have y12 := Ha1.out.at hr1 2 (by decide)
      have y22 := Ha2.out.at hr2 2 (by decide)
      have y13 := Ha1.out.at hr1 3 (by decide)
      have y23 := Ha2.out.at hr2 3 (by decide)
      have y14 := Ha1.out.at hr1 4 (by decide)
      have y24 := Ha2.out.at hr2 4 (by decide)
      have y15 := Ha1.out.at hr1 5 (by decide)
      have y25 := Ha2.out.at hr2 5 (by decide)
      obtain ⟨⟨m1, u1, q1, hs1, bd1, cl1⟩, hv1, bv1⟩ := r1
      obtain ⟨⟨m2, u2, q2, hs2, bd2, cl2⟩, hv2, bv2⟩ := r2
      simp only at hq
      cases hq
      simp only [reqVal] at HQ1 HQ2
      simp only [reqCells, List.getElem?_cons_zero, List.getElem?_cons_succ, Nat.add_zero] at y10 y11 y12 y13 y14 y15 y20 y21 y22 y23 y24 y25
      have Hr1 := Lib.hid hr1
      have Hr2 := Lib.hid hr2
      clear hr1 hr2
      go_upto_region 6 with fail
      have hS0 : (fun W => W.cell? ⟨g1, o1 + j * 6, none⟩ = some (.string ⟨m1.toArray⟩) ∧ W.cell? ⟨g1, o1 + j * 6 + 1, none⟩ = some (.string ⟨u1.toArray⟩) ∧ W.cell? ⟨g1, o1 + j * 6 + 2, none⟩ = some (.string ⟨q1.toArray⟩) ∧ W.cell? ⟨g1, o1 + j * 6 + 3, none⟩ = some (hv1) ∧ W.cell? ⟨g1, o1 + j * 6 + 4, none⟩ = some (bv1) ∧ W.cell? ⟨g1, o1 + j * 6 + 5, none⟩ = some (.bool cl1) ∧ W.cell? ⟨g2, o2 + j * 6, none⟩ = some (.string ⟨m1.toArray⟩) ∧ W.cell? ⟨g2, o2 + j * 6 + 1, none⟩ = some (.string ⟨u1.toArray⟩) ∧ W.cell? ⟨g2, o2 + j * 6 + 2, none⟩ = some (.string ⟨q1.toArray⟩) ∧ W.cell? ⟨g2, o2 + j * 6 + 3, none⟩ = some (hv2) ∧ W.cell? ⟨g2, o2 + j * 6 + 4, none⟩ = some (bv2) ∧ W.cell? ⟨g2, o2 + j * 6 + 5, none⟩ = some (.bool cl1)) wr.drew := ⟨y10, y11, y12, y13, y14, y15, y20, y21, y22, y23, y24, y25⟩
      have K1 := Lib.hid (HQ1.out.below (Below.refl _ _).drew)
      have K2 := Lib.hid (HQ2.out.below (Below.refl _ _).drew)
      have Kb := Lib.hid Hbr.out.drew
      have Ka1 := Lib.hid (Ha1.out.below (Below.refl _ _).drew)
      have Ka2 := Lib.hid (Ha2.out.below (Below.refl _ _).drew)
      refine wp_region_held_drew (S := (fun W => W.cell? ⟨g1, o1 + j * 6, none⟩ = some (.string ⟨m1.toArray⟩) ∧ W.cell? ⟨g1, o1 + j * 6 + 1, none⟩ = some (.string ⟨u1.toArray⟩) ∧ W.cell? ⟨g1, o1 + j * 6 + 2, none⟩ = some (.string ⟨q1.toArray⟩) ∧ W.cell? ⟨g1, o1 + j * 6 + 3, none⟩ = some (hv1) ∧ W.cell? ⟨g1, o1 + j * 6 + 4, none⟩ = some (bv1) ∧ W.cell? ⟨g1, o1 + j * 6 + 5, none⟩ = some (.bool cl1) ∧ W.cell? ⟨g2, o2 + j * 6, none⟩ = some (.string ⟨m1.toArray⟩) ∧ W.cell? ⟨g2, o2 + j * 6 + 1, none⟩ = some (.string ⟨u1.toArray⟩) ∧ W.cell? ⟨g2, o2 + j * 6 + 2, none⟩ = some (.string ⟨q1.toArray⟩) ∧ W.cell? ⟨g2, o2 + j * 6 + 3, none⟩ = some (hv2) ∧ W.cell? ⟨g2, o2 + j * 6 + 4, none⟩ = some (bv2) ∧ W.cell? ⟨g2, o2 + j * 6 + 5, none⟩ = some (.bool cl1))) (by kernel_rfl) hS0 (fun hHeld0 => ?_)
      generalize wr.drew = wd at *
      refine held_take (i := 0) (v := ?_) rfl (by kernel_rfl) (by kernel_rfl) (by kernel_rfl) (fun _ _ _ h => h) (by rfl) (fun wq hSq => ?_) hHeld0 ?_
      rotate_left
      · (try dsimp only at hSq); go_simp; try with_reducible rfl
      simp only [Act.put, List.setIfInBounds_toArray, List.set_cons_zero, List.set_cons_succ]
      refine held_take (i := 1) (v := ?_) rfl (by kernel_rfl) (by kernel_rfl) (by kernel_rfl) (fun _ _ _ h => h) (by rfl) (fun wq hSq => ?_) hHeld0 ?_
      rotate_left
      · (try dsimp only at hSq); go_simp; try with_reducible rfl
      simp only [Act.put, List.setIfInBounds_toArray, List.set_cons_zero, List.set_cons_succ]
      refine held_take (i := 2) (v := ?_) rfl (by kernel_rfl) (by kernel_rfl) (by kernel_rfl) (fun _ _ _ h => h) (by rfl) (fun wq hSq => ?_) hHeld0 ?_
      rotate_left
      · (try dsimp only at hSq); go_simp; try with_reducible rfl
      simp only [Act.put, List.setIfInBounds_toArray, List.set_cons_zero, List.set_cons_succ]
      refine held_take (i := 3) (v := ?_) rfl (by kernel_rfl) (by kernel_rfl) (by kernel_rfl) (fun _ _ _ h => h) (by rfl) (fun wq hSq => ?_) hHeld0 ?_
      rotate_left
      · (try dsimp only at hSq); go_simp; try with_reducible rfl
      simp only [Act.put, List.setIfInBounds_toArray, List.set_cons_zero, List.set_cons_succ]
      refine held_take (i := 4) (v := ?_) rfl (by kernel_rfl) (by kernel_rfl) (by kernel_rfl) (fun _ _ _ h => h) (by rfl) (fun wq hSq => ?_) hHeld0 ?_
      rotate_left
      · (try dsimp only at hSq); go_simp; try with_reducible rfl
      simp only [Act.put, List.setIfInBounds_toArray, List.set_cons_zero, List.set_cons_succ]
      refine held_take (i := 5) (v := ?_) rfl (by kernel_rfl) (by kernel_rfl) (by kernel_rfl) (fun _ _ _ h => h) (by rfl) (fun wq hSq => ?_) hHeld0 ?_
      rotate_left
      · (try dsimp only at hSq); go_simp; try with_reducible rfl
      simp only [Act.put, List.setIfInBounds_toArray, List.set_cons_zero, List.set_cons_succ]
      refine held_take (i := 6) (v := ?_) rfl (by kernel_rfl) (by kernel_rfl) (by kernel_rfl) (fun _ _ _ h => h) (by rfl) (fun wq hSq => ?_) hHeld0 ?_
      rotate_left
      · (try dsimp only at hSq); go_simp; try with_reducible rfl
      simp only [Act.put, List.setIfInBounds_toArray, List.set_cons_zero, List.set_cons_succ]
      refine held_take (i := 7) (v := ?_) rfl (by kernel_rfl) (by kernel_rfl) (by kernel_rfl) (fun _ _ _ h => h) (by rfl) (fun wq hSq => ?_) hHeld0 ?_
      rotate_left
      · (try dsimp only at hSq); go_simp; try with_reducible rfl
      simp only [Act.put, List.setIfInBounds_toArray, List.set_cons_zero, List.set_cons_succ]
      refine held_step (i := 8) (by kernel_rfl) rfl (by rfl) (fun K hK => ?_)
      go_simp
      refine (same_true wd _ _ _ K1.out K2.out).mono ?_
      rintro e9 w9 ⟨rfl, hb9⟩
      dsimp only
      have Kb9 := Lib.hid (Kb.out.trans (hb9.mono Kb.out.size))
      have L1 := Lib.hid (Ka1.out.below hb9)
      have L2 := Lib.hid (Ka2.out.below hb9)
      clear hb9
      have z10 := L1.out.at Hr1.out 0 (by decide)
      have z20 := L2.out.at Hr2.out 0 (by decide)
      have z11 := L1.out.at Hr1.out 1 (by decide)
      have z21 := L2.out.at Hr2.out 1 (by decide)
      have z12 := L1.out.at Hr1.out 2 (by decide)
      have z22 := L2.out.at Hr2.out 2 (by decide)
      have z13 := L1.out.at Hr1.out 3 (by decide)
      have z23 := L2.out.at Hr2.out 3 (by decide)
      have z14 := L1.out.at Hr1.out 4 (by decide)
      have z24 := L2.out.at Hr2.out 4 (by decide)
      have z15 := L1.out.at Hr1.out 5 (by decide)
      have z25 := L2.out.at Hr2.out 5 (by decide)
      simp only [reqCells, List.getElem?_cons_zero, List.getElem?_cons_succ, Nat.add_zero] at z10 z11 z12 z13 z14 z15 z20 z21 z22 z23 z24 z25
      refine hK.out _ _ ⟨z10, z11, z12, z13, z14, z15, z20, z21, z22, z23, z24, z25⟩ (fun hHeld1 => ?_)
      clear hK K hHeld0
      refine held_take (i := 9) (v := ?_) rfl (by kernel_rfl) (by kernel_rfl) (by kernel_rfl) (fun _ _ _ h => h) (by rfl) (fun wq hSq => ?_) hHeld1 ?_
      rotate_left
      · (try dsimp only at hSq); go_simp; try with_reducible rfl
      simp only [Act.put, List.setIfInBounds_toArray, List.set_cons_zero, List.set_cons_succ]
      refine wpAnyH_done (by kernel_rfl) ?_ _
      clear hHeld1
      go_wp2_with fail
      go_roundg (rs2.length - (j + 1))
      case measure => have := Hk.out; omega
      case rel => exact ⟨j + 1, rfl, by omega, by go_num, Kb9.out⟩
    ·
      obtain rfl : j = rs2.length := by omega
      have hlt2 : ¬ (rs2.length : Int) < rs2.length := by omega
      go_wp2_with fail
      go_ret
      exact ⟨rfl, Hbr.out⟩
end Go.Proofs.YtgdfgppgfkkncaaGreatDoor
