/- The walk of the reference's Compare: over any world. Printed by gen_ref12.py. -/
import Derived.Test.YtkakmjdfecbhaaaGreatDoorRef10
import Derived.Test.YtkakmjdfecbhaaaGreatDoorCmpL
namespace Go.Proofs.YtkakmjdfecbhaaaGreatDoor
open Go.RowKit

set_option maxHeartbeats 4000000 in
set_option maxRecDepth 100000 in
theorem compareR_calls (w : World) (a b : Dec) (ha : mayB a = true) (hb : mayB b = true) :
    Calls Tryz.prog 16 #[.agg #[.bool a.neg, .string ⟨a.digits.toArray⟩, .int .i64 a.exp], .agg #[.bool b.neg, .string ⟨b.digits.toArray⟩, .int .i64 b.exp]] w fun e w' => e = .returned (.int .i64 (cmpS a b).1) ∧ Below w.heap.size w w' := by
  obtain ⟨da, la, ea1, ea2⟩ := may_bounds ha
  obtain ⟨db, lb, eb1, eb2⟩ := may_bounds hb
  have Hap : Hid (a.neg ≠ b.neg → (cmpS a b).1 = if a.neg then -1 else 1) := cmp_apart ha hb
  have Hal : Hid (a.neg = b.neg → (cmpS a b).1 = if a.neg then -cmpN (mag a (min a.exp b.exp)) (mag b (min a.exp b.exp)) else cmpN (mag a (min a.exp b.exp)) (mag b (min a.exp b.exp))) := cmp_alike ha hb
  have Hno : Hid (a.digits = [] ∨ b.digits = [] → cmpN (mag a (min a.exp b.exp)) (mag b (min a.exp b.exp)) = cmpN (dval a.digits) (dval b.digits)) := cmp_none
  have Hta : Hid (trim0 a.digits = a.digits ∧ trim0 b.digits = b.digits) := ⟨may_trim ha, may_trim hb⟩
  have Hla := Lib.hid (mag_lt ha (show -1000 ≤ min a.exp b.exp by omega))
  have Hlb := Lib.hid (mag_lt hb (show -1000 ≤ min a.exp b.exp by omega))
  clear ha hb
  obtain ⟨m, hm⟩ : ∃ m, m = min a.exp b.exp := ⟨_, rfl⟩
  have hm1 : m ≤ a.exp := by omega
  have hm2 : m ≤ b.exp := by omega
  have hm3 : -1000 ≤ m := by omega
  have hm4 : m ≤ 1000 := by omega
  rw [← hm] at Hal Hno Hla Hlb
  have Hm := Lib.hid hm
  clear hm
  have h2 := two_at w a b
  have hbel : Below w.heap.size w ((w.alloc (Obj.cells #[Value.bool a.neg, Value.string { data := a.digits.toArray }, Value.int IntKind.i64 a.exp] 24)).alloc (Obj.cells #[Value.bool b.neg, Value.string { data := b.digits.toArray }, Value.int IntKind.i64 b.exp] 24)) := ((Below.refl _ _).alloc (Nat.le_refl _) _).alloc (by simp) _
  go_enter Tryz.func16, Tryz.ntmps16
  go_upto_region 1 with fail
  generalize ((w.alloc (Obj.cells #[Value.bool a.neg, Value.string { data := a.digits.toArray }, Value.int IntKind.i64 a.exp] 24)).alloc (Obj.cells #[Value.bool b.neg, Value.string { data := b.digits.toArray }, Value.int IntKind.i64 b.exp] 24)) = w1 at *
  have HA := Lib.hid h2.1
  have HB := Lib.hid h2.2
  have ka0 := h2.1.c0
  have kb0 := h2.2.c0
  clear h2
  by_cases hn : a.neg = b.neg
  · have hr := Hal.out hn
    have Hr := Lib.hid hr
    clear hr Hal Hap
    have hnn : (a.neg != b.neg) = false := by rw [hn]; simp
    have Hn := Lib.hid hn
    rw [hn] at ka0
    clear hn hnn
    have ka2 := HA.out.c2
    have kb2 := HB.out.c2
    go_upto_region 6 with fail
    rw [← Hm.out]
    clear ka0 kb0 ka2 kb2 Hm
    have hS0 : (fun w' => w'.cell? ⟨w.heap.size, 0, none⟩ = some (.bool a.neg) ∧ w'.cell? ⟨w.heap.size, 1, none⟩ = some (.string ⟨a.digits.toArray⟩) ∧ w'.cell? ⟨w.heap.size, 2, none⟩ = some (.int .i64 a.exp) ∧ w'.cell? ⟨w.heap.size + 1, 0, none⟩ = some (.bool b.neg) ∧ w'.cell? ⟨w.heap.size + 1, 1, none⟩ = some (.string ⟨b.digits.toArray⟩) ∧ w'.cell? ⟨w.heap.size + 1, 2, none⟩ = some (.int .i64 b.exp)) w1.drew := ⟨HA.out.c0, HA.out.c1, HA.out.c2, HB.out.c0, HB.out.c1, HB.out.c2⟩
    go_cut [6] from 19 to 25 (fun u wc => u = .int .i64 (cmpN (mag a m) (mag b m)) ∧ DecAt wc w.heap.size a ∧ DecAt wc (w.heap.size + 1) b ∧ Below w.heap.size w wc)
    case first =>
      refine wp_region_held_drew (S := (fun w' => w'.cell? ⟨w.heap.size, 0, none⟩ = some (.bool a.neg) ∧ w'.cell? ⟨w.heap.size, 1, none⟩ = some (.string ⟨a.digits.toArray⟩) ∧ w'.cell? ⟨w.heap.size, 2, none⟩ = some (.int .i64 a.exp) ∧ w'.cell? ⟨w.heap.size + 1, 0, none⟩ = some (.bool b.neg) ∧ w'.cell? ⟨w.heap.size + 1, 1, none⟩ = some (.string ⟨b.digits.toArray⟩) ∧ w'.cell? ⟨w.heap.size + 1, 2, none⟩ = some (.int .i64 b.exp))) (by kernel_rfl) hS0 (fun hHeld0 => ?_)
      refine held_take (i := 0) (v := ?_) rfl (by kernel_rfl) (by kernel_rfl) (by kernel_rfl) (fun _ _ _ h => h) (by rfl) (fun wq hSq => ?_) hHeld0 ?_
      rotate_left
      · (try dsimp only at hSq); go_simp; try with_reducible rfl
      simp only [Act.put, List.setIfInBounds_toArray, List.set_cons_zero, List.set_cons_succ]
      refine held_take (i := 1) (v := ?_) rfl (by kernel_rfl) (by kernel_rfl) (by kernel_rfl) (fun _ _ _ h => h) (by rfl) (fun wq hSq => ?_) hHeld0 ?_
      rotate_left
      · (try dsimp only at hSq); go_simp; try with_reducible rfl
      simp only [Act.put, List.setIfInBounds_toArray, List.set_cons_zero, List.set_cons_succ]
      refine held_take (i := 3) (v := ?_) rfl (by kernel_rfl) (by kernel_rfl) (by kernel_rfl) (fun _ _ _ h => h) (by rfl) (fun wq hSq => ?_) hHeld0 ?_
      rotate_left
      · (try dsimp only at hSq); go_simp; try with_reducible rfl
      simp only [Act.put, List.setIfInBounds_toArray, List.set_cons_zero, List.set_cons_succ]
      refine held_take (i := 4) (v := ?_) rfl (by kernel_rfl) (by kernel_rfl) (by kernel_rfl) (fun _ _ _ h => h) (by rfl) (fun wq hSq => ?_) hHeld0 ?_
      rotate_left
      · (try dsimp only at hSq); go_simp; try with_reducible rfl
      simp only [Act.put, List.setIfInBounds_toArray, List.set_cons_zero, List.set_cons_succ]
      refine held_step (i := 2) (by kernel_rfl) rfl (by rfl) (fun K hK => ?_)
      go_simp
      refine (scaledR_calls _ a m da (by omega) hm1 (by omega) (by omega)).mono ?_
      rintro e w2 ⟨rfl, hb2⟩
      dsimp only
      have HA2 := HA.out.drew.under hb2
      have HB2 := HB.out.drew.under hb2
      have hbel2 := hbel.drew.trans (hb2.mono hbel.size)
      clear hb2
      refine hK.out _ _ ⟨HA2.c0, HA2.c1, HA2.c2, HB2.c0, HB2.c1, HB2.c2⟩ (fun hHeld1 => ?_)
      clear hK K hHeld0
      refine held_step (i := 5) (by kernel_rfl) rfl (by rfl) (fun K hK => ?_)
      go_simp
      refine (scaledR_calls _ b m db (by omega) hm2 (by omega) (by omega)).mono ?_
      rintro e w3 ⟨rfl, hb3⟩
      dsimp only
      have HA3 := HA2.under hb3
      have HB3 := HB2.under hb3
      have hbel3 := hbel2.trans (hb3.mono hbel2.size)
      clear hb3
      refine hK.out _ _ ⟨HA3.c0, HA3.c1, HA3.c2, HB3.c0, HB3.c1, HB3.c2⟩ (fun hHeld2 => ?_)
      clear hK K hHeld1
      refine held_step (i := 6) (by kernel_rfl) rfl (by rfl) (fun K hK => ?_)
      go_simp
      have hx1 := digS_dig (mag a m)
      have hy1 := digS_dig (mag b m)
      refine (cmpR_calls _ (digS (mag a m)) (digS (mag b m)) hx1.1 hy1.1 hx1.2.2 hy1.2.2).mono ?_
      rintro e w4 ⟨rfl, rfl⟩
      dsimp only
      rw [hx1.2.1, hy1.2.1]
      clear hx1 hy1
      refine hK.out _ _ ⟨HA3.c0, HA3.c1, HA3.c2, HB3.c0, HB3.c1, HB3.c2⟩ (fun hHeld3 => ?_)
      clear hK K hHeld2
      refine held_take (i := 7) (v := ?_) rfl (by kernel_rfl) (by kernel_rfl) (by kernel_rfl) (fun _ _ _ h => h) (by rfl) (fun wq hSq => ?_) hHeld3 ?_
      rotate_left
      · (try dsimp only at hSq); go_simp; try with_reducible rfl
      simp only [Act.put, List.setIfInBounds_toArray, List.set_cons_zero, List.set_cons_succ]
      refine wpAnyH_done (by kernel_rfl) ?_ _
      clear hHeld3
      clear hS0
      go_wp2_with fail
      go_meet
      exact ⟨rfl, HA3, HB3, hbel3⟩
    case rest =>
      obtain ⟨rfl, hA, hB, hbc⟩ := hcut
      clear hS0 HA HB hbel Hla Hlb
      have ka0 := hA.c0
      have ka1 := hA.c1
      have kb1 := hB.c1
      have hcc := cmpN_cases (mag a m) (mag b m)
      have Hfin : Hid ((cmpS a b).1 = if a.neg then -cmpN (mag a m) (mag b m) else cmpN (mag a m) (mag b m)) := Hr.out
      clear Hr hA hB
      have Hcc := Lib.hid hcc
      clear hcc
      generalize cmpN (mag a m) (mag b m) = cv at *
      go_upto_region 7 with fail
      by_cases hna : a.neg = true
      · rw [hna] at ka0
        have Hf : Hid ((cmpS a b).1 = -cv) := by show _ = _; rw [Hfin.out, if_pos hna]
        clear Hfin hna
        by_cases hda : a.digits = []
        · rw [hda] at ka1
          have Hcm : Hid (∀ W : World, Calls Tryz.prog 34 #[.string ⟨#[]⟩, .string ⟨b.digits.toArray⟩] W fun e w' => e = .returned (.int .i64 cv) ∧ W = w') := fun W => by
            have h9 := cmpR_calls W a.digits b.digits da db Hta.out.1 Hta.out.2
            rw [← Hno.out (.inl hda), hda] at h9
            exact h9
          clear hda Hno
          go_wp2_with fail
          refine (Hcm.out _).mono ?_
          rintro e w5 ⟨rfl, rfl⟩
          clear Hcm
          rcases Hcc.out with rfl | rfl | rfl
          all_goals
            go_wp2_with fail
            go_ret
            exact ⟨by rw [Hf.out]; exact congrArg (fun z : Int => Ending.returned (Value.int IntKind.i64 z)) (by kernel_rfl), hbc⟩
        · obtain ⟨ca, ta, hca⟩ : ∃ ca ta, a.digits = ca :: ta := by
            cases h9 : a.digits with
            | nil => exact absurd h9 hda
            | cons ca ta => exact ⟨ca, ta, rfl⟩
          by_cases hdb : b.digits = []
          · rw [hdb] at kb1
            have Hcm : Hid (∀ W : World, Calls Tryz.prog 34 #[.string ⟨(ca :: ta).toArray⟩, .string ⟨#[]⟩] W fun e w' => e = .returned (.int .i64 cv) ∧ W = w') := fun W => by
              have h9 := cmpR_calls W a.digits b.digits da db Hta.out.1 Hta.out.2
              rw [← Hno.out (.inr hdb), hdb, hca] at h9
              exact h9
            rw [hca] at ka1
            clear hda hdb hca Hno
            go_wp2_with fail
            refine (Hcm.out _).mono ?_
            rintro e w5 ⟨rfl, rfl⟩
            clear Hcm
            rcases Hcc.out with rfl | rfl | rfl
            all_goals
              go_wp2_with fail
              go_ret
              exact ⟨by rw [Hf.out]; exact congrArg (fun z : Int => Ending.returned (Value.int IntKind.i64 z)) (by kernel_rfl), hbc⟩
          · obtain ⟨cb, tb, hcb⟩ : ∃ cb tb, b.digits = cb :: tb := by
              cases h9 : b.digits with
              | nil => exact absurd h9 hdb
              | cons cb tb => exact ⟨cb, tb, rfl⟩
            rw [hca] at ka1
            rw [hcb] at kb1
            clear hda hdb hca hcb Hno
            rcases Hcc.out with rfl | rfl | rfl
            all_goals
              go_wp2_with fail
              go_ret
              exact ⟨by rw [Hf.out]; exact congrArg (fun z : Int => Ending.returned (Value.int IntKind.i64 z)) (by kernel_rfl), hbc⟩
      · have hna2 : a.neg = false := by simpa using hna
        rw [hna2] at ka0
        have Hf : Hid ((cmpS a b).1 = cv) := by show _ = _; rw [Hfin.out, if_neg hna]
        clear Hfin hna hna2
        by_cases hda : a.digits = []
        · rw [hda] at ka1
          have Hcm : Hid (∀ W : World, Calls Tryz.prog 34 #[.string ⟨#[]⟩, .string ⟨b.digits.toArray⟩] W fun e w' => e = .returned (.int .i64 cv) ∧ W = w') := fun W => by
            have h9 := cmpR_calls W a.digits b.digits da db Hta.out.1 Hta.out.2
            rw [← Hno.out (.inl hda), hda] at h9
            exact h9
          clear hda Hno
          go_wp2_with fail
          refine (Hcm.out _).mono ?_
          rintro e w5 ⟨rfl, rfl⟩
          clear Hcm
          rcases Hcc.out with rfl | rfl | rfl
          all_goals
            go_wp2_with fail
            go_ret
            exact ⟨by rw [Hf.out]; exact congrArg (fun z : Int => Ending.returned (Value.int IntKind.i64 z)) (by kernel_rfl), hbc⟩
        · obtain ⟨ca, ta, hca⟩ : ∃ ca ta, a.digits = ca :: ta := by
            cases h9 : a.digits with
            | nil => exact absurd h9 hda
            | cons ca ta => exact ⟨ca, ta, rfl⟩
          by_cases hdb : b.digits = []
          · rw [hdb] at kb1
            have Hcm : Hid (∀ W : World, Calls Tryz.prog 34 #[.string ⟨(ca :: ta).toArray⟩, .string ⟨#[]⟩] W fun e w' => e = .returned (.int .i64 cv) ∧ W = w') := fun W => by
              have h9 := cmpR_calls W a.digits b.digits da db Hta.out.1 Hta.out.2
              rw [← Hno.out (.inr hdb), hdb, hca] at h9
              exact h9
            rw [hca] at ka1
            clear hda hdb hca Hno
            go_wp2_with fail
            refine (Hcm.out _).mono ?_
            rintro e w5 ⟨rfl, rfl⟩
            clear Hcm
            rcases Hcc.out with rfl | rfl | rfl
            all_goals
              go_wp2_with fail
              go_ret
              exact ⟨by rw [Hf.out]; exact congrArg (fun z : Int => Ending.returned (Value.int IntKind.i64 z)) (by kernel_rfl), hbc⟩
          · obtain ⟨cb, tb, hcb⟩ : ∃ cb tb, b.digits = cb :: tb := by
              cases h9 : b.digits with
              | nil => exact absurd h9 hdb
              | cons cb tb => exact ⟨cb, tb, rfl⟩
            rw [hca] at ka1
            rw [hcb] at kb1
            clear hda hdb hca hcb Hno
            rcases Hcc.out with rfl | rfl | rfl
            all_goals
              go_wp2_with fail
              go_ret
              exact ⟨by rw [Hf.out]; exact congrArg (fun z : Int => Ending.returned (Value.int IntKind.i64 z)) (by kernel_rfl), hbc⟩
  · have hr := Hap.out hn
    by_cases hna : a.neg = true
    · have hnb : b.neg = false := by cases h9 : b.neg with
        | false => rfl
        | true => exact absurd (hna.trans h9.symm) hn
      rw [hna] at ka0
      rw [hnb] at kb0
      have Hf : Hid ((cmpS a b).1 = -1) := by show _ = _; rw [hr, if_pos hna]
      clear hr hn hna hnb Hap Hal
      go_wp2_with fail
      go_ret
      exact ⟨by rw [Hf.out]; rfl, hbel⟩
    · have hna2 : a.neg = false := by simpa using hna
      have hnb : b.neg = true := by cases h9 : b.neg with
        | true => rfl
        | false => exact absurd (hna2.trans h9.symm) hn
      rw [hna2] at ka0
      rw [hnb] at kb0
      have Hf : Hid ((cmpS a b).1 = 1) := by show _ = _; rw [hr, if_neg hna]
      clear hr hn hna hna2 hnb Hap Hal
      go_wp2_with fail
      go_ret
      exact ⟨by rw [Hf.out]; rfl, hbel⟩
end Go.Proofs.YtkakmjdfecbhaaaGreatDoor
