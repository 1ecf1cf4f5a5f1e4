/- The walk of DecimalMultiples: it returns true, at any two decimals, over any world with the library's table of powers of ten. Printed by gen_mult.py. -/
import Derived.Test.YtkakmjdfecbhaaaGreatDoorRef10
import Derived.Test.YtkakmjdfecbhaaaGreatDoorDec10
import Derived.Test.YtkakmjdfecbhaaaGreatDoorEql
namespace Go.Proofs.YtkakmjdfecbhaaaGreatDoor
open Go.RowKit

theorem DecsRaw.two (w : World) (a b : Dec) (ha : a.digits.length ≤ maxLen) (hb : b.digits.length ≤ maxLen) :
    DecsRaw (w.alloc (.cells #[.bool a.neg, .string ⟨a.digits.toArray⟩, .int .i64 a.exp, .bool b.neg, .string ⟨b.digits.toArray⟩, .int .i64 b.exp] 24)) (.slice (some ⟨w.heap.size, 0, none⟩) 2 2) [a, b] := by
  refine ⟨_, 2, rfl, by simp [maxLen], fun j hj => ?_, fun _ => ⟨w.heap.size, 0, rfl, by simp, fun j hj => ?_⟩⟩
  · have hj : j = 0 ∨ j = 1 := by simp at hj; omega
    rcases hj with rfl | rfl
    · exact ha
    · exact hb
  · have hj : j = 0 ∨ j = 1 := by simp at hj; omega
    rcases hj with rfl | rfl
    all_goals
      refine ⟨?_, ?_, ?_⟩
      all_goals rw [World.cell?_alloc_at _ _ _ _ rfl]; rfl
theorem all2 (w : World) (a b : Dec) : AllAt ((w.alloc (.cells #[.bool a.neg, .string ⟨a.digits.toArray⟩, .int .i64 a.exp] 24)).alloc (.cells #[.bool b.neg, .string ⟨b.digits.toArray⟩, .int .i64 b.exp] 24)) [(w.heap.size, a), (w.heap.size + 1, b)] := by
  intro p hp
  simp only [List.mem_cons, List.not_mem_nil, or_false] at hp
  rcases hp with rfl | rfl
  · exact (DecAt.at w a _ rfl).alloc _
  · exact DecAt.at (w.alloc _) b _ (by simp)
theorem AllAt.drew {w : World} {l : List (Nat × Dec)} (h : AllAt w l) : AllAt w.drew l := fun p hp => (h p hp).drew
theorem longB_two {a b : Dec} (h : longB [a, b] = false) : a.digits.length ≤ 1000 ∧ b.digits.length ≤ 1000 := by
  simp [longB] at h; omega
/-- Both may be; the second is above 0. -/
def goodB (a b : Dec) : Bool := mayB a && mayB b
def aboveB (b : Dec) : Bool := !b.neg && !b.digits.isEmpty
theorem mult_no {a b : Dec} (h : goodB a b = false ∨ aboveB b = false) : multipleS a b = (false, 2) ∧ commonS a b = (Dec.zero, 2) := by
  unfold goodB aboveB at h
  unfold multipleS commonS posB
  constructor
  · rw [if_neg]
    intro hh
    simp only [Bool.and_eq_true] at hh
    rcases h with h | h
    · rw [hh.1, hh.2.1.1] at h; cases h
    · rw [hh.2.1.2, hh.2.2] at h; cases h
  · rw [if_neg]
    intro hh
    simp only [Bool.and_eq_true] at hh
    rcases h with h | h
    · rw [hh.1.1.1, hh.2.1.1] at h; cases h
    · rw [hh.2.1.2, hh.2.2] at h; cases h
theorem mult_yes {a b : Dec} (h1 : goodB a b = true) (h2 : aboveB b = true) : mayB a = true ∧ posB b = true ∧ (multipleS a b).2 = 0 ∧ (commonS a b ≠ commonS a b → False) ∧ (a.neg = true ∨ a.digits = [] → commonS a b = (Dec.zero, 2)) ∧ (a.neg = false → a.digits ≠ [] → posB a = true) := by
  unfold goodB at h1
  unfold aboveB at h2
  simp only [Bool.and_eq_true] at h1 h2
  have hp : posB b = true := by unfold posB; rw [h1.2, h2.1, h2.2]; rfl
  refine ⟨h1.1, hp, by unfold multipleS; rw [if_pos (by rw [h1.1, hp]; rfl)], fun h => h rfl, fun h => ?_, fun g1 g2 => ?_⟩
  · unfold commonS
    rw [if_neg]
    intro hh
    simp only [Bool.and_eq_true] at hh
    unfold posB at hh
    simp only [Bool.and_eq_true] at hh
    rcases h with h | h
    · rw [h] at hh; simp at hh
    · rw [h] at hh; simp at hh
  · unfold posB; rw [h1.1, g1]; simp [g2]

set_option maxHeartbeats 4000000 in
set_option maxRecDepth 100000 in
theorem multiples_calls (w : World) (a b : Dec) (hla : a.digits.length ≤ maxLen) (hlb : b.digits.length ≤ maxLen) (ht : Tab w) :
    Calls Tryz.prog 4 #[.agg #[.bool a.neg, .string ⟨a.digits.toArray⟩, .int .i64 a.exp], .agg #[.bool b.neg, .string ⟨b.digits.toArray⟩, .int .i64 b.exp]] w fun e w' => e = .returned (.bool true) ∧ Below w.heap.size w w' := by
  have h1 := all2 w a b
  have hb3 : Below w.heap.size w ((w.alloc (Obj.cells #[Value.bool a.neg, Value.string { data := a.digits.toArray }, Value.int IntKind.i64 a.exp] 24)).alloc (Obj.cells #[Value.bool b.neg, Value.string { data := b.digits.toArray }, Value.int IntKind.i64 b.exp] 24)) := ((Below.refl _ _).alloc (Nat.le_refl _) _).alloc (by simp) _
  have hsz : ((w.alloc (Obj.cells #[Value.bool a.neg, Value.string { data := a.digits.toArray }, Value.int IntKind.i64 a.exp] 24)).alloc (Obj.cells #[Value.bool b.neg, Value.string { data := b.digits.toArray }, Value.int IntKind.i64 b.exp] 24)).heap.size = w.heap.size + 1 + 1 := by simp
  have hr := DecsRaw.two ((w.alloc (Obj.cells #[Value.bool a.neg, Value.string { data := a.digits.toArray }, Value.int IntKind.i64 a.exp] 24)).alloc (Obj.cells #[Value.bool b.neg, Value.string { data := b.digits.toArray }, Value.int IntKind.i64 b.exp] 24)) a b hla hlb
  rw [hsz] at hr
  have H0 := Lib.hid h1
  have Ht0 := Lib.hid (ht.below hb3)
  have Hr := Lib.hid hr
  have Hsz := Lib.hid hsz
  clear h1 hr hsz ht
  go_enter Tryz.func4, Tryz.ntmps4
  go_wp2_with fail
  have hr := Hr.out
  clear Hr Hsz
  generalize ((w.alloc (Obj.cells #[Value.bool a.neg, Value.string { data := a.digits.toArray }, Value.int IntKind.i64 a.exp] 24)).alloc (Obj.cells #[Value.bool b.neg, Value.string { data := b.digits.toArray }, Value.int IntKind.i64 b.exp] 24)) = w1 at *
  refine (long_calls _ _ [a, b] hr).mono ?_
  rintro e w2 ⟨rfl, rfl⟩
  have hc2 : Below w1.heap.size w1 (w1.alloc (Obj.cells #[Value.bool a.neg, Value.string { data := a.digits.toArray }, Value.int IntKind.i64 a.exp, Value.bool b.neg, Value.string { data := b.digits.toArray }, Value.int IntKind.i64 b.exp] 24)) := (Below.refl _ _).alloc (Nat.le_refl _) _
  have H1 := Lib.hid (H0.out.under hc2)
  have Ht1 := Lib.hid (Ht0.out.below hc2)
  have hbel1 := hb3.trans (hc2.mono hb3.size)
  clear hc2 H0 Ht0 hb3 hr
  generalize (w1.alloc (Obj.cells #[Value.bool a.neg, Value.string { data := a.digits.toArray }, Value.int IntKind.i64 a.exp, Value.bool b.neg, Value.string { data := b.digits.toArray }, Value.int IntKind.i64 b.exp] 24)) = w2 at *
  cases hL : longB [a, b] with
  | true =>
    clear hL
    go_wp2_with fail
    refine (works_calls _ Ht1.out).mono ?_
    rintro e wz ⟨rfl, hbz⟩
    have hbf := hbel1.trans (hbz.mono hbel1.size)
    clear hbz H1 Ht1 hbel1 
    go_wp2_with fail
    go_ret
    exact ⟨rfl, hbf⟩
  | false =>
    obtain ⟨la, lb⟩ := longB_two hL
    clear hL hla hlb
    have ka0 : w2.cell? ⟨w.heap.size, 0, none⟩ = some (.bool a.neg) := (H1.out (w.heap.size, a) (by simp)).c0
    have ka1 : w2.cell? ⟨w.heap.size, 1, none⟩ = some (.string ⟨a.digits.toArray⟩) := (H1.out (w.heap.size, a) (by simp)).c1
    have ka2 : w2.cell? ⟨w.heap.size, 2, none⟩ = some (.int .i64 a.exp) := (H1.out (w.heap.size, a) (by simp)).c2
    have kb0 : w2.cell? ⟨w.heap.size + 1, 0, none⟩ = some (.bool b.neg) := (H1.out (w.heap.size + 1, b) (by simp)).c0
    have kb1 : w2.cell? ⟨w.heap.size + 1, 1, none⟩ = some (.string ⟨b.digits.toArray⟩) := (H1.out (w.heap.size + 1, b) (by simp)).c1
    have kb2 : w2.cell? ⟨w.heap.size + 1, 2, none⟩ = some (.int .i64 b.exp) := (H1.out (w.heap.size + 1, b) (by simp)).c2
    go_wp2_with fail
    refine (multiple_calls _ a b (by omega) (by omega)).mono ?_
    rintro e w2 ⟨rfl, hb2⟩
    have hc2 := hb2
    have H2 := Lib.hid (H1.out.under hc2)
    have Ht2 := Lib.hid (Ht1.out.below hc2)
    have hbel2 := hbel1.trans (hc2.mono hbel1.size)
    clear hb2 hc2 H1 Ht1 hbel1 ka0 ka1 ka2 kb0 kb1 kb2
    have ka0 : w2.cell? ⟨w.heap.size, 0, none⟩ = some (.bool a.neg) := (H2.out (w.heap.size, a) (by simp)).c0
    have ka1 : w2.cell? ⟨w.heap.size, 1, none⟩ = some (.string ⟨a.digits.toArray⟩) := (H2.out (w.heap.size, a) (by simp)).c1
    have ka2 : w2.cell? ⟨w.heap.size, 2, none⟩ = some (.int .i64 a.exp) := (H2.out (w.heap.size, a) (by simp)).c2
    have kb0 : w2.cell? ⟨w.heap.size + 1, 0, none⟩ = some (.bool b.neg) := (H2.out (w.heap.size + 1, b) (by simp)).c0
    have kb1 : w2.cell? ⟨w.heap.size + 1, 1, none⟩ = some (.string ⟨b.digits.toArray⟩) := (H2.out (w.heap.size + 1, b) (by simp)).c1
    have kb2 : w2.cell? ⟨w.heap.size + 1, 2, none⟩ = some (.int .i64 b.exp) := (H2.out (w.heap.size + 1, b) (by simp)).c2
    go_wp2_with fail
    refine (commond_calls _ a b (by omega) (by omega)).mono ?_
    rintro e w3 ⟨rfl, hb3⟩
    have hc3 := hb3
    have H3 := Lib.hid (H2.out.under hc3)
    have Ht3 := Lib.hid (Ht2.out.below hc3)
    have hbel3 := hbel2.trans (hc3.mono hbel2.size)
    clear hb3 hc3 H2 Ht2 hbel2 ka0 ka1 ka2 kb0 kb1 kb2
    simp only [DecV]
    have Hno : Hid (goodB a b = false ∨ aboveB b = false → multipleS a b = (false, 2) ∧ commonS a b = (Dec.zero, 2)) := mult_no
    have Hyes : Hid (goodB a b = true → aboveB b = true → mayB a = true ∧ posB b = true ∧ (multipleS a b).2 = 0 ∧ (commonS a b ≠ commonS a b → False) ∧ (a.neg = true ∨ a.digits = [] → commonS a b = (Dec.zero, 2)) ∧ (a.neg = false → a.digits ≠ [] → posB a = true)) := mult_yes
    have Hcr : Hid (∀ (W : World), mayB a = true → posB b = true → posB a = true → Calls Tryz.prog 20 #[.agg #[.bool a.neg, .string ⟨a.digits.toArray⟩, .int .i64 a.exp], .agg #[.bool b.neg, .string ⟨b.digits.toArray⟩, .int .i64 b.exp]] W fun e w' => e = .returned (.tuple #[DecV (commonS a b).1, .int .i64 (commonS a b).2]) ∧ Below W.heap.size W w') := fun W h1 h2 h3 => commonR_calls W a b h1 h2 h3
    have Hmr : Hid (∀ (W : World), mayB a = true → posB b = true → Calls Tryz.prog 19 #[.agg #[.bool a.neg, .string ⟨a.digits.toArray⟩, .int .i64 a.exp], .agg #[.bool b.neg, .string ⟨b.digits.toArray⟩, .int .i64 b.exp]] W fun e w' => e = .returned (.bool (multipleS a b).1) ∧ Below W.heap.size W w') := fun W h1 h2 => multipleR_calls W a b h1 h2
    generalize multipleS a b = q1 at *
    generalize commonS a b = q2 at *
    obtain ⟨ok, e1⟩ := q1
    obtain ⟨x, e2⟩ := q2
    simp only at *
    simp only [DecV] at Hcr
    have H4 := Lib.hid ((H3.out.alloc (Obj.cells #[Value.bool x.neg, Value.string { data := x.digits.toArray }, Value.int IntKind.i64 x.exp] 24)).push (DecAt.at w3 x _ rfl))
    have Ht4 := Lib.hid (Ht3.out.alloc (Obj.cells #[Value.bool x.neg, Value.string { data := x.digits.toArray }, Value.int IntKind.i64 x.exp] 24))
    have hbel4 := hbel3.alloc hbel3.size (Obj.cells #[Value.bool x.neg, Value.string { data := x.digits.toArray }, Value.int IntKind.i64 x.exp] 24)
    clear H3 Ht3 hbel3
    go_upto_region 5 with fail
    go_cut [9, 10] from 30 to 43 (fun g ab wc => g = .bool (goodB a b) ∧ ab = .bool (aboveB b) ∧ AllAt wc [(w3.heap.size, x), (w.heap.size, a), (w.heap.size + 1, b)] ∧ Tab wc ∧ Below w.heap.size w wc)
    case first =>
      cases hma : mayB a with
      | true =>
        have Hma := Lib.hid hma
        cases hmb : mayB b with
        | true =>
          have Hmb := Lib.hid hmb
          have Hg : Hid (goodB a b = true) := by show goodB a b = _; unfold goodB; rw [hma, hmb]; rfl
          clear hma hmb
          by_cases hbn : b.neg = true
          ·
            have Hab : Hid (aboveB b = false) := by show aboveB b = false; unfold aboveB; rw [hbn]; rfl
            have Hbn := Lib.hid hbn
            clear hbn
            have hS0 : (fun w' => w'.cell? ⟨w.heap.size, 0, none⟩ = some (.bool a.neg) ∧ w'.cell? ⟨w.heap.size, 1, none⟩ = some (.string ⟨a.digits.toArray⟩) ∧ w'.cell? ⟨w.heap.size, 2, none⟩ = some (.int .i64 a.exp) ∧ w'.cell? ⟨w.heap.size + 1, 0, none⟩ = some (.bool true) ∧ w'.cell? ⟨w.heap.size + 1, 1, none⟩ = some (.string ⟨b.digits.toArray⟩) ∧ w'.cell? ⟨w.heap.size + 1, 2, none⟩ = some (.int .i64 b.exp)) (w3.alloc (Obj.cells #[Value.bool x.neg, Value.string { data := x.digits.toArray }, Value.int IntKind.i64 x.exp] 24)).drew := ⟨(H4.out (w.heap.size, a) (by simp)).c0, (H4.out (w.heap.size, a) (by simp)).c1, (H4.out (w.heap.size, a) (by simp)).c2, (by have h9 := (H4.out (w.heap.size + 1, b) (by simp)).c0; rw [Hbn.out] at h9; exact h9), (H4.out (w.heap.size + 1, b) (by simp)).c1, (H4.out (w.heap.size + 1, b) (by simp)).c2⟩
            have Hmc : Hid (∀ W : World, Calls Tryz.prog 9 #[.agg #[.bool true, .string ⟨b.digits.toArray⟩, .int .i64 b.exp]] W fun e w' => e = .returned (.bool (mayB b)) ∧ Below W.heap.size W w') := fun W => by
              have h9 := mayR_calls W b (by omega)
              rw [Hbn.out] at h9
              exact h9
            refine wp_region_held_drew (S := (fun w' => w'.cell? ⟨w.heap.size, 0, none⟩ = some (.bool a.neg) ∧ w'.cell? ⟨w.heap.size, 1, none⟩ = some (.string ⟨a.digits.toArray⟩) ∧ w'.cell? ⟨w.heap.size, 2, none⟩ = some (.int .i64 a.exp) ∧ w'.cell? ⟨w.heap.size + 1, 0, none⟩ = some (.bool true) ∧ w'.cell? ⟨w.heap.size + 1, 1, none⟩ = some (.string ⟨b.digits.toArray⟩) ∧ w'.cell? ⟨w.heap.size + 1, 2, none⟩ = some (.int .i64 b.exp))) (by kernel_rfl) hS0 (fun hHeld0 => ?_)
            refine held_take (i := 0) (v := ?_) rfl (by kernel_rfl) (by kernel_rfl) (by kernel_rfl) (fun _ _ _ h => h) (by rfl) (fun wq hSq => ?_) hHeld0 ?_
            rotate_left
            · (try dsimp only at hSq); go_simp; try with_reducible rfl
            simp only [Act.put, List.setIfInBounds_toArray, List.set_cons_zero, List.set_cons_succ]
            refine held_take (i := 6) (v := ?_) rfl (by kernel_rfl) (by kernel_rfl) (by kernel_rfl) (fun _ _ _ h => h) (by rfl) (fun wq hSq => ?_) hHeld0 ?_
            rotate_left
            · (try dsimp only at hSq); go_simp; try with_reducible rfl
            simp only [Act.put, List.setIfInBounds_toArray, List.set_cons_zero, List.set_cons_succ]
            refine held_take (i := 7) (v := ?_) rfl (by kernel_rfl) (by kernel_rfl) (by kernel_rfl) (fun _ _ _ h => h) (by rfl) (fun wq hSq => ?_) hHeld0 ?_
            rotate_left
            · (try dsimp only at hSq); go_simp; try with_reducible rfl
            simp only [Act.put, List.setIfInBounds_toArray, List.set_cons_zero, List.set_cons_succ]
            refine held_take (i := 8) (v := ?_) rfl (by kernel_rfl) (by kernel_rfl) (by kernel_rfl) (fun _ _ _ h => h) (by rfl) (fun wq hSq => ?_) hHeld0 ?_
            rotate_left
            · (try dsimp only at hSq); go_simp; try with_reducible rfl
            simp only [Act.put, List.setIfInBounds_toArray, List.set_cons_zero, List.set_cons_succ]
            refine held_step (i := 1) (by kernel_rfl) rfl (by rfl) (fun K hK => ?_)
            go_simp
            refine (mayR_calls _ a (by omega)).mono ?_
            rintro e v5 ⟨rfl, hb5⟩
            dsimp only
            rw [Hma.out]
            have H5 := Lib.hid (AllAt.under (l := [(w3.heap.size, x), (w.heap.size, a), (w.heap.size + 1, b)]) H4.out.drew hb5)
            have Ht5 := Lib.hid (Tab.below (Ht4.out.below (Below.refl _ _).drew) hb5)
            have hbel5 := hbel4.drew.trans (hb5.mono hbel4.size)
            clear hb5
            refine hK.out _ _ ⟨(H5.out (w.heap.size, a) (by simp)).c0, (H5.out (w.heap.size, a) (by simp)).c1, (H5.out (w.heap.size, a) (by simp)).c2, (by have h9 := (H5.out (w.heap.size + 1, b) (by simp)).c0; rw [Hbn.out] at h9; exact h9), (H5.out (w.heap.size + 1, b) (by simp)).c1, (H5.out (w.heap.size + 1, b) (by simp)).c2⟩ (fun hHeld1 => ?_)
            clear hK K hHeld0
            refine held_take (i := 2) (v := ?_) rfl (by kernel_rfl) (by kernel_rfl) (by kernel_rfl) (fun _ _ _ h => h) (by rfl) (fun wq hSq => ?_) hHeld1 ?_
            rotate_left
            · (try dsimp only at hSq); go_simp; try with_reducible rfl
            simp only [Act.put, List.setIfInBounds_toArray, List.set_cons_zero, List.set_cons_succ]
            refine held_take (i := 3) (v := ?_) rfl (by kernel_rfl) (by kernel_rfl) (by kernel_rfl) (fun _ _ _ h => h) (by rfl) (fun wq hSq => ?_) hHeld1 ?_
            rotate_left
            · (try dsimp only at hSq); go_simp; try with_reducible rfl
            simp only [Act.put, List.setIfInBounds_toArray, List.set_cons_zero, List.set_cons_succ]
            refine held_step (i := 4) (by kernel_rfl) rfl (by rfl) (fun K hK => ?_)
            go_simp
            refine (Hmc.out _).mono ?_
            rintro e v6 ⟨rfl, hb6⟩
            dsimp only
            rw [Hmb.out]
            have H6 := Lib.hid (AllAt.under (l := [(w3.heap.size, x), (w.heap.size, a), (w.heap.size + 1, b)]) H5.out hb6)
            have Ht6 := Lib.hid (Tab.below Ht5.out hb6)
            have hbel6 := hbel5.trans (hb6.mono hbel5.size)
            clear hb6
            refine hK.out _ _ ⟨(H6.out (w.heap.size, a) (by simp)).c0, (H6.out (w.heap.size, a) (by simp)).c1, (H6.out (w.heap.size, a) (by simp)).c2, (by have h9 := (H6.out (w.heap.size + 1, b) (by simp)).c0; rw [Hbn.out] at h9; exact h9), (H6.out (w.heap.size + 1, b) (by simp)).c1, (H6.out (w.heap.size + 1, b) (by simp)).c2⟩ (fun hHeld2 => ?_)
            clear hK K hHeld1
            refine held_take (i := 5) (v := ?_) rfl (by kernel_rfl) (by kernel_rfl) (by kernel_rfl) (fun _ _ _ h => h) (by rfl) (fun wq hSq => ?_) hHeld2 ?_
            rotate_left
            · (try dsimp only at hSq); go_simp; try with_reducible rfl
            simp only [Act.put, List.setIfInBounds_toArray, List.set_cons_zero, List.set_cons_succ]
            refine held_take (i := 9) (v := ?_) rfl (by kernel_rfl) (by kernel_rfl) (by kernel_rfl) (fun _ _ _ h => h) (by rfl) (fun wq hSq => ?_) hHeld2 ?_
            rotate_left
            · (try dsimp only at hSq); go_simp; try with_reducible rfl
            simp only [Act.put, List.setIfInBounds_toArray, List.set_cons_zero, List.set_cons_succ]
            refine held_skip (i := 10) rfl (by kernel_rfl) (by kernel_rfl) (by kernel_rfl) (fun _ _ _ h => h) (by rfl) hHeld2 ?_
            simp only [Act.put, List.setIfInBounds_toArray, List.set_cons_zero, List.set_cons_succ]
            refine held_skip (i := 11) rfl (by kernel_rfl) (by kernel_rfl) (by kernel_rfl) (fun _ _ _ h => h) (by rfl) hHeld2 ?_
            simp only [Act.put, List.setIfInBounds_toArray, List.set_cons_zero, List.set_cons_succ]
            refine held_skip (i := 12) rfl (by kernel_rfl) (by kernel_rfl) (by kernel_rfl) (fun _ _ _ h => h) (by rfl) hHeld2 ?_
            simp only [Act.put, List.setIfInBounds_toArray, List.set_cons_zero, List.set_cons_succ]
            refine held_take (i := 13) (v := ?_) rfl (by kernel_rfl) (by kernel_rfl) (by kernel_rfl) (fun _ _ _ h => h) (by rfl) (fun wq hSq => ?_) hHeld2 ?_
            rotate_left
            · (try dsimp only at hSq); go_simp; try with_reducible rfl
            simp only [Act.put, List.setIfInBounds_toArray, List.set_cons_zero, List.set_cons_succ]
            refine held_take (i := 14) (v := ?_) rfl (by kernel_rfl) (by kernel_rfl) (by kernel_rfl) (fun _ _ _ h => h) (by rfl) (fun wq hSq => ?_) hHeld2 ?_
            rotate_left
            · (try dsimp only at hSq); go_simp; try with_reducible rfl
            simp only [Act.put, List.setIfInBounds_toArray, List.set_cons_zero, List.set_cons_succ]
            refine held_take (i := 15) (v := ?_) rfl (by kernel_rfl) (by kernel_rfl) (by kernel_rfl) (fun _ _ _ h => h) (by rfl) (fun wq hSq => ?_) hHeld2 ?_
            rotate_left
            · (try dsimp only at hSq); go_simp; try with_reducible rfl
            simp only [Act.put, List.setIfInBounds_toArray, List.set_cons_zero, List.set_cons_succ]
            refine wpAnyH_done (by kernel_rfl) ?_ _
            clear hHeld2
            clear hS0
            go_wp2_with fail
            go_meet
            exact ⟨by rw [Hg.out], by rw [Hab.out], H6.out, Ht6.out, hbel6⟩
          ·
            have hbn2 : b.neg = false := by simpa using hbn
            clear hbn
            have hbn := hbn2
            clear hbn2
            by_cases hbd : b.digits = []
            ·
              have Hab : Hid (aboveB b = false) := by show aboveB b = _; unfold aboveB; rw [hbn, hbd]; rfl
              have Hbn := Lib.hid hbn
              clear hbn
              have Hbd := Lib.hid hbd
              clear hbd
              have hS0 : (fun w' => w'.cell? ⟨w.heap.size, 0, none⟩ = some (.bool a.neg) ∧ w'.cell? ⟨w.heap.size, 1, none⟩ = some (.string ⟨a.digits.toArray⟩) ∧ w'.cell? ⟨w.heap.size, 2, none⟩ = some (.int .i64 a.exp) ∧ w'.cell? ⟨w.heap.size + 1, 0, none⟩ = some (.bool false) ∧ w'.cell? ⟨w.heap.size + 1, 1, none⟩ = some (.string ⟨#[]⟩) ∧ w'.cell? ⟨w.heap.size + 1, 2, none⟩ = some (.int .i64 b.exp)) (w3.alloc (Obj.cells #[Value.bool x.neg, Value.string { data := x.digits.toArray }, Value.int IntKind.i64 x.exp] 24)).drew := ⟨(H4.out (w.heap.size, a) (by simp)).c0, (H4.out (w.heap.size, a) (by simp)).c1, (H4.out (w.heap.size, a) (by simp)).c2, (by have h9 := (H4.out (w.heap.size + 1, b) (by simp)).c0; rw [Hbn.out] at h9; exact h9), (by have h9 := (H4.out (w.heap.size + 1, b) (by simp)).c1; rw [Hbd.out] at h9; exact h9), (H4.out (w.heap.size + 1, b) (by simp)).c2⟩
              have Hmc : Hid (∀ W : World, Calls Tryz.prog 9 #[.agg #[.bool false, .string ⟨#[]⟩, .int .i64 b.exp]] W fun e w' => e = .returned (.bool (mayB b)) ∧ Below W.heap.size W w') := fun W => by
                have h9 := mayR_calls W b (by omega)
                rw [Hbn.out, Hbd.out] at h9
                exact h9
              refine wp_region_held_drew (S := (fun w' => w'.cell? ⟨w.heap.size, 0, none⟩ = some (.bool a.neg) ∧ w'.cell? ⟨w.heap.size, 1, none⟩ = some (.string ⟨a.digits.toArray⟩) ∧ w'.cell? ⟨w.heap.size, 2, none⟩ = some (.int .i64 a.exp) ∧ w'.cell? ⟨w.heap.size + 1, 0, none⟩ = some (.bool false) ∧ w'.cell? ⟨w.heap.size + 1, 1, none⟩ = some (.string ⟨#[]⟩) ∧ w'.cell? ⟨w.heap.size + 1, 2, none⟩ = some (.int .i64 b.exp))) (by kernel_rfl) hS0 (fun hHeld0 => ?_)
              refine held_take (i := 0) (v := ?_) rfl (by kernel_rfl) (by kernel_rfl) (by kernel_rfl) (fun _ _ _ h => h) (by rfl) (fun wq hSq => ?_) hHeld0 ?_
              rotate_left
              · (try dsimp only at hSq); go_simp; try with_reducible rfl
              simp only [Act.put, List.setIfInBounds_toArray, List.set_cons_zero, List.set_cons_succ]
              refine held_take (i := 6) (v := ?_) rfl (by kernel_rfl) (by kernel_rfl) (by kernel_rfl) (fun _ _ _ h => h) (by rfl) (fun wq hSq => ?_) hHeld0 ?_
              rotate_left
              · (try dsimp only at hSq); go_simp; try with_reducible rfl
              simp only [Act.put, List.setIfInBounds_toArray, List.set_cons_zero, List.set_cons_succ]
              refine held_take (i := 7) (v := ?_) rfl (by kernel_rfl) (by kernel_rfl) (by kernel_rfl) (fun _ _ _ h => h) (by rfl) (fun wq hSq => ?_) hHeld0 ?_
              rotate_left
              · (try dsimp only at hSq); go_simp; try with_reducible rfl
              simp only [Act.put, List.setIfInBounds_toArray, List.set_cons_zero, List.set_cons_succ]
              refine held_take (i := 8) (v := ?_) rfl (by kernel_rfl) (by kernel_rfl) (by kernel_rfl) (fun _ _ _ h => h) (by rfl) (fun wq hSq => ?_) hHeld0 ?_
              rotate_left
              · (try dsimp only at hSq); go_simp; try with_reducible rfl
              simp only [Act.put, List.setIfInBounds_toArray, List.set_cons_zero, List.set_cons_succ]
              refine held_step (i := 1) (by kernel_rfl) rfl (by rfl) (fun K hK => ?_)
              go_simp
              refine (mayR_calls _ a (by omega)).mono ?_
              rintro e v5 ⟨rfl, hb5⟩
              dsimp only
              rw [Hma.out]
              have H5 := Lib.hid (AllAt.under (l := [(w3.heap.size, x), (w.heap.size, a), (w.heap.size + 1, b)]) H4.out.drew hb5)
              have Ht5 := Lib.hid (Tab.below (Ht4.out.below (Below.refl _ _).drew) hb5)
              have hbel5 := hbel4.drew.trans (hb5.mono hbel4.size)
              clear hb5
              refine hK.out _ _ ⟨(H5.out (w.heap.size, a) (by simp)).c0, (H5.out (w.heap.size, a) (by simp)).c1, (H5.out (w.heap.size, a) (by simp)).c2, (by have h9 := (H5.out (w.heap.size + 1, b) (by simp)).c0; rw [Hbn.out] at h9; exact h9), (by have h9 := (H5.out (w.heap.size + 1, b) (by simp)).c1; rw [Hbd.out] at h9; exact h9), (H5.out (w.heap.size + 1, b) (by simp)).c2⟩ (fun hHeld1 => ?_)
              clear hK K hHeld0
              refine held_take (i := 2) (v := ?_) rfl (by kernel_rfl) (by kernel_rfl) (by kernel_rfl) (fun _ _ _ h => h) (by rfl) (fun wq hSq => ?_) hHeld1 ?_
              rotate_left
              · (try dsimp only at hSq); go_simp; try with_reducible rfl
              simp only [Act.put, List.setIfInBounds_toArray, List.set_cons_zero, List.set_cons_succ]
              refine held_take (i := 3) (v := ?_) rfl (by kernel_rfl) (by kernel_rfl) (by kernel_rfl) (fun _ _ _ h => h) (by rfl) (fun wq hSq => ?_) hHeld1 ?_
              rotate_left
              · (try dsimp only at hSq); go_simp; try with_reducible rfl
              simp only [Act.put, List.setIfInBounds_toArray, List.set_cons_zero, List.set_cons_succ]
              refine held_step (i := 4) (by kernel_rfl) rfl (by rfl) (fun K hK => ?_)
              go_simp
              refine (Hmc.out _).mono ?_
              rintro e v6 ⟨rfl, hb6⟩
              dsimp only
              rw [Hmb.out]
              have H6 := Lib.hid (AllAt.under (l := [(w3.heap.size, x), (w.heap.size, a), (w.heap.size + 1, b)]) H5.out hb6)
              have Ht6 := Lib.hid (Tab.below Ht5.out hb6)
              have hbel6 := hbel5.trans (hb6.mono hbel5.size)
              clear hb6
              refine hK.out _ _ ⟨(H6.out (w.heap.size, a) (by simp)).c0, (H6.out (w.heap.size, a) (by simp)).c1, (H6.out (w.heap.size, a) (by simp)).c2, (by have h9 := (H6.out (w.heap.size + 1, b) (by simp)).c0; rw [Hbn.out] at h9; exact h9), (by have h9 := (H6.out (w.heap.size + 1, b) (by simp)).c1; rw [Hbd.out] at h9; exact h9), (H6.out (w.heap.size + 1, b) (by simp)).c2⟩ (fun hHeld2 => ?_)
              clear hK K hHeld1
              refine held_take (i := 5) (v := ?_) rfl (by kernel_rfl) (by kernel_rfl) (by kernel_rfl) (fun _ _ _ h => h) (by rfl) (fun wq hSq => ?_) hHeld2 ?_
              rotate_left
              · (try dsimp only at hSq); go_simp; try with_reducible rfl
              simp only [Act.put, List.setIfInBounds_toArray, List.set_cons_zero, List.set_cons_succ]
              refine held_take (i := 9) (v := ?_) rfl (by kernel_rfl) (by kernel_rfl) (by kernel_rfl) (fun _ _ _ h => h) (by rfl) (fun wq hSq => ?_) hHeld2 ?_
              rotate_left
              · (try dsimp only at hSq); go_simp; try with_reducible rfl
              simp only [Act.put, List.setIfInBounds_toArray, List.set_cons_zero, List.set_cons_succ]
              refine held_take (i := 10) (v := ?_) rfl (by kernel_rfl) (by kernel_rfl) (by kernel_rfl) (fun _ _ _ h => h) (by rfl) (fun wq hSq => ?_) hHeld2 ?_
              rotate_left
              · (try dsimp only at hSq); go_simp; try with_reducible rfl
              simp only [Act.put, List.setIfInBounds_toArray, List.set_cons_zero, List.set_cons_succ]
              refine held_take (i := 11) (v := ?_) rfl (by kernel_rfl) (by kernel_rfl) (by kernel_rfl) (fun _ _ _ h => h) (by rfl) (fun wq hSq => ?_) hHeld2 ?_
              rotate_left
              · (try dsimp only at hSq); go_simp; try with_reducible rfl
              simp only [Act.put, List.setIfInBounds_toArray, List.set_cons_zero, List.set_cons_succ]
              refine held_take (i := 12) (v := ?_) rfl (by kernel_rfl) (by kernel_rfl) (by kernel_rfl) (fun _ _ _ h => h) (by rfl) (fun wq hSq => ?_) hHeld2 ?_
              rotate_left
              · (try dsimp only at hSq); go_simp; try with_reducible rfl
              simp only [Act.put, List.setIfInBounds_toArray, List.set_cons_zero, List.set_cons_succ]
              refine held_take (i := 13) (v := ?_) rfl (by kernel_rfl) (by kernel_rfl) (by kernel_rfl) (fun _ _ _ h => h) (by rfl) (fun wq hSq => ?_) hHeld2 ?_
              rotate_left
              · (try dsimp only at hSq); go_simp; try with_reducible rfl
              simp only [Act.put, List.setIfInBounds_toArray, List.set_cons_zero, List.set_cons_succ]
              refine held_take (i := 14) (v := ?_) rfl (by kernel_rfl) (by kernel_rfl) (by kernel_rfl) (fun _ _ _ h => h) (by rfl) (fun wq hSq => ?_) hHeld2 ?_
              rotate_left
              · (try dsimp only at hSq); go_simp; try with_reducible rfl
              simp only [Act.put, List.setIfInBounds_toArray, List.set_cons_zero, List.set_cons_succ]
              refine held_take (i := 15) (v := ?_) rfl (by kernel_rfl) (by kernel_rfl) (by kernel_rfl) (fun _ _ _ h => h) (by rfl) (fun wq hSq => ?_) hHeld2 ?_
              rotate_left
              · (try dsimp only at hSq); go_simp; try with_reducible rfl
              simp only [Act.put, List.setIfInBounds_toArray, List.set_cons_zero, List.set_cons_succ]
              refine wpAnyH_done (by kernel_rfl) ?_ _
              clear hHeld2
              clear hS0
              go_wp2_with fail
              go_meet
              exact ⟨by rw [Hg.out], by rw [Hab.out], H6.out, Ht6.out, hbel6⟩
            ·
              obtain ⟨c, t, hbd2⟩ : ∃ c t, b.digits = c :: t := by
                cases h9 : b.digits with
                | nil => exact absurd h9 hbd
                | cons c t => exact ⟨c, t, rfl⟩
              clear hbd
              have hbd := hbd2
              clear hbd2
              have Hab : Hid (aboveB b = true) := by show aboveB b = _; unfold aboveB; rw [hbn, hbd]; rfl
              have Hbn := Lib.hid hbn
              clear hbn
              have Hbd := Lib.hid hbd
              clear hbd
              have hS0 : (fun w' => w'.cell? ⟨w.heap.size, 0, none⟩ = some (.bool a.neg) ∧ w'.cell? ⟨w.heap.size, 1, none⟩ = some (.string ⟨a.digits.toArray⟩) ∧ w'.cell? ⟨w.heap.size, 2, none⟩ = some (.int .i64 a.exp) ∧ w'.cell? ⟨w.heap.size + 1, 0, none⟩ = some (.bool false) ∧ w'.cell? ⟨w.heap.size + 1, 1, none⟩ = some (.string ⟨(c :: t).toArray⟩) ∧ w'.cell? ⟨w.heap.size + 1, 2, none⟩ = some (.int .i64 b.exp)) (w3.alloc (Obj.cells #[Value.bool x.neg, Value.string { data := x.digits.toArray }, Value.int IntKind.i64 x.exp] 24)).drew := ⟨(H4.out (w.heap.size, a) (by simp)).c0, (H4.out (w.heap.size, a) (by simp)).c1, (H4.out (w.heap.size, a) (by simp)).c2, (by have h9 := (H4.out (w.heap.size + 1, b) (by simp)).c0; rw [Hbn.out] at h9; exact h9), (by have h9 := (H4.out (w.heap.size + 1, b) (by simp)).c1; rw [Hbd.out] at h9; exact h9), (H4.out (w.heap.size + 1, b) (by simp)).c2⟩
              have Hmc : Hid (∀ W : World, Calls Tryz.prog 9 #[.agg #[.bool false, .string ⟨(c :: t).toArray⟩, .int .i64 b.exp]] W fun e w' => e = .returned (.bool (mayB b)) ∧ Below W.heap.size W w') := fun W => by
                have h9 := mayR_calls W b (by omega)
                rw [Hbn.out, Hbd.out] at h9
                exact h9
              refine wp_region_held_drew (S := (fun w' => w'.cell? ⟨w.heap.size, 0, none⟩ = some (.bool a.neg) ∧ w'.cell? ⟨w.heap.size, 1, none⟩ = some (.string ⟨a.digits.toArray⟩) ∧ w'.cell? ⟨w.heap.size, 2, none⟩ = some (.int .i64 a.exp) ∧ w'.cell? ⟨w.heap.size + 1, 0, none⟩ = some (.bool false) ∧ w'.cell? ⟨w.heap.size + 1, 1, none⟩ = some (.string ⟨(c :: t).toArray⟩) ∧ w'.cell? ⟨w.heap.size + 1, 2, none⟩ = some (.int .i64 b.exp))) (by kernel_rfl) hS0 (fun hHeld0 => ?_)
              refine held_take (i := 0) (v := ?_) rfl (by kernel_rfl) (by kernel_rfl) (by kernel_rfl) (fun _ _ _ h => h) (by rfl) (fun wq hSq => ?_) hHeld0 ?_
              rotate_left
              · (try dsimp only at hSq); go_simp; try with_reducible rfl
              simp only [Act.put, List.setIfInBounds_toArray, List.set_cons_zero, List.set_cons_succ]
              refine held_take (i := 6) (v := ?_) rfl (by kernel_rfl) (by kernel_rfl) (by kernel_rfl) (fun _ _ _ h => h) (by rfl) (fun wq hSq => ?_) hHeld0 ?_
              rotate_left
              · (try dsimp only at hSq); go_simp; try with_reducible rfl
              simp only [Act.put, List.setIfInBounds_toArray, List.set_cons_zero, List.set_cons_succ]
              refine held_take (i := 7) (v := ?_) rfl (by kernel_rfl) (by kernel_rfl) (by kernel_rfl) (fun _ _ _ h => h) (by rfl) (fun wq hSq => ?_) hHeld0 ?_
              rotate_left
              · (try dsimp only at hSq); go_simp; try with_reducible rfl
              simp only [Act.put, List.setIfInBounds_toArray, List.set_cons_zero, List.set_cons_succ]
              refine held_take (i := 8) (v := ?_) rfl (by kernel_rfl) (by kernel_rfl) (by kernel_rfl) (fun _ _ _ h => h) (by rfl) (fun wq hSq => ?_) hHeld0 ?_
              rotate_left
              · (try dsimp only at hSq); go_simp; try with_reducible rfl
              simp only [Act.put, List.setIfInBounds_toArray, List.set_cons_zero, List.set_cons_succ]
              refine held_step (i := 1) (by kernel_rfl) rfl (by rfl) (fun K hK => ?_)
              go_simp
              refine (mayR_calls _ a (by omega)).mono ?_
              rintro e v5 ⟨rfl, hb5⟩
              dsimp only
              rw [Hma.out]
              have H5 := Lib.hid (AllAt.under (l := [(w3.heap.size, x), (w.heap.size, a), (w.heap.size + 1, b)]) H4.out.drew hb5)
              have Ht5 := Lib.hid (Tab.below (Ht4.out.below (Below.refl _ _).drew) hb5)
              have hbel5 := hbel4.drew.trans (hb5.mono hbel4.size)
              clear hb5
              refine hK.out _ _ ⟨(H5.out (w.heap.size, a) (by simp)).c0, (H5.out (w.heap.size, a) (by simp)).c1, (H5.out (w.heap.size, a) (by simp)).c2, (by have h9 := (H5.out (w.heap.size + 1, b) (by simp)).c0; rw [Hbn.out] at h9; exact h9), (by have h9 := (H5.out (w.heap.size + 1, b) (by simp)).c1; rw [Hbd.out] at h9; exact h9), (H5.out (w.heap.size + 1, b) (by simp)).c2⟩ (fun hHeld1 => ?_)
              clear hK K hHeld0
              refine held_take (i := 2) (v := ?_) rfl (by kernel_rfl) (by kernel_rfl) (by kernel_rfl) (fun _ _ _ h => h) (by rfl) (fun wq hSq => ?_) hHeld1 ?_
              rotate_left
              · (try dsimp only at hSq); go_simp; try with_reducible rfl
              simp only [Act.put, List.setIfInBounds_toArray, List.set_cons_zero, List.set_cons_succ]
              refine held_take (i := 3) (v := ?_) rfl (by kernel_rfl) (by kernel_rfl) (by kernel_rfl) (fun _ _ _ h => h) (by rfl) (fun wq hSq => ?_) hHeld1 ?_
              rotate_left
              · (try dsimp only at hSq); go_simp; try with_reducible rfl
              simp only [Act.put, List.setIfInBounds_toArray, List.set_cons_zero, List.set_cons_succ]
              refine held_step (i := 4) (by kernel_rfl) rfl (by rfl) (fun K hK => ?_)
              go_simp
              refine (Hmc.out _).mono ?_
              rintro e v6 ⟨rfl, hb6⟩
              dsimp only
              rw [Hmb.out]
              have H6 := Lib.hid (AllAt.under (l := [(w3.heap.size, x), (w.heap.size, a), (w.heap.size + 1, b)]) H5.out hb6)
              have Ht6 := Lib.hid (Tab.below Ht5.out hb6)
              have hbel6 := hbel5.trans (hb6.mono hbel5.size)
              clear hb6
              refine hK.out _ _ ⟨(H6.out (w.heap.size, a) (by simp)).c0, (H6.out (w.heap.size, a) (by simp)).c1, (H6.out (w.heap.size, a) (by simp)).c2, (by have h9 := (H6.out (w.heap.size + 1, b) (by simp)).c0; rw [Hbn.out] at h9; exact h9), (by have h9 := (H6.out (w.heap.size + 1, b) (by simp)).c1; rw [Hbd.out] at h9; exact h9), (H6.out (w.heap.size + 1, b) (by simp)).c2⟩ (fun hHeld2 => ?_)
              clear hK K hHeld1
              refine held_take (i := 5) (v := ?_) rfl (by kernel_rfl) (by kernel_rfl) (by kernel_rfl) (fun _ _ _ h => h) (by rfl) (fun wq hSq => ?_) hHeld2 ?_
              rotate_left
              · (try dsimp only at hSq); go_simp; try with_reducible rfl
              simp only [Act.put, List.setIfInBounds_toArray, List.set_cons_zero, List.set_cons_succ]
              refine held_take (i := 9) (v := ?_) rfl (by kernel_rfl) (by kernel_rfl) (by kernel_rfl) (fun _ _ _ h => h) (by rfl) (fun wq hSq => ?_) hHeld2 ?_
              rotate_left
              · (try dsimp only at hSq); go_simp; try with_reducible rfl
              simp only [Act.put, List.setIfInBounds_toArray, List.set_cons_zero, List.set_cons_succ]
              refine held_take (i := 10) (v := ?_) rfl (by kernel_rfl) (by kernel_rfl) (by kernel_rfl) (fun _ _ _ h => h) (by rfl) (fun wq hSq => ?_) hHeld2 ?_
              rotate_left
              · (try dsimp only at hSq); go_simp; try with_reducible rfl
              simp only [Act.put, List.setIfInBounds_toArray, List.set_cons_zero, List.set_cons_succ]
              refine held_take (i := 11) (v := ?_) rfl (by kernel_rfl) (by kernel_rfl) (by kernel_rfl) (fun _ _ _ h => h) (by rfl) (fun wq hSq => ?_) hHeld2 ?_
              rotate_left
              · (try dsimp only at hSq); go_simp; try with_reducible rfl
              simp only [Act.put, List.setIfInBounds_toArray, List.set_cons_zero, List.set_cons_succ]
              refine held_take (i := 12) (v := ?_) rfl (by kernel_rfl) (by kernel_rfl) (by kernel_rfl) (fun _ _ _ h => h) (by rfl) (fun wq hSq => ?_) hHeld2 ?_
              rotate_left
              · (try dsimp only at hSq); go_simp; try with_reducible rfl
              simp only [Act.put, List.setIfInBounds_toArray, List.set_cons_zero, List.set_cons_succ]
              refine held_take (i := 13) (v := ?_) rfl (by kernel_rfl) (by kernel_rfl) (by kernel_rfl) (fun _ _ _ h => h) (by rfl) (fun wq hSq => ?_) hHeld2 ?_
              rotate_left
              · (try dsimp only at hSq); go_simp; try with_reducible rfl
              simp only [Act.put, List.setIfInBounds_toArray, List.set_cons_zero, List.set_cons_succ]
              refine held_take (i := 14) (v := ?_) rfl (by kernel_rfl) (by kernel_rfl) (by kernel_rfl) (fun _ _ _ h => h) (by rfl) (fun wq hSq => ?_) hHeld2 ?_
              rotate_left
              · (try dsimp only at hSq); go_simp; try with_reducible rfl
              simp only [Act.put, List.setIfInBounds_toArray, List.set_cons_zero, List.set_cons_succ]
              refine held_take (i := 15) (v := ?_) rfl (by kernel_rfl) (by kernel_rfl) (by kernel_rfl) (fun _ _ _ h => h) (by rfl) (fun wq hSq => ?_) hHeld2 ?_
              rotate_left
              · (try dsimp only at hSq); go_simp; try with_reducible rfl
              simp only [Act.put, List.setIfInBounds_toArray, List.set_cons_zero, List.set_cons_succ]
              refine wpAnyH_done (by kernel_rfl) ?_ _
              clear hHeld2
              clear hS0
              go_wp2_with fail
              go_meet
              exact ⟨by rw [Hg.out], by rw [Hab.out], H6.out, Ht6.out, hbel6⟩
        | false =>
          have Hmb := Lib.hid hmb
          have Hg : Hid (goodB a b = false) := by show goodB a b = _; unfold goodB; rw [hma, hmb]; rfl
          clear hma hmb
          by_cases hbn : b.neg = true
          ·
            have Hab : Hid (aboveB b = false) := by show aboveB b = false; unfold aboveB; rw [hbn]; rfl
            have Hbn := Lib.hid hbn
            clear hbn
            have hS0 : (fun w' => w'.cell? ⟨w.heap.size, 0, none⟩ = some (.bool a.neg) ∧ w'.cell? ⟨w.heap.size, 1, none⟩ = some (.string ⟨a.digits.toArray⟩) ∧ w'.cell? ⟨w.heap.size, 2, none⟩ = some (.int .i64 a.exp) ∧ w'.cell? ⟨w.heap.size + 1, 0, none⟩ = some (.bool true) ∧ w'.cell? ⟨w.heap.size + 1, 1, none⟩ = some (.string ⟨b.digits.toArray⟩) ∧ w'.cell? ⟨w.heap.size + 1, 2, none⟩ = some (.int .i64 b.exp)) (w3.alloc (Obj.cells #[Value.bool x.neg, Value.string { data := x.digits.toArray }, Value.int IntKind.i64 x.exp] 24)).drew := ⟨(H4.out (w.heap.size, a) (by simp)).c0, (H4.out (w.heap.size, a) (by simp)).c1, (H4.out (w.heap.size, a) (by simp)).c2, (by have h9 := (H4.out (w.heap.size + 1, b) (by simp)).c0; rw [Hbn.out] at h9; exact h9), (H4.out (w.heap.size + 1, b) (by simp)).c1, (H4.out (w.heap.size + 1, b) (by simp)).c2⟩
            have Hmc : Hid (∀ W : World, Calls Tryz.prog 9 #[.agg #[.bool true, .string ⟨b.digits.toArray⟩, .int .i64 b.exp]] W fun e w' => e = .returned (.bool (mayB b)) ∧ Below W.heap.size W w') := fun W => by
              have h9 := mayR_calls W b (by omega)
              rw [Hbn.out] at h9
              exact h9
            refine wp_region_held_drew (S := (fun w' => w'.cell? ⟨w.heap.size, 0, none⟩ = some (.bool a.neg) ∧ w'.cell? ⟨w.heap.size, 1, none⟩ = some (.string ⟨a.digits.toArray⟩) ∧ w'.cell? ⟨w.heap.size, 2, none⟩ = some (.int .i64 a.exp) ∧ w'.cell? ⟨w.heap.size + 1, 0, none⟩ = some (.bool true) ∧ w'.cell? ⟨w.heap.size + 1, 1, none⟩ = some (.string ⟨b.digits.toArray⟩) ∧ w'.cell? ⟨w.heap.size + 1, 2, none⟩ = some (.int .i64 b.exp))) (by kernel_rfl) hS0 (fun hHeld0 => ?_)
            refine held_take (i := 0) (v := ?_) rfl (by kernel_rfl) (by kernel_rfl) (by kernel_rfl) (fun _ _ _ h => h) (by rfl) (fun wq hSq => ?_) hHeld0 ?_
            rotate_left
            · (try dsimp only at hSq); go_simp; try with_reducible rfl
            simp only [Act.put, List.setIfInBounds_toArray, List.set_cons_zero, List.set_cons_succ]
            refine held_take (i := 6) (v := ?_) rfl (by kernel_rfl) (by kernel_rfl) (by kernel_rfl) (fun _ _ _ h => h) (by rfl) (fun wq hSq => ?_) hHeld0 ?_
            rotate_left
            · (try dsimp only at hSq); go_simp; try with_reducible rfl
            simp only [Act.put, List.setIfInBounds_toArray, List.set_cons_zero, List.set_cons_succ]
            refine held_take (i := 7) (v := ?_) rfl (by kernel_rfl) (by kernel_rfl) (by kernel_rfl) (fun _ _ _ h => h) (by rfl) (fun wq hSq => ?_) hHeld0 ?_
            rotate_left
            · (try dsimp only at hSq); go_simp; try with_reducible rfl
            simp only [Act.put, List.setIfInBounds_toArray, List.set_cons_zero, List.set_cons_succ]
            refine held_take (i := 8) (v := ?_) rfl (by kernel_rfl) (by kernel_rfl) (by kernel_rfl) (fun _ _ _ h => h) (by rfl) (fun wq hSq => ?_) hHeld0 ?_
            rotate_left
            · (try dsimp only at hSq); go_simp; try with_reducible rfl
            simp only [Act.put, List.setIfInBounds_toArray, List.set_cons_zero, List.set_cons_succ]
            refine held_step (i := 1) (by kernel_rfl) rfl (by rfl) (fun K hK => ?_)
            go_simp
            refine (mayR_calls _ a (by omega)).mono ?_
            rintro e v5 ⟨rfl, hb5⟩
            dsimp only
            rw [Hma.out]
            have H5 := Lib.hid (AllAt.under (l := [(w3.heap.size, x), (w.heap.size, a), (w.heap.size + 1, b)]) H4.out.drew hb5)
            have Ht5 := Lib.hid (Tab.below (Ht4.out.below (Below.refl _ _).drew) hb5)
            have hbel5 := hbel4.drew.trans (hb5.mono hbel4.size)
            clear hb5
            refine hK.out _ _ ⟨(H5.out (w.heap.size, a) (by simp)).c0, (H5.out (w.heap.size, a) (by simp)).c1, (H5.out (w.heap.size, a) (by simp)).c2, (by have h9 := (H5.out (w.heap.size + 1, b) (by simp)).c0; rw [Hbn.out] at h9; exact h9), (H5.out (w.heap.size + 1, b) (by simp)).c1, (H5.out (w.heap.size + 1, b) (by simp)).c2⟩ (fun hHeld1 => ?_)
            clear hK K hHeld0
            refine held_take (i := 2) (v := ?_) rfl (by kernel_rfl) (by kernel_rfl) (by kernel_rfl) (fun _ _ _ h => h) (by rfl) (fun wq hSq => ?_) hHeld1 ?_
            rotate_left
            · (try dsimp only at hSq); go_simp; try with_reducible rfl
            simp only [Act.put, List.setIfInBounds_toArray, List.set_cons_zero, List.set_cons_succ]
            refine held_take (i := 3) (v := ?_) rfl (by kernel_rfl) (by kernel_rfl) (by kernel_rfl) (fun _ _ _ h => h) (by rfl) (fun wq hSq => ?_) hHeld1 ?_
            rotate_left
            · (try dsimp only at hSq); go_simp; try with_reducible rfl
            simp only [Act.put, List.setIfInBounds_toArray, List.set_cons_zero, List.set_cons_succ]
            refine held_step (i := 4) (by kernel_rfl) rfl (by rfl) (fun K hK => ?_)
            go_simp
            refine (Hmc.out _).mono ?_
            rintro e v6 ⟨rfl, hb6⟩
            dsimp only
            rw [Hmb.out]
            have H6 := Lib.hid (AllAt.under (l := [(w3.heap.size, x), (w.heap.size, a), (w.heap.size + 1, b)]) H5.out hb6)
            have Ht6 := Lib.hid (Tab.below Ht5.out hb6)
            have hbel6 := hbel5.trans (hb6.mono hbel5.size)
            clear hb6
            refine hK.out _ _ ⟨(H6.out (w.heap.size, a) (by simp)).c0, (H6.out (w.heap.size, a) (by simp)).c1, (H6.out (w.heap.size, a) (by simp)).c2, (by have h9 := (H6.out (w.heap.size + 1, b) (by simp)).c0; rw [Hbn.out] at h9; exact h9), (H6.out (w.heap.size + 1, b) (by simp)).c1, (H6.out (w.heap.size + 1, b) (by simp)).c2⟩ (fun hHeld2 => ?_)
            clear hK K hHeld1
            refine held_take (i := 5) (v := ?_) rfl (by kernel_rfl) (by kernel_rfl) (by kernel_rfl) (fun _ _ _ h => h) (by rfl) (fun wq hSq => ?_) hHeld2 ?_
            rotate_left
            · (try dsimp only at hSq); go_simp; try with_reducible rfl
            simp only [Act.put, List.setIfInBounds_toArray, List.set_cons_zero, List.set_cons_succ]
            refine held_take (i := 9) (v := ?_) rfl (by kernel_rfl) (by kernel_rfl) (by kernel_rfl) (fun _ _ _ h => h) (by rfl) (fun wq hSq => ?_) hHeld2 ?_
            rotate_left
            · (try dsimp only at hSq); go_simp; try with_reducible rfl
            simp only [Act.put, List.setIfInBounds_toArray, List.set_cons_zero, List.set_cons_succ]
            refine held_skip (i := 10) rfl (by kernel_rfl) (by kernel_rfl) (by kernel_rfl) (fun _ _ _ h => h) (by rfl) hHeld2 ?_
            simp only [Act.put, List.setIfInBounds_toArray, List.set_cons_zero, List.set_cons_succ]
            refine held_skip (i := 11) rfl (by kernel_rfl) (by kernel_rfl) (by kernel_rfl) (fun _ _ _ h => h) (by rfl) hHeld2 ?_
            simp only [Act.put, List.setIfInBounds_toArray, List.set_cons_zero, List.set_cons_succ]
            refine held_skip (i := 12) rfl (by kernel_rfl) (by kernel_rfl) (by kernel_rfl) (fun _ _ _ h => h) (by rfl) hHeld2 ?_
            simp only [Act.put, List.setIfInBounds_toArray, List.set_cons_zero, List.set_cons_succ]
            refine held_take (i := 13) (v := ?_) rfl (by kernel_rfl) (by kernel_rfl) (by kernel_rfl) (fun _ _ _ h => h) (by rfl) (fun wq hSq => ?_) hHeld2 ?_
            rotate_left
            · (try dsimp only at hSq); go_simp; try with_reducible rfl
            simp only [Act.put, List.setIfInBounds_toArray, List.set_cons_zero, List.set_cons_succ]
            refine held_take (i := 14) (v := ?_) rfl (by kernel_rfl) (by kernel_rfl) (by kernel_rfl) (fun _ _ _ h => h) (by rfl) (fun wq hSq => ?_) hHeld2 ?_
            rotate_left
            · (try dsimp only at hSq); go_simp; try with_reducible rfl
            simp only [Act.put, List.setIfInBounds_toArray, List.set_cons_zero, List.set_cons_succ]
            refine held_take (i := 15) (v := ?_) rfl (by kernel_rfl) (by kernel_rfl) (by kernel_rfl) (fun _ _ _ h => h) (by rfl) (fun wq hSq => ?_) hHeld2 ?_
            rotate_left
            · (try dsimp only at hSq); go_simp; try with_reducible rfl
            simp only [Act.put, List.setIfInBounds_toArray, List.set_cons_zero, List.set_cons_succ]
            refine wpAnyH_done (by kernel_rfl) ?_ _
            clear hHeld2
            clear hS0
            go_wp2_with fail
            go_meet
            exact ⟨by rw [Hg.out], by rw [Hab.out], H6.out, Ht6.out, hbel6⟩
          ·
            have hbn2 : b.neg = false := by simpa using hbn
            clear hbn
            have hbn := hbn2
            clear hbn2
            by_cases hbd : b.digits = []
            ·
              have Hab : Hid (aboveB b = false) := by show aboveB b = _; unfold aboveB; rw [hbn, hbd]; rfl
              have Hbn := Lib.hid hbn
              clear hbn
              have Hbd := Lib.hid hbd
              clear hbd
              have hS0 : (fun w' => w'.cell? ⟨w.heap.size, 0, none⟩ = some (.bool a.neg) ∧ w'.cell? ⟨w.heap.size, 1, none⟩ = some (.string ⟨a.digits.toArray⟩) ∧ w'.cell? ⟨w.heap.size, 2, none⟩ = some (.int .i64 a.exp) ∧ w'.cell? ⟨w.heap.size + 1, 0, none⟩ = some (.bool false) ∧ w'.cell? ⟨w.heap.size + 1, 1, none⟩ = some (.string ⟨#[]⟩) ∧ w'.cell? ⟨w.heap.size + 1, 2, none⟩ = some (.int .i64 b.exp)) (w3.alloc (Obj.cells #[Value.bool x.neg, Value.string { data := x.digits.toArray }, Value.int IntKind.i64 x.exp] 24)).drew := ⟨(H4.out (w.heap.size, a) (by simp)).c0, (H4.out (w.heap.size, a) (by simp)).c1, (H4.out (w.heap.size, a) (by simp)).c2, (by have h9 := (H4.out (w.heap.size + 1, b) (by simp)).c0; rw [Hbn.out] at h9; exact h9), (by have h9 := (H4.out (w.heap.size + 1, b) (by simp)).c1; rw [Hbd.out] at h9; exact h9), (H4.out (w.heap.size + 1, b) (by simp)).c2⟩
              have Hmc : Hid (∀ W : World, Calls Tryz.prog 9 #[.agg #[.bool false, .string ⟨#[]⟩, .int .i64 b.exp]] W fun e w' => e = .returned (.bool (mayB b)) ∧ Below W.heap.size W w') := fun W => by
                have h9 := mayR_calls W b (by omega)
                rw [Hbn.out, Hbd.out] at h9
                exact h9
              refine wp_region_held_drew (S := (fun w' => w'.cell? ⟨w.heap.size, 0, none⟩ = some (.bool a.neg) ∧ w'.cell? ⟨w.heap.size, 1, none⟩ = some (.string ⟨a.digits.toArray⟩) ∧ w'.cell? ⟨w.heap.size, 2, none⟩ = some (.int .i64 a.exp) ∧ w'.cell? ⟨w.heap.size + 1, 0, none⟩ = some (.bool false) ∧ w'.cell? ⟨w.heap.size + 1, 1, none⟩ = some (.string ⟨#[]⟩) ∧ w'.cell? ⟨w.heap.size + 1, 2, none⟩ = some (.int .i64 b.exp))) (by kernel_rfl) hS0 (fun hHeld0 => ?_)
              refine held_take (i := 0) (v := ?_) rfl (by kernel_rfl) (by kernel_rfl) (by kernel_rfl) (fun _ _ _ h => h) (by rfl) (fun wq hSq => ?_) hHeld0 ?_
              rotate_left
              · (try dsimp only at hSq); go_simp; try with_reducible rfl
              simp only [Act.put, List.setIfInBounds_toArray, List.set_cons_zero, List.set_cons_succ]
              refine held_take (i := 6) (v := ?_) rfl (by kernel_rfl) (by kernel_rfl) (by kernel_rfl) (fun _ _ _ h => h) (by rfl) (fun wq hSq => ?_) hHeld0 ?_
              rotate_left
              · (try dsimp only at hSq); go_simp; try with_reducible rfl
              simp only [Act.put, List.setIfInBounds_toArray, List.set_cons_zero, List.set_cons_succ]
              refine held_take (i := 7) (v := ?_) rfl (by kernel_rfl) (by kernel_rfl) (by kernel_rfl) (fun _ _ _ h => h) (by rfl) (fun wq hSq => ?_) hHeld0 ?_
              rotate_left
              · (try dsimp only at hSq); go_simp; try with_reducible rfl
              simp only [Act.put, List.setIfInBounds_toArray, List.set_cons_zero, List.set_cons_succ]
              refine held_take (i := 8) (v := ?_) rfl (by kernel_rfl) (by kernel_rfl) (by kernel_rfl) (fun _ _ _ h => h) (by rfl) (fun wq hSq => ?_) hHeld0 ?_
              rotate_left
              · (try dsimp only at hSq); go_simp; try with_reducible rfl
              simp only [Act.put, List.setIfInBounds_toArray, List.set_cons_zero, List.set_cons_succ]
              refine held_step (i := 1) (by kernel_rfl) rfl (by rfl) (fun K hK => ?_)
              go_simp
              refine (mayR_calls _ a (by omega)).mono ?_
              rintro e v5 ⟨rfl, hb5⟩
              dsimp only
              rw [Hma.out]
              have H5 := Lib.hid (AllAt.under (l := [(w3.heap.size, x), (w.heap.size, a), (w.heap.size + 1, b)]) H4.out.drew hb5)
              have Ht5 := Lib.hid (Tab.below (Ht4.out.below (Below.refl _ _).drew) hb5)
              have hbel5 := hbel4.drew.trans (hb5.mono hbel4.size)
              clear hb5
              refine hK.out _ _ ⟨(H5.out (w.heap.size, a) (by simp)).c0, (H5.out (w.heap.size, a) (by simp)).c1, (H5.out (w.heap.size, a) (by simp)).c2, (by have h9 := (H5.out (w.heap.size + 1, b) (by simp)).c0; rw [Hbn.out] at h9; exact h9), (by have h9 := (H5.out (w.heap.size + 1, b) (by simp)).c1; rw [Hbd.out] at h9; exact h9), (H5.out (w.heap.size + 1, b) (by simp)).c2⟩ (fun hHeld1 => ?_)
              clear hK K hHeld0
              refine held_take (i := 2) (v := ?_) rfl (by kernel_rfl) (by kernel_rfl) (by kernel_rfl) (fun _ _ _ h => h) (by rfl) (fun wq hSq => ?_) hHeld1 ?_
              rotate_left
              · (try dsimp only at hSq); go_simp; try with_reducible rfl
              simp only [Act.put, List.setIfInBounds_toArray, List.set_cons_zero, List.set_cons_succ]
              refine held_take (i := 3) (v := ?_) rfl (by kernel_rfl) (by kernel_rfl) (by kernel_rfl) (fun _ _ _ h => h) (by rfl) (fun wq hSq => ?_) hHeld1 ?_
              rotate_left
              · (try dsimp only at hSq); go_simp; try with_reducible rfl
              simp only [Act.put, List.setIfInBounds_toArray, List.set_cons_zero, List.set_cons_succ]
              refine held_step (i := 4) (by kernel_rfl) rfl (by rfl) (fun K hK => ?_)
              go_simp
              refine (Hmc.out _).mono ?_
              rintro e v6 ⟨rfl, hb6⟩
              dsimp only
              rw [Hmb.out]
              have H6 := Lib.hid (AllAt.under (l := [(w3.heap.size, x), (w.heap.size, a), (w.heap.size + 1, b)]) H5.out hb6)
              have Ht6 := Lib.hid (Tab.below Ht5.out hb6)
              have hbel6 := hbel5.trans (hb6.mono hbel5.size)
              clear hb6
              refine hK.out _ _ ⟨(H6.out (w.heap.size, a) (by simp)).c0, (H6.out (w.heap.size, a) (by simp)).c1, (H6.out (w.heap.size, a) (by simp)).c2, (by have h9 := (H6.out (w.heap.size + 1, b) (by simp)).c0; rw [Hbn.out] at h9; exact h9), (by have h9 := (H6.out (w.heap.size + 1, b) (by simp)).c1; rw [Hbd.out] at h9; exact h9), (H6.out (w.heap.size + 1, b) (by simp)).c2⟩ (fun hHeld2 => ?_)
              clear hK K hHeld1
              refine held_take (i := 5) (v := ?_) rfl (by kernel_rfl) (by kernel_rfl) (by kernel_rfl) (fun _ _ _ h => h) (by rfl) (fun wq hSq => ?_) hHeld2 ?_
              rotate_left
              · (try dsimp only at hSq); go_simp; try with_reducible rfl
              simp only [Act.put, List.setIfInBounds_toArray, List.set_cons_zero, List.set_cons_succ]
              refine held_take (i := 9) (v := ?_) rfl (by kernel_rfl) (by kernel_rfl) (by kernel_rfl) (fun _ _ _ h => h) (by rfl) (fun wq hSq => ?_) hHeld2 ?_
              rotate_left
              · (try dsimp only at hSq); go_simp; try with_reducible rfl
              simp only [Act.put, List.setIfInBounds_toArray, List.set_cons_zero, List.set_cons_succ]
              refine held_take (i := 10) (v := ?_) rfl (by kernel_rfl) (by kernel_rfl) (by kernel_rfl) (fun _ _ _ h => h) (by rfl) (fun wq hSq => ?_) hHeld2 ?_
              rotate_left
              · (try dsimp only at hSq); go_simp; try with_reducible rfl
              simp only [Act.put, List.setIfInBounds_toArray, List.set_cons_zero, List.set_cons_succ]
              refine held_take (i := 11) (v := ?_) rfl (by kernel_rfl) (by kernel_rfl) (by kernel_rfl) (fun _ _ _ h => h) (by rfl) (fun wq hSq => ?_) hHeld2 ?_
              rotate_left
              · (try dsimp only at hSq); go_simp; try with_reducible rfl
              simp only [Act.put, List.setIfInBounds_toArray, List.set_cons_zero, List.set_cons_succ]
              refine held_take (i := 12) (v := ?_) rfl (by kernel_rfl) (by kernel_rfl) (by kernel_rfl) (fun _ _ _ h => h) (by rfl) (fun wq hSq => ?_) hHeld2 ?_
              rotate_left
              · (try dsimp only at hSq); go_simp; try with_reducible rfl
              simp only [Act.put, List.setIfInBounds_toArray, List.set_cons_zero, List.set_cons_succ]
              refine held_take (i := 13) (v := ?_) rfl (by kernel_rfl) (by kernel_rfl) (by kernel_rfl) (fun _ _ _ h => h) (by rfl) (fun wq hSq => ?_) hHeld2 ?_
              rotate_left
              · (try dsimp only at hSq); go_simp; try with_reducible rfl
              simp only [Act.put, List.setIfInBounds_toArray, List.set_cons_zero, List.set_cons_succ]
              refine held_take (i := 14) (v := ?_) rfl (by kernel_rfl) (by kernel_rfl) (by kernel_rfl) (fun _ _ _ h => h) (by rfl) (fun wq hSq => ?_) hHeld2 ?_
              rotate_left
              · (try dsimp only at hSq); go_simp; try with_reducible rfl
              simp only [Act.put, List.setIfInBounds_toArray, List.set_cons_zero, List.set_cons_succ]
              refine held_take (i := 15) (v := ?_) rfl (by kernel_rfl) (by kernel_rfl) (by kernel_rfl) (fun _ _ _ h => h) (by rfl) (fun wq hSq => ?_) hHeld2 ?_
              rotate_left
              · (try dsimp only at hSq); go_simp; try with_reducible rfl
              simp only [Act.put, List.setIfInBounds_toArray, List.set_cons_zero, List.set_cons_succ]
              refine wpAnyH_done (by kernel_rfl) ?_ _
              clear hHeld2
              clear hS0
              go_wp2_with fail
              go_meet
              exact ⟨by rw [Hg.out], by rw [Hab.out], H6.out, Ht6.out, hbel6⟩
            ·
              obtain ⟨c, t, hbd2⟩ : ∃ c t, b.digits = c :: t := by
                cases h9 : b.digits with
                | nil => exact absurd h9 hbd
                | cons c t => exact ⟨c, t, rfl⟩
              clear hbd
              have hbd := hbd2
              clear hbd2
              have Hab : Hid (aboveB b = true) := by show aboveB b = _; unfold aboveB; rw [hbn, hbd]; rfl
              have Hbn := Lib.hid hbn
              clear hbn
              have Hbd := Lib.hid hbd
              clear hbd
              have hS0 : (fun w' => w'.cell? ⟨w.heap.size, 0, none⟩ = some (.bool a.neg) ∧ w'.cell? ⟨w.heap.size, 1, none⟩ = some (.string ⟨a.digits.toArray⟩) ∧ w'.cell? ⟨w.heap.size, 2, none⟩ = some (.int .i64 a.exp) ∧ w'.cell? ⟨w.heap.size + 1, 0, none⟩ = some (.bool false) ∧ w'.cell? ⟨w.heap.size + 1, 1, none⟩ = some (.string ⟨(c :: t).toArray⟩) ∧ w'.cell? ⟨w.heap.size + 1, 2, none⟩ = some (.int .i64 b.exp)) (w3.alloc (Obj.cells #[Value.bool x.neg, Value.string { data := x.digits.toArray }, Value.int IntKind.i64 x.exp] 24)).drew := ⟨(H4.out (w.heap.size, a) (by simp)).c0, (H4.out (w.heap.size, a) (by simp)).c1, (H4.out (w.heap.size, a) (by simp)).c2, (by have h9 := (H4.out (w.heap.size + 1, b) (by simp)).c0; rw [Hbn.out] at h9; exact h9), (by have h9 := (H4.out (w.heap.size + 1, b) (by simp)).c1; rw [Hbd.out] at h9; exact h9), (H4.out (w.heap.size + 1, b) (by simp)).c2⟩
              have Hmc : Hid (∀ W : World, Calls Tryz.prog 9 #[.agg #[.bool false, .string ⟨(c :: t).toArray⟩, .int .i64 b.exp]] W fun e w' => e = .returned (.bool (mayB b)) ∧ Below W.heap.size W w') := fun W => by
                have h9 := mayR_calls W b (by omega)
                rw [Hbn.out, Hbd.out] at h9
                exact h9
              refine wp_region_held_drew (S := (fun w' => w'.cell? ⟨w.heap.size, 0, none⟩ = some (.bool a.neg) ∧ w'.cell? ⟨w.heap.size, 1, none⟩ = some (.string ⟨a.digits.toArray⟩) ∧ w'.cell? ⟨w.heap.size, 2, none⟩ = some (.int .i64 a.exp) ∧ w'.cell? ⟨w.heap.size + 1, 0, none⟩ = some (.bool false) ∧ w'.cell? ⟨w.heap.size + 1, 1, none⟩ = some (.string ⟨(c :: t).toArray⟩) ∧ w'.cell? ⟨w.heap.size + 1, 2, none⟩ = some (.int .i64 b.exp))) (by kernel_rfl) hS0 (fun hHeld0 => ?_)
              refine held_take (i := 0) (v := ?_) rfl (by kernel_rfl) (by kernel_rfl) (by kernel_rfl) (fun _ _ _ h => h) (by rfl) (fun wq hSq => ?_) hHeld0 ?_
              rotate_left
              · (try dsimp only at hSq); go_simp; try with_reducible rfl
              simp only [Act.put, List.setIfInBounds_toArray, List.set_cons_zero, List.set_cons_succ]
              refine held_take (i := 6) (v := ?_) rfl (by kernel_rfl) (by kernel_rfl) (by kernel_rfl) (fun _ _ _ h => h) (by rfl) (fun wq hSq => ?_) hHeld0 ?_
              rotate_left
              · (try dsimp only at hSq); go_simp; try with_reducible rfl
              simp only [Act.put, List.setIfInBounds_toArray, List.set_cons_zero, List.set_cons_succ]
              refine held_take (i := 7) (v := ?_) rfl (by kernel_rfl) (by kernel_rfl) (by kernel_rfl) (fun _ _ _ h => h) (by rfl) (fun wq hSq => ?_) hHeld0 ?_
              rotate_left
              · (try dsimp only at hSq); go_simp; try with_reducible rfl
              simp only [Act.put, List.setIfInBounds_toArray, List.set_cons_zero, List.set_cons_succ]
              refine held_take (i := 8) (v := ?_) rfl (by kernel_rfl) (by kernel_rfl) (by kernel_rfl) (fun _ _ _ h => h) (by rfl) (fun wq hSq => ?_) hHeld0 ?_
              rotate_left
              · (try dsimp only at hSq); go_simp; try with_reducible rfl
              simp only [Act.put, List.setIfInBounds_toArray, List.set_cons_zero, List.set_cons_succ]
              refine held_step (i := 1) (by kernel_rfl) rfl (by rfl) (fun K hK => ?_)
              go_simp
              refine (mayR_calls _ a (by omega)).mono ?_
              rintro e v5 ⟨rfl, hb5⟩
              dsimp only
              rw [Hma.out]
              have H5 := Lib.hid (AllAt.under (l := [(w3.heap.size, x), (w.heap.size, a), (w.heap.size + 1, b)]) H4.out.drew hb5)
              have Ht5 := Lib.hid (Tab.below (Ht4.out.below (Below.refl _ _).drew) hb5)
              have hbel5 := hbel4.drew.trans (hb5.mono hbel4.size)
              clear hb5
              refine hK.out _ _ ⟨(H5.out (w.heap.size, a) (by simp)).c0, (H5.out (w.heap.size, a) (by simp)).c1, (H5.out (w.heap.size, a) (by simp)).c2, (by have h9 := (H5.out (w.heap.size + 1, b) (by simp)).c0; rw [Hbn.out] at h9; exact h9), (by have h9 := (H5.out (w.heap.size + 1, b) (by simp)).c1; rw [Hbd.out] at h9; exact h9), (H5.out (w.heap.size + 1, b) (by simp)).c2⟩ (fun hHeld1 => ?_)
              clear hK K hHeld0
              refine held_take (i := 2) (v := ?_) rfl (by kernel_rfl) (by kernel_rfl) (by kernel_rfl) (fun _ _ _ h => h) (by rfl) (fun wq hSq => ?_) hHeld1 ?_
              rotate_left
              · (try dsimp only at hSq); go_simp; try with_reducible rfl
              simp only [Act.put, List.setIfInBounds_toArray, List.set_cons_zero, List.set_cons_succ]
              refine held_take (i := 3) (v := ?_) rfl (by kernel_rfl) (by kernel_rfl) (by kernel_rfl) (fun _ _ _ h => h) (by rfl) (fun wq hSq => ?_) hHeld1 ?_
              rotate_left
              · (try dsimp only at hSq); go_simp; try with_reducible rfl
              simp only [Act.put, List.setIfInBounds_toArray, List.set_cons_zero, List.set_cons_succ]
              refine held_step (i := 4) (by kernel_rfl) rfl (by rfl) (fun K hK => ?_)
              go_simp
              refine (Hmc.out _).mono ?_
              rintro e v6 ⟨rfl, hb6⟩
              dsimp only
              rw [Hmb.out]
              have H6 := Lib.hid (AllAt.under (l := [(w3.heap.size, x), (w.heap.size, a), (w.heap.size + 1, b)]) H5.out hb6)
              have Ht6 := Lib.hid (Tab.below Ht5.out hb6)
              have hbel6 := hbel5.trans (hb6.mono hbel5.size)
              clear hb6
              refine hK.out _ _ ⟨(H6.out (w.heap.size, a) (by simp)).c0, (H6.out (w.heap.size, a) (by simp)).c1, (H6.out (w.heap.size, a) (by simp)).c2, (by have h9 := (H6.out (w.heap.size + 1, b) (by simp)).c0; rw [Hbn.out] at h9; exact h9), (by have h9 := (H6.out (w.heap.size + 1, b) (by simp)).c1; rw [Hbd.out] at h9; exact h9), (H6.out (w.heap.size + 1, b) (by simp)).c2⟩ (fun hHeld2 => ?_)
              clear hK K hHeld1
              refine held_take (i := 5) (v := ?_) rfl (by kernel_rfl) (by kernel_rfl) (by kernel_rfl) (fun _ _ _ h => h) (by rfl) (fun wq hSq => ?_) hHeld2 ?_
              rotate_left
              · (try dsimp only at hSq); go_simp; try with_reducible rfl
              simp only [Act.put, List.setIfInBounds_toArray, List.set_cons_zero, List.set_cons_succ]
              refine held_take (i := 9) (v := ?_) rfl (by kernel_rfl) (by kernel_rfl) (by kernel_rfl) (fun _ _ _ h => h) (by rfl) (fun wq hSq => ?_) hHeld2 ?_
              rotate_left
              · (try dsimp only at hSq); go_simp; try with_reducible rfl
              simp only [Act.put, List.setIfInBounds_toArray, List.set_cons_zero, List.set_cons_succ]
              refine held_take (i := 10) (v := ?_) rfl (by kernel_rfl) (by kernel_rfl) (by kernel_rfl) (fun _ _ _ h => h) (by rfl) (fun wq hSq => ?_) hHeld2 ?_
              rotate_left
              · (try dsimp only at hSq); go_simp; try with_reducible rfl
              simp only [Act.put, List.setIfInBounds_toArray, List.set_cons_zero, List.set_cons_succ]
              refine held_take (i := 11) (v := ?_) rfl (by kernel_rfl) (by kernel_rfl) (by kernel_rfl) (fun _ _ _ h => h) (by rfl) (fun wq hSq => ?_) hHeld2 ?_
              rotate_left
              · (try dsimp only at hSq); go_simp; try with_reducible rfl
              simp only [Act.put, List.setIfInBounds_toArray, List.set_cons_zero, List.set_cons_succ]
              refine held_take (i := 12) (v := ?_) rfl (by kernel_rfl) (by kernel_rfl) (by kernel_rfl) (fun _ _ _ h => h) (by rfl) (fun wq hSq => ?_) hHeld2 ?_
              rotate_left
              · (try dsimp only at hSq); go_simp; try with_reducible rfl
              simp only [Act.put, List.setIfInBounds_toArray, List.set_cons_zero, List.set_cons_succ]
              refine held_take (i := 13) (v := ?_) rfl (by kernel_rfl) (by kernel_rfl) (by kernel_rfl) (fun _ _ _ h => h) (by rfl) (fun wq hSq => ?_) hHeld2 ?_
              rotate_left
              · (try dsimp only at hSq); go_simp; try with_reducible rfl
              simp only [Act.put, List.setIfInBounds_toArray, List.set_cons_zero, List.set_cons_succ]
              refine held_take (i := 14) (v := ?_) rfl (by kernel_rfl) (by kernel_rfl) (by kernel_rfl) (fun _ _ _ h => h) (by rfl) (fun wq hSq => ?_) hHeld2 ?_
              rotate_left
              · (try dsimp only at hSq); go_simp; try with_reducible rfl
              simp only [Act.put, List.setIfInBounds_toArray, List.set_cons_zero, List.set_cons_succ]
              refine held_take (i := 15) (v := ?_) rfl (by kernel_rfl) (by kernel_rfl) (by kernel_rfl) (fun _ _ _ h => h) (by rfl) (fun wq hSq => ?_) hHeld2 ?_
              rotate_left
              · (try dsimp only at hSq); go_simp; try with_reducible rfl
              simp only [Act.put, List.setIfInBounds_toArray, List.set_cons_zero, List.set_cons_succ]
              refine wpAnyH_done (by kernel_rfl) ?_ _
              clear hHeld2
              clear hS0
              go_wp2_with fail
              go_meet
              exact ⟨by rw [Hg.out], by rw [Hab.out], H6.out, Ht6.out, hbel6⟩
      | false =>
        have Hma := Lib.hid hma
        have Hg : Hid (goodB a b = false) := by show goodB a b = _; unfold goodB; rw [hma]; rfl
        clear hma
        by_cases hbn : b.neg = true
        ·
          have Hab : Hid (aboveB b = false) := by show aboveB b = false; unfold aboveB; rw [hbn]; rfl
          have Hbn := Lib.hid hbn
          clear hbn
          have hS0 : (fun w' => w'.cell? ⟨w.heap.size, 0, none⟩ = some (.bool a.neg) ∧ w'.cell? ⟨w.heap.size, 1, none⟩ = some (.string ⟨a.digits.toArray⟩) ∧ w'.cell? ⟨w.heap.size, 2, none⟩ = some (.int .i64 a.exp) ∧ w'.cell? ⟨w.heap.size + 1, 0, none⟩ = some (.bool true) ∧ w'.cell? ⟨w.heap.size + 1, 1, none⟩ = some (.string ⟨b.digits.toArray⟩) ∧ w'.cell? ⟨w.heap.size + 1, 2, none⟩ = some (.int .i64 b.exp)) (w3.alloc (Obj.cells #[Value.bool x.neg, Value.string { data := x.digits.toArray }, Value.int IntKind.i64 x.exp] 24)).drew := ⟨(H4.out (w.heap.size, a) (by simp)).c0, (H4.out (w.heap.size, a) (by simp)).c1, (H4.out (w.heap.size, a) (by simp)).c2, (by have h9 := (H4.out (w.heap.size + 1, b) (by simp)).c0; rw [Hbn.out] at h9; exact h9), (H4.out (w.heap.size + 1, b) (by simp)).c1, (H4.out (w.heap.size + 1, b) (by simp)).c2⟩
          have Hmc : Hid (∀ W : World, Calls Tryz.prog 9 #[.agg #[.bool true, .string ⟨b.digits.toArray⟩, .int .i64 b.exp]] W fun e w' => e = .returned (.bool (mayB b)) ∧ Below W.heap.size W w') := fun W => by
            have h9 := mayR_calls W b (by omega)
            rw [Hbn.out] at h9
            exact h9
          refine wp_region_held_drew (S := (fun w' => w'.cell? ⟨w.heap.size, 0, none⟩ = some (.bool a.neg) ∧ w'.cell? ⟨w.heap.size, 1, none⟩ = some (.string ⟨a.digits.toArray⟩) ∧ w'.cell? ⟨w.heap.size, 2, none⟩ = some (.int .i64 a.exp) ∧ w'.cell? ⟨w.heap.size + 1, 0, none⟩ = some (.bool true) ∧ w'.cell? ⟨w.heap.size + 1, 1, none⟩ = some (.string ⟨b.digits.toArray⟩) ∧ w'.cell? ⟨w.heap.size + 1, 2, none⟩ = some (.int .i64 b.exp))) (by kernel_rfl) hS0 (fun hHeld0 => ?_)
          refine held_take (i := 0) (v := ?_) rfl (by kernel_rfl) (by kernel_rfl) (by kernel_rfl) (fun _ _ _ h => h) (by rfl) (fun wq hSq => ?_) hHeld0 ?_
          rotate_left
          · (try dsimp only at hSq); go_simp; try with_reducible rfl
          simp only [Act.put, List.setIfInBounds_toArray, List.set_cons_zero, List.set_cons_succ]
          refine held_take (i := 6) (v := ?_) rfl (by kernel_rfl) (by kernel_rfl) (by kernel_rfl) (fun _ _ _ h => h) (by rfl) (fun wq hSq => ?_) hHeld0 ?_
          rotate_left
          · (try dsimp only at hSq); go_simp; try with_reducible rfl
          simp only [Act.put, List.setIfInBounds_toArray, List.set_cons_zero, List.set_cons_succ]
          refine held_take (i := 7) (v := ?_) rfl (by kernel_rfl) (by kernel_rfl) (by kernel_rfl) (fun _ _ _ h => h) (by rfl) (fun wq hSq => ?_) hHeld0 ?_
          rotate_left
          · (try dsimp only at hSq); go_simp; try with_reducible rfl
          simp only [Act.put, List.setIfInBounds_toArray, List.set_cons_zero, List.set_cons_succ]
          refine held_take (i := 8) (v := ?_) rfl (by kernel_rfl) (by kernel_rfl) (by kernel_rfl) (fun _ _ _ h => h) (by rfl) (fun wq hSq => ?_) hHeld0 ?_
          rotate_left
          · (try dsimp only at hSq); go_simp; try with_reducible rfl
          simp only [Act.put, List.setIfInBounds_toArray, List.set_cons_zero, List.set_cons_succ]
          refine held_step (i := 1) (by kernel_rfl) rfl (by rfl) (fun K hK => ?_)
          go_simp
          refine (mayR_calls _ a (by omega)).mono ?_
          rintro e v5 ⟨rfl, hb5⟩
          dsimp only
          rw [Hma.out]
          have H5 := Lib.hid (AllAt.under (l := [(w3.heap.size, x), (w.heap.size, a), (w.heap.size + 1, b)]) H4.out.drew hb5)
          have Ht5 := Lib.hid (Tab.below (Ht4.out.below (Below.refl _ _).drew) hb5)
          have hbel5 := hbel4.drew.trans (hb5.mono hbel4.size)
          clear hb5
          refine hK.out _ _ ⟨(H5.out (w.heap.size, a) (by simp)).c0, (H5.out (w.heap.size, a) (by simp)).c1, (H5.out (w.heap.size, a) (by simp)).c2, (by have h9 := (H5.out (w.heap.size + 1, b) (by simp)).c0; rw [Hbn.out] at h9; exact h9), (H5.out (w.heap.size + 1, b) (by simp)).c1, (H5.out (w.heap.size + 1, b) (by simp)).c2⟩ (fun hHeld1 => ?_)
          clear hK K hHeld0
          refine held_take (i := 2) (v := ?_) rfl (by kernel_rfl) (by kernel_rfl) (by kernel_rfl) (fun _ _ _ h => h) (by rfl) (fun wq hSq => ?_) hHeld1 ?_
          rotate_left
          · (try dsimp only at hSq); go_simp; try with_reducible rfl
          simp only [Act.put, List.setIfInBounds_toArray, List.set_cons_zero, List.set_cons_succ]
          refine held_skip (i := 3) rfl (by kernel_rfl) (by kernel_rfl) (by kernel_rfl) (fun _ _ _ h => h) (by rfl) hHeld1 ?_
          simp only [Act.put, List.setIfInBounds_toArray, List.set_cons_zero, List.set_cons_succ]
          refine held_skip (i := 4) rfl (by kernel_rfl) (by kernel_rfl) (by kernel_rfl) (fun _ _ _ h => h) (by rfl) hHeld1 ?_
          simp only [Act.put, List.setIfInBounds_toArray, List.set_cons_zero, List.set_cons_succ]
          refine held_take (i := 5) (v := ?_) rfl (by kernel_rfl) (by kernel_rfl) (by kernel_rfl) (fun _ _ _ h => h) (by rfl) (fun wq hSq => ?_) hHeld1 ?_
          rotate_left
          · (try dsimp only at hSq); go_simp; try with_reducible rfl
          simp only [Act.put, List.setIfInBounds_toArray, List.set_cons_zero, List.set_cons_succ]
          refine held_take (i := 9) (v := ?_) rfl (by kernel_rfl) (by kernel_rfl) (by kernel_rfl) (fun _ _ _ h => h) (by rfl) (fun wq hSq => ?_) hHeld1 ?_
          rotate_left
          · (try dsimp only at hSq); go_simp; try with_reducible rfl
          simp only [Act.put, List.setIfInBounds_toArray, List.set_cons_zero, List.set_cons_succ]
          refine held_skip (i := 10) rfl (by kernel_rfl) (by kernel_rfl) (by kernel_rfl) (fun _ _ _ h => h) (by rfl) hHeld1 ?_
          simp only [Act.put, List.setIfInBounds_toArray, List.set_cons_zero, List.set_cons_succ]
          refine held_skip (i := 11) rfl (by kernel_rfl) (by kernel_rfl) (by kernel_rfl) (fun _ _ _ h => h) (by rfl) hHeld1 ?_
          simp only [Act.put, List.setIfInBounds_toArray, List.set_cons_zero, List.set_cons_succ]
          refine held_skip (i := 12) rfl (by kernel_rfl) (by kernel_rfl) (by kernel_rfl) (fun _ _ _ h => h) (by rfl) hHeld1 ?_
          simp only [Act.put, List.setIfInBounds_toArray, List.set_cons_zero, List.set_cons_succ]
          refine held_take (i := 13) (v := ?_) rfl (by kernel_rfl) (by kernel_rfl) (by kernel_rfl) (fun _ _ _ h => h) (by rfl) (fun wq hSq => ?_) hHeld1 ?_
          rotate_left
          · (try dsimp only at hSq); go_simp; try with_reducible rfl
          simp only [Act.put, List.setIfInBounds_toArray, List.set_cons_zero, List.set_cons_succ]
          refine held_take (i := 14) (v := ?_) rfl (by kernel_rfl) (by kernel_rfl) (by kernel_rfl) (fun _ _ _ h => h) (by rfl) (fun wq hSq => ?_) hHeld1 ?_
          rotate_left
          · (try dsimp only at hSq); go_simp; try with_reducible rfl
          simp only [Act.put, List.setIfInBounds_toArray, List.set_cons_zero, List.set_cons_succ]
          refine held_take (i := 15) (v := ?_) rfl (by kernel_rfl) (by kernel_rfl) (by kernel_rfl) (fun _ _ _ h => h) (by rfl) (fun wq hSq => ?_) hHeld1 ?_
          rotate_left
          · (try dsimp only at hSq); go_simp; try with_reducible rfl
          simp only [Act.put, List.setIfInBounds_toArray, List.set_cons_zero, List.set_cons_succ]
          refine wpAnyH_done (by kernel_rfl) ?_ _
          clear hHeld1
          clear hS0
          go_wp2_with fail
          go_meet
          exact ⟨by rw [Hg.out], by rw [Hab.out], H5.out, Ht5.out, hbel5⟩
        ·
          have hbn2 : b.neg = false := by simpa using hbn
          clear hbn
          have hbn := hbn2
          clear hbn2
          by_cases hbd : b.digits = []
          ·
            have Hab : Hid (aboveB b = false) := by show aboveB b = _; unfold aboveB; rw [hbn, hbd]; rfl
            have Hbn := Lib.hid hbn
            clear hbn
            have Hbd := Lib.hid hbd
            clear hbd
            have hS0 : (fun w' => w'.cell? ⟨w.heap.size, 0, none⟩ = some (.bool a.neg) ∧ w'.cell? ⟨w.heap.size, 1, none⟩ = some (.string ⟨a.digits.toArray⟩) ∧ w'.cell? ⟨w.heap.size, 2, none⟩ = some (.int .i64 a.exp) ∧ w'.cell? ⟨w.heap.size + 1, 0, none⟩ = some (.bool false) ∧ w'.cell? ⟨w.heap.size + 1, 1, none⟩ = some (.string ⟨#[]⟩) ∧ w'.cell? ⟨w.heap.size + 1, 2, none⟩ = some (.int .i64 b.exp)) (w3.alloc (Obj.cells #[Value.bool x.neg, Value.string { data := x.digits.toArray }, Value.int IntKind.i64 x.exp] 24)).drew := ⟨(H4.out (w.heap.size, a) (by simp)).c0, (H4.out (w.heap.size, a) (by simp)).c1, (H4.out (w.heap.size, a) (by simp)).c2, (by have h9 := (H4.out (w.heap.size + 1, b) (by simp)).c0; rw [Hbn.out] at h9; exact h9), (by have h9 := (H4.out (w.heap.size + 1, b) (by simp)).c1; rw [Hbd.out] at h9; exact h9), (H4.out (w.heap.size + 1, b) (by simp)).c2⟩
            have Hmc : Hid (∀ W : World, Calls Tryz.prog 9 #[.agg #[.bool false, .string ⟨#[]⟩, .int .i64 b.exp]] W fun e w' => e = .returned (.bool (mayB b)) ∧ Below W.heap.size W w') := fun W => by
              have h9 := mayR_calls W b (by omega)
              rw [Hbn.out, Hbd.out] at h9
              exact h9
            refine wp_region_held_drew (S := (fun w' => w'.cell? ⟨w.heap.size, 0, none⟩ = some (.bool a.neg) ∧ w'.cell? ⟨w.heap.size, 1, none⟩ = some (.string ⟨a.digits.toArray⟩) ∧ w'.cell? ⟨w.heap.size, 2, none⟩ = some (.int .i64 a.exp) ∧ w'.cell? ⟨w.heap.size + 1, 0, none⟩ = some (.bool false) ∧ w'.cell? ⟨w.heap.size + 1, 1, none⟩ = some (.string ⟨#[]⟩) ∧ w'.cell? ⟨w.heap.size + 1, 2, none⟩ = some (.int .i64 b.exp))) (by kernel_rfl) hS0 (fun hHeld0 => ?_)
            refine held_take (i := 0) (v := ?_) rfl (by kernel_rfl) (by kernel_rfl) (by kernel_rfl) (fun _ _ _ h => h) (by rfl) (fun wq hSq => ?_) hHeld0 ?_
            rotate_left
            · (try dsimp only at hSq); go_simp; try with_reducible rfl
            simp only [Act.put, List.setIfInBounds_toArray, List.set_cons_zero, List.set_cons_succ]
            refine held_take (i := 6) (v := ?_) rfl (by kernel_rfl) (by kernel_rfl) (by kernel_rfl) (fun _ _ _ h => h) (by rfl) (fun wq hSq => ?_) hHeld0 ?_
            rotate_left
            · (try dsimp only at hSq); go_simp; try with_reducible rfl
            simp only [Act.put, List.setIfInBounds_toArray, List.set_cons_zero, List.set_cons_succ]
            refine held_take (i := 7) (v := ?_) rfl (by kernel_rfl) (by kernel_rfl) (by kernel_rfl) (fun _ _ _ h => h) (by rfl) (fun wq hSq => ?_) hHeld0 ?_
            rotate_left
            · (try dsimp only at hSq); go_simp; try with_reducible rfl
            simp only [Act.put, List.setIfInBounds_toArray, List.set_cons_zero, List.set_cons_succ]
            refine held_take (i := 8) (v := ?_) rfl (by kernel_rfl) (by kernel_rfl) (by kernel_rfl) (fun _ _ _ h => h) (by rfl) (fun wq hSq => ?_) hHeld0 ?_
            rotate_left
            · (try dsimp only at hSq); go_simp; try with_reducible rfl
            simp only [Act.put, List.setIfInBounds_toArray, List.set_cons_zero, List.set_cons_succ]
            refine held_step (i := 1) (by kernel_rfl) rfl (by rfl) (fun K hK => ?_)
            go_simp
            refine (mayR_calls _ a (by omega)).mono ?_
            rintro e v5 ⟨rfl, hb5⟩
            dsimp only
            rw [Hma.out]
            have H5 := Lib.hid (AllAt.under (l := [(w3.heap.size, x), (w.heap.size, a), (w.heap.size + 1, b)]) H4.out.drew hb5)
            have Ht5 := Lib.hid (Tab.below (Ht4.out.below (Below.refl _ _).drew) hb5)
            have hbel5 := hbel4.drew.trans (hb5.mono hbel4.size)
            clear hb5
            refine hK.out _ _ ⟨(H5.out (w.heap.size, a) (by simp)).c0, (H5.out (w.heap.size, a) (by simp)).c1, (H5.out (w.heap.size, a) (by simp)).c2, (by have h9 := (H5.out (w.heap.size + 1, b) (by simp)).c0; rw [Hbn.out] at h9; exact h9), (by have h9 := (H5.out (w.heap.size + 1, b) (by simp)).c1; rw [Hbd.out] at h9; exact h9), (H5.out (w.heap.size + 1, b) (by simp)).c2⟩ (fun hHeld1 => ?_)
            clear hK K hHeld0
            refine held_take (i := 2) (v := ?_) rfl (by kernel_rfl) (by kernel_rfl) (by kernel_rfl) (fun _ _ _ h => h) (by rfl) (fun wq hSq => ?_) hHeld1 ?_
            rotate_left
            · (try dsimp only at hSq); go_simp; try with_reducible rfl
            simp only [Act.put, List.setIfInBounds_toArray, List.set_cons_zero, List.set_cons_succ]
            refine held_skip (i := 3) rfl (by kernel_rfl) (by kernel_rfl) (by kernel_rfl) (fun _ _ _ h => h) (by rfl) hHeld1 ?_
            simp only [Act.put, List.setIfInBounds_toArray, List.set_cons_zero, List.set_cons_succ]
            refine held_skip (i := 4) rfl (by kernel_rfl) (by kernel_rfl) (by kernel_rfl) (fun _ _ _ h => h) (by rfl) hHeld1 ?_
            simp only [Act.put, List.setIfInBounds_toArray, List.set_cons_zero, List.set_cons_succ]
            refine held_take (i := 5) (v := ?_) rfl (by kernel_rfl) (by kernel_rfl) (by kernel_rfl) (fun _ _ _ h => h) (by rfl) (fun wq hSq => ?_) hHeld1 ?_
            rotate_left
            · (try dsimp only at hSq); go_simp; try with_reducible rfl
            simp only [Act.put, List.setIfInBounds_toArray, List.set_cons_zero, List.set_cons_succ]
            refine held_take (i := 9) (v := ?_) rfl (by kernel_rfl) (by kernel_rfl) (by kernel_rfl) (fun _ _ _ h => h) (by rfl) (fun wq hSq => ?_) hHeld1 ?_
            rotate_left
            · (try dsimp only at hSq); go_simp; try with_reducible rfl
            simp only [Act.put, List.setIfInBounds_toArray, List.set_cons_zero, List.set_cons_succ]
            refine held_take (i := 10) (v := ?_) rfl (by kernel_rfl) (by kernel_rfl) (by kernel_rfl) (fun _ _ _ h => h) (by rfl) (fun wq hSq => ?_) hHeld1 ?_
            rotate_left
            · (try dsimp only at hSq); go_simp; try with_reducible rfl
            simp only [Act.put, List.setIfInBounds_toArray, List.set_cons_zero, List.set_cons_succ]
            refine held_take (i := 11) (v := ?_) rfl (by kernel_rfl) (by kernel_rfl) (by kernel_rfl) (fun _ _ _ h => h) (by rfl) (fun wq hSq => ?_) hHeld1 ?_
            rotate_left
            · (try dsimp only at hSq); go_simp; try with_reducible rfl
            simp only [Act.put, List.setIfInBounds_toArray, List.set_cons_zero, List.set_cons_succ]
            refine held_take (i := 12) (v := ?_) rfl (by kernel_rfl) (by kernel_rfl) (by kernel_rfl) (fun _ _ _ h => h) (by rfl) (fun wq hSq => ?_) hHeld1 ?_
            rotate_left
            · (try dsimp only at hSq); go_simp; try with_reducible rfl
            simp only [Act.put, List.setIfInBounds_toArray, List.set_cons_zero, List.set_cons_succ]
            refine held_take (i := 13) (v := ?_) rfl (by kernel_rfl) (by kernel_rfl) (by kernel_rfl) (fun _ _ _ h => h) (by rfl) (fun wq hSq => ?_) hHeld1 ?_
            rotate_left
            · (try dsimp only at hSq); go_simp; try with_reducible rfl
            simp only [Act.put, List.setIfInBounds_toArray, List.set_cons_zero, List.set_cons_succ]
            refine held_take (i := 14) (v := ?_) rfl (by kernel_rfl) (by kernel_rfl) (by kernel_rfl) (fun _ _ _ h => h) (by rfl) (fun wq hSq => ?_) hHeld1 ?_
            rotate_left
            · (try dsimp only at hSq); go_simp; try with_reducible rfl
            simp only [Act.put, List.setIfInBounds_toArray, List.set_cons_zero, List.set_cons_succ]
            refine held_take (i := 15) (v := ?_) rfl (by kernel_rfl) (by kernel_rfl) (by kernel_rfl) (fun _ _ _ h => h) (by rfl) (fun wq hSq => ?_) hHeld1 ?_
            rotate_left
            · (try dsimp only at hSq); go_simp; try with_reducible rfl
            simp only [Act.put, List.setIfInBounds_toArray, List.set_cons_zero, List.set_cons_succ]
            refine wpAnyH_done (by kernel_rfl) ?_ _
            clear hHeld1
            clear hS0
            go_wp2_with fail
            go_meet
            exact ⟨by rw [Hg.out], by rw [Hab.out], H5.out, Ht5.out, hbel5⟩
          ·
            obtain ⟨c, t, hbd2⟩ : ∃ c t, b.digits = c :: t := by
              cases h9 : b.digits with
              | nil => exact absurd h9 hbd
              | cons c t => exact ⟨c, t, rfl⟩
            clear hbd
            have hbd := hbd2
            clear hbd2
            have Hab : Hid (aboveB b = true) := by show aboveB b = _; unfold aboveB; rw [hbn, hbd]; rfl
            have Hbn := Lib.hid hbn
            clear hbn
            have Hbd := Lib.hid hbd
            clear hbd
            have hS0 : (fun w' => w'.cell? ⟨w.heap.size, 0, none⟩ = some (.bool a.neg) ∧ w'.cell? ⟨w.heap.size, 1, none⟩ = some (.string ⟨a.digits.toArray⟩) ∧ w'.cell? ⟨w.heap.size, 2, none⟩ = some (.int .i64 a.exp) ∧ w'.cell? ⟨w.heap.size + 1, 0, none⟩ = some (.bool false) ∧ w'.cell? ⟨w.heap.size + 1, 1, none⟩ = some (.string ⟨(c :: t).toArray⟩) ∧ w'.cell? ⟨w.heap.size + 1, 2, none⟩ = some (.int .i64 b.exp)) (w3.alloc (Obj.cells #[Value.bool x.neg, Value.string { data := x.digits.toArray }, Value.int IntKind.i64 x.exp] 24)).drew := ⟨(H4.out (w.heap.size, a) (by simp)).c0, (H4.out (w.heap.size, a) (by simp)).c1, (H4.out (w.heap.size, a) (by simp)).c2, (by have h9 := (H4.out (w.heap.size + 1, b) (by simp)).c0; rw [Hbn.out] at h9; exact h9), (by have h9 := (H4.out (w.heap.size + 1, b) (by simp)).c1; rw [Hbd.out] at h9; exact h9), (H4.out (w.heap.size + 1, b) (by simp)).c2⟩
            have Hmc : Hid (∀ W : World, Calls Tryz.prog 9 #[.agg #[.bool false, .string ⟨(c :: t).toArray⟩, .int .i64 b.exp]] W fun e w' => e = .returned (.bool (mayB b)) ∧ Below W.heap.size W w') := fun W => by
              have h9 := mayR_calls W b (by omega)
              rw [Hbn.out, Hbd.out] at h9
              exact h9
            refine wp_region_held_drew (S := (fun w' => w'.cell? ⟨w.heap.size, 0, none⟩ = some (.bool a.neg) ∧ w'.cell? ⟨w.heap.size, 1, none⟩ = some (.string ⟨a.digits.toArray⟩) ∧ w'.cell? ⟨w.heap.size, 2, none⟩ = some (.int .i64 a.exp) ∧ w'.cell? ⟨w.heap.size + 1, 0, none⟩ = some (.bool false) ∧ w'.cell? ⟨w.heap.size + 1, 1, none⟩ = some (.string ⟨(c :: t).toArray⟩) ∧ w'.cell? ⟨w.heap.size + 1, 2, none⟩ = some (.int .i64 b.exp))) (by kernel_rfl) hS0 (fun hHeld0 => ?_)
            refine held_take (i := 0) (v := ?_) rfl (by kernel_rfl) (by kernel_rfl) (by kernel_rfl) (fun _ _ _ h => h) (by rfl) (fun wq hSq => ?_) hHeld0 ?_
            rotate_left
            · (try dsimp only at hSq); go_simp; try with_reducible rfl
            simp only [Act.put, List.setIfInBounds_toArray, List.set_cons_zero, List.set_cons_succ]
            refine held_take (i := 6) (v := ?_) rfl (by kernel_rfl) (by kernel_rfl) (by kernel_rfl) (fun _ _ _ h => h) (by rfl) (fun wq hSq => ?_) hHeld0 ?_
            rotate_left
            · (try dsimp only at hSq); go_simp; try with_reducible rfl
            simp only [Act.put, List.setIfInBounds_toArray, List.set_cons_zero, List.set_cons_succ]
            refine held_take (i := 7) (v := ?_) rfl (by kernel_rfl) (by kernel_rfl) (by kernel_rfl) (fun _ _ _ h => h) (by rfl) (fun wq hSq => ?_) hHeld0 ?_
            rotate_left
            · (try dsimp only at hSq); go_simp; try with_reducible rfl
            simp only [Act.put, List.setIfInBounds_toArray, List.set_cons_zero, List.set_cons_succ]
            refine held_take (i := 8) (v := ?_) rfl (by kernel_rfl) (by kernel_rfl) (by kernel_rfl) (fun _ _ _ h => h) (by rfl) (fun wq hSq => ?_) hHeld0 ?_
            rotate_left
            · (try dsimp only at hSq); go_simp; try with_reducible rfl
            simp only [Act.put, List.setIfInBounds_toArray, List.set_cons_zero, List.set_cons_succ]
            refine held_step (i := 1) (by kernel_rfl) rfl (by rfl) (fun K hK => ?_)
            go_simp
            refine (mayR_calls _ a (by omega)).mono ?_
            rintro e v5 ⟨rfl, hb5⟩
            dsimp only
            rw [Hma.out]
            have H5 := Lib.hid (AllAt.under (l := [(w3.heap.size, x), (w.heap.size, a), (w.heap.size + 1, b)]) H4.out.drew hb5)
            have Ht5 := Lib.hid (Tab.below (Ht4.out.below (Below.refl _ _).drew) hb5)
            have hbel5 := hbel4.drew.trans (hb5.mono hbel4.size)
            clear hb5
            refine hK.out _ _ ⟨(H5.out (w.heap.size, a) (by simp)).c0, (H5.out (w.heap.size, a) (by simp)).c1, (H5.out (w.heap.size, a) (by simp)).c2, (by have h9 := (H5.out (w.heap.size + 1, b) (by simp)).c0; rw [Hbn.out] at h9; exact h9), (by have h9 := (H5.out (w.heap.size + 1, b) (by simp)).c1; rw [Hbd.out] at h9; exact h9), (H5.out (w.heap.size + 1, b) (by simp)).c2⟩ (fun hHeld1 => ?_)
            clear hK K hHeld0
            refine held_take (i := 2) (v := ?_) rfl (by kernel_rfl) (by kernel_rfl) (by kernel_rfl) (fun _ _ _ h => h) (by rfl) (fun wq hSq => ?_) hHeld1 ?_
            rotate_left
            · (try dsimp only at hSq); go_simp; try with_reducible rfl
            simp only [Act.put, List.setIfInBounds_toArray, List.set_cons_zero, List.set_cons_succ]
            refine held_skip (i := 3) rfl (by kernel_rfl) (by kernel_rfl) (by kernel_rfl) (fun _ _ _ h => h) (by rfl) hHeld1 ?_
            simp only [Act.put, List.setIfInBounds_toArray, List.set_cons_zero, List.set_cons_succ]
            refine held_skip (i := 4) rfl (by kernel_rfl) (by kernel_rfl) (by kernel_rfl) (fun _ _ _ h => h) (by rfl) hHeld1 ?_
            simp only [Act.put, List.setIfInBounds_toArray, List.set_cons_zero, List.set_cons_succ]
            refine held_take (i := 5) (v := ?_) rfl (by kernel_rfl) (by kernel_rfl) (by kernel_rfl) (fun _ _ _ h => h) (by rfl) (fun wq hSq => ?_) hHeld1 ?_
            rotate_left
            · (try dsimp only at hSq); go_simp; try with_reducible rfl
            simp only [Act.put, List.setIfInBounds_toArray, List.set_cons_zero, List.set_cons_succ]
            refine held_take (i := 9) (v := ?_) rfl (by kernel_rfl) (by kernel_rfl) (by kernel_rfl) (fun _ _ _ h => h) (by rfl) (fun wq hSq => ?_) hHeld1 ?_
            rotate_left
            · (try dsimp only at hSq); go_simp; try with_reducible rfl
            simp only [Act.put, List.setIfInBounds_toArray, List.set_cons_zero, List.set_cons_succ]
            refine held_take (i := 10) (v := ?_) rfl (by kernel_rfl) (by kernel_rfl) (by kernel_rfl) (fun _ _ _ h => h) (by rfl) (fun wq hSq => ?_) hHeld1 ?_
            rotate_left
            · (try dsimp only at hSq); go_simp; try with_reducible rfl
            simp only [Act.put, List.setIfInBounds_toArray, List.set_cons_zero, List.set_cons_succ]
            refine held_take (i := 11) (v := ?_) rfl (by kernel_rfl) (by kernel_rfl) (by kernel_rfl) (fun _ _ _ h => h) (by rfl) (fun wq hSq => ?_) hHeld1 ?_
            rotate_left
            · (try dsimp only at hSq); go_simp; try with_reducible rfl
            simp only [Act.put, List.setIfInBounds_toArray, List.set_cons_zero, List.set_cons_succ]
            refine held_take (i := 12) (v := ?_) rfl (by kernel_rfl) (by kernel_rfl) (by kernel_rfl) (fun _ _ _ h => h) (by rfl) (fun wq hSq => ?_) hHeld1 ?_
            rotate_left
            · (try dsimp only at hSq); go_simp; try with_reducible rfl
            simp only [Act.put, List.setIfInBounds_toArray, List.set_cons_zero, List.set_cons_succ]
            refine held_take (i := 13) (v := ?_) rfl (by kernel_rfl) (by kernel_rfl) (by kernel_rfl) (fun _ _ _ h => h) (by rfl) (fun wq hSq => ?_) hHeld1 ?_
            rotate_left
            · (try dsimp only at hSq); go_simp; try with_reducible rfl
            simp only [Act.put, List.setIfInBounds_toArray, List.set_cons_zero, List.set_cons_succ]
            refine held_take (i := 14) (v := ?_) rfl (by kernel_rfl) (by kernel_rfl) (by kernel_rfl) (fun _ _ _ h => h) (by rfl) (fun wq hSq => ?_) hHeld1 ?_
            rotate_left
            · (try dsimp only at hSq); go_simp; try with_reducible rfl
            simp only [Act.put, List.setIfInBounds_toArray, List.set_cons_zero, List.set_cons_succ]
            refine held_take (i := 15) (v := ?_) rfl (by kernel_rfl) (by kernel_rfl) (by kernel_rfl) (fun _ _ _ h => h) (by rfl) (fun wq hSq => ?_) hHeld1 ?_
            rotate_left
            · (try dsimp only at hSq); go_simp; try with_reducible rfl
            simp only [Act.put, List.setIfInBounds_toArray, List.set_cons_zero, List.set_cons_succ]
            refine wpAnyH_done (by kernel_rfl) ?_ _
            clear hHeld1
            clear hS0
            go_wp2_with fail
            go_meet
            exact ⟨by rw [Hg.out], by rw [Hab.out], H5.out, Ht5.out, hbel5⟩
    case rest =>
      obtain ⟨rfl, rfl, hcw, htc, hbc⟩ := hcut
      have H5 := Lib.hid hcw
      have Ht5 := Lib.hid htc
      have hbel5 := hbc
      clear hcw htc hbc H4 Ht4 hbel4
      by_cases hga : goodB a b = true ∧ aboveB b = true
      · obtain ⟨hm, hp, he, _, hz, hpa⟩ := Hyes.out hga.1 hga.2
        have hg1 := hga.1
        have hg2 := hga.2
        rw [hg1, hg2]
        clear hga hg1 hg2 Hno Hyes
        subst he
        have Hm := Lib.hid hm
        have Hp := Lib.hid hp
        have Hz := Lib.hid hz
        have Hpa := Lib.hid hpa
        clear hm hp hz hpa
        have ka0 : wc.cell? ⟨w.heap.size, 0, none⟩ = some (.bool a.neg) := (H5.out (w.heap.size, a) (by simp)).c0
        have ka1 : wc.cell? ⟨w.heap.size, 1, none⟩ = some (.string ⟨a.digits.toArray⟩) := (H5.out (w.heap.size, a) (by simp)).c1
        have ka2 : wc.cell? ⟨w.heap.size, 2, none⟩ = some (.int .i64 a.exp) := (H5.out (w.heap.size, a) (by simp)).c2
        have kb0 : wc.cell? ⟨w.heap.size + 1, 0, none⟩ = some (.bool b.neg) := (H5.out (w.heap.size + 1, b) (by simp)).c0
        have kb1 : wc.cell? ⟨w.heap.size + 1, 1, none⟩ = some (.string ⟨b.digits.toArray⟩) := (H5.out (w.heap.size + 1, b) (by simp)).c1
        have kb2 : wc.cell? ⟨w.heap.size + 1, 2, none⟩ = some (.int .i64 b.exp) := (H5.out (w.heap.size + 1, b) (by simp)).c2
        go_wp2_with fail
        refine (Hmr.out _ Hm.out Hp.out).mono ?_
        rintro e w6 ⟨rfl, hb6⟩
        have hc6 := hb6
        have H6 := Lib.hid (H5.out.under hc6)
        have Ht6 := Lib.hid (Ht5.out.below hc6)
        have hbel6 := hbel5.trans (hc6.mono hbel5.size)
        clear hb6 hc6 H5 Ht5 hbel5 ka0 ka1 ka2 kb0 kb1 kb2
        clear Hmr
        by_cases hn : a.neg = true ∨ a.digits = []
        · have hx := Hz.out hn
          obtain ⟨rfl, rfl⟩ := Prod.mk.inj hx
          clear hx Hz Hpa Hcr
          by_cases hn1 : a.neg = true
          · have Hn := Lib.hid hn1
            clear hn hn1
            have ka0 : w6.cell? ⟨w.heap.size, 0, none⟩ = some (.bool true) := by rw [← Hn.out]; exact (H6.out (w.heap.size, a) (by simp)).c0
            have kx0 : w6.cell? ⟨w3.heap.size, 0, none⟩ = some (.bool false) := (H6.out (w3.heap.size, Dec.zero) (by simp)).c0
            have kx1 : w6.cell? ⟨w3.heap.size, 1, none⟩ = some (.string ⟨#[]⟩) := (H6.out (w3.heap.size, Dec.zero) (by simp)).c1
            have kx2 : w6.cell? ⟨w3.heap.size, 2, none⟩ = some (.int .i64 0) := (H6.out (w3.heap.size, Dec.zero) (by simp)).c2
            go_wp2_with (go_at_call 11; refine (num_calls _ _).mono ?_; rintro e w88 ⟨rfl, rfl⟩)
            refine (works_calls _ Ht6.out).mono ?_
            rintro e wz ⟨rfl, hbz⟩
            have hbf := hbel6.trans (hbz.mono hbel6.size)
            clear hbz H6 Ht6 hbel6 ka0 kx0 kx1 kx2
            go_wp2_with fail
            go_ret
            exact ⟨rfl, hbf⟩
          · have hd0 : a.digits = [] := hn.resolve_left hn1
            have hn2 : a.neg = false := by simpa using hn1
            have Hn := Lib.hid hn2
            have Hd := Lib.hid hd0
            clear hn hn1 hn2 hd0
            have ka0 : w6.cell? ⟨w.heap.size, 0, none⟩ = some (.bool false) := by rw [← Hn.out]; exact (H6.out (w.heap.size, a) (by simp)).c0
            have ka1 : w6.cell? ⟨w.heap.size, 1, none⟩ = some (.string ⟨#[]⟩) := by have h9 := (H6.out (w.heap.size, a) (by simp)).c1; rw [Hd.out] at h9; exact h9
            have kx0 : w6.cell? ⟨w3.heap.size, 0, none⟩ = some (.bool false) := (H6.out (w3.heap.size, Dec.zero) (by simp)).c0
            have kx1 : w6.cell? ⟨w3.heap.size, 1, none⟩ = some (.string ⟨#[]⟩) := (H6.out (w3.heap.size, Dec.zero) (by simp)).c1
            have kx2 : w6.cell? ⟨w3.heap.size, 2, none⟩ = some (.int .i64 0) := (H6.out (w3.heap.size, Dec.zero) (by simp)).c2
            go_wp2_with (go_at_call 11; refine (num_calls _ _).mono ?_; rintro e w88 ⟨rfl, rfl⟩)
            refine (works_calls _ Ht6.out).mono ?_
            rintro e wz ⟨rfl, hbz⟩
            have hbf := hbel6.trans (hbz.mono hbel6.size)
            clear hbz H6 Ht6 hbel6 ka0 ka1 kx0 kx1 kx2
            go_wp2_with fail
            go_ret
            exact ⟨rfl, hbf⟩
        · have hn1 : a.neg = false := by cases h9 : a.neg with
              | false => rfl
              | true => exact absurd (.inl h9) hn
          have hn2 : a.digits ≠ [] := fun h9 => hn (.inr h9)
          have Hpos := Lib.hid (Hpa.out hn1 hn2)
          obtain ⟨ch, tt, hct⟩ : ∃ ch tt, a.digits = ch :: tt := by
            cases h9 : a.digits with
            | nil => exact absurd h9 hn2
            | cons ch tt => exact ⟨ch, tt, rfl⟩
          have Hn := Lib.hid hn1
          have Hct := Lib.hid hct
          clear hn hn1 hn2 hct Hz Hpa
          have ka0 : w6.cell? ⟨w.heap.size, 0, none⟩ = some (.bool false) := by rw [← Hn.out]; exact (H6.out (w.heap.size, a) (by simp)).c0
          have ka1 : w6.cell? ⟨w.heap.size, 1, none⟩ = some (.string ⟨(ch :: tt).toArray⟩) := by have h9 := (H6.out (w.heap.size, a) (by simp)).c1; rw [Hct.out] at h9; exact h9
          have ka2 : w6.cell? ⟨w.heap.size, 2, none⟩ = some (.int .i64 a.exp) := (H6.out (w.heap.size, a) (by simp)).c2
          have kb0 : w6.cell? ⟨w.heap.size + 1, 0, none⟩ = some (.bool b.neg) := (H6.out (w.heap.size + 1, b) (by simp)).c0
          have kb1 : w6.cell? ⟨w.heap.size + 1, 1, none⟩ = some (.string ⟨b.digits.toArray⟩) := (H6.out (w.heap.size + 1, b) (by simp)).c1
          have kb2 : w6.cell? ⟨w.heap.size + 1, 2, none⟩ = some (.int .i64 b.exp) := (H6.out (w.heap.size + 1, b) (by simp)).c2
          have Hcr2 : Hid (∀ W : World, Calls Tryz.prog 20 #[.agg #[.bool false, .string ⟨(ch :: tt).toArray⟩, .int .i64 a.exp], .agg #[.bool b.neg, .string ⟨b.digits.toArray⟩, .int .i64 b.exp]] W fun e w' => e = .returned (.tuple #[.agg #[.bool x.neg, .string ⟨x.digits.toArray⟩, .int .i64 x.exp], .int .i64 e2]) ∧ Below W.heap.size W w') := fun W => by
            have h9 := Hcr.out W Hm.out Hp.out Hpos.out
            rw [Hn.out, Hct.out] at h9
            exact h9
          clear Hcr
          go_wp2_with (go_at_call 11; refine (num_calls _ _).mono ?_; rintro e w88 ⟨rfl, rfl⟩)
          refine (Hcr2.out _).mono ?_
          rintro e w7 ⟨rfl, hb7⟩
          have hc7 := hb7
          have H7 := Lib.hid (H6.out.under hc7)
          have Ht7 := Lib.hid (Ht6.out.below hc7)
          have hbel7 := hbel6.trans (hc7.mono hbel6.size)
          clear hb7 hc7 H6 Ht6 hbel6 kb0 kb1 kb2 ka0 ka1 ka2
          have H8 := Lib.hid ((H7.out.alloc (Obj.cells #[Value.bool x.neg, Value.string { data := x.digits.toArray }, Value.int IntKind.i64 x.exp] 24)).push (DecAt.at w7 x _ rfl))
          have Ht8 := Lib.hid (Ht7.out.alloc (Obj.cells #[Value.bool x.neg, Value.string { data := x.digits.toArray }, Value.int IntKind.i64 x.exp] 24))
          have hbel8 := hbel7.alloc hbel7.size (Obj.cells #[Value.bool x.neg, Value.string { data := x.digits.toArray }, Value.int IntKind.i64 x.exp] 24)
          clear H7 Ht7 hbel7
          have kx0 : (w7.alloc (Obj.cells #[Value.bool x.neg, Value.string { data := x.digits.toArray }, Value.int IntKind.i64 x.exp] 24)).cell? ⟨w3.heap.size, 0, none⟩ = some (.bool x.neg) := (H8.out (w3.heap.size, x) (by simp)).c0
          have kx1 : (w7.alloc (Obj.cells #[Value.bool x.neg, Value.string { data := x.digits.toArray }, Value.int IntKind.i64 x.exp] 24)).cell? ⟨w3.heap.size, 1, none⟩ = some (.string ⟨x.digits.toArray⟩) := (H8.out (w3.heap.size, x) (by simp)).c1
          have kx2 : (w7.alloc (Obj.cells #[Value.bool x.neg, Value.string { data := x.digits.toArray }, Value.int IntKind.i64 x.exp] 24)).cell? ⟨w3.heap.size, 2, none⟩ = some (.int .i64 x.exp) := (H8.out (w3.heap.size, x) (by simp)).c2
          have ky0 : (w7.alloc (Obj.cells #[Value.bool x.neg, Value.string { data := x.digits.toArray }, Value.int IntKind.i64 x.exp] 24)).cell? ⟨w7.heap.size, 0, none⟩ = some (.bool x.neg) := (H8.out (w7.heap.size, x) (by simp)).c0
          have ky1 : (w7.alloc (Obj.cells #[Value.bool x.neg, Value.string { data := x.digits.toArray }, Value.int IntKind.i64 x.exp] 24)).cell? ⟨w7.heap.size, 1, none⟩ = some (.string ⟨x.digits.toArray⟩) := (H8.out (w7.heap.size, x) (by simp)).c1
          have ky2 : (w7.alloc (Obj.cells #[Value.bool x.neg, Value.string { data := x.digits.toArray }, Value.int IntKind.i64 x.exp] 24)).cell? ⟨w7.heap.size, 2, none⟩ = some (.int .i64 x.exp) := (H8.out (w7.heap.size, x) (by simp)).c2
          go_wp2_with (go_at_call 11; refine (num_calls _ _).mono ?_; rintro e w88 ⟨rfl, rfl⟩)
          refine (works_calls _ Ht8.out).mono ?_
          rintro e wz ⟨rfl, hbz⟩
          have hbf := hbel8.trans (hbz.mono hbel8.size)
          clear hbz H8 Ht8 hbel8 kx0 kx1 kx2 ky0 ky1 ky2
          go_wp2_with fail
          go_ret
          exact ⟨rfl, hbf⟩
      · have hno : goodB a b = false ∨ aboveB b = false := by
          cases h9 : goodB a b with
          | false => exact .inl rfl
          | true => right; cases h8 : aboveB b with
            | false => rfl
            | true => exact absurd ⟨h9, h8⟩ hga
        obtain ⟨hx1, hx2⟩ := Hno.out hno
        obtain ⟨rfl, rfl⟩ := Prod.mk.inj hx1
        obtain ⟨rfl, rfl⟩ := Prod.mk.inj hx2
        clear hx1 hx2 Hno Hyes Hcr Hmr hga
        cases hg : goodB a b with
        | false =>
          clear hno hg
          generalize aboveB b = ab at *
          have kx0 : wc.cell? ⟨w3.heap.size, 0, none⟩ = some (.bool false) := (H5.out (w3.heap.size, Dec.zero) (by simp)).c0
          have kx1 : wc.cell? ⟨w3.heap.size, 1, none⟩ = some (.string ⟨#[]⟩) := (H5.out (w3.heap.size, Dec.zero) (by simp)).c1
          have kx2 : wc.cell? ⟨w3.heap.size, 2, none⟩ = some (.int .i64 0) := (H5.out (w3.heap.size, Dec.zero) (by simp)).c2
          go_wp2_with (go_at_call 11; refine (num_calls _ _).mono ?_; rintro e w88 ⟨rfl, rfl⟩)
          refine (works_calls _ Ht5.out).mono ?_
          rintro e wz ⟨rfl, hbz⟩
          have hbf := hbel5.trans (hbz.mono hbel5.size)
          clear hbz H5 Ht5 hbel5 kx0 kx1 kx2
          go_wp2_with fail
          go_ret
          exact ⟨rfl, hbf⟩
        | true =>
          have hab : aboveB b = false := by
            rcases hno with h9 | h9
            · rw [hg] at h9; cases h9
            · exact h9
          rw [hab]
          clear hno hg hab
          have kx0 : wc.cell? ⟨w3.heap.size, 0, none⟩ = some (.bool false) := (H5.out (w3.heap.size, Dec.zero) (by simp)).c0
          have kx1 : wc.cell? ⟨w3.heap.size, 1, none⟩ = some (.string ⟨#[]⟩) := (H5.out (w3.heap.size, Dec.zero) (by simp)).c1
          have kx2 : wc.cell? ⟨w3.heap.size, 2, none⟩ = some (.int .i64 0) := (H5.out (w3.heap.size, Dec.zero) (by simp)).c2
          go_wp2_with (go_at_call 11; refine (num_calls _ _).mono ?_; rintro e w88 ⟨rfl, rfl⟩)
          refine (works_calls _ Ht5.out).mono ?_
          rintro e wz ⟨rfl, hbz⟩
          have hbf := hbel5.trans (hbz.mono hbel5.size)
          clear hbz H5 Ht5 hbel5 kx0 kx1 kx2
          go_wp2_with fail
          go_ret
          exact ⟨rfl, hbf⟩
end Go.Proofs.YtkakmjdfecbhaaaGreatDoor
