/- The walk of the reference's Text: a decimal that may be has the text textT. Printed by gen_ref4.py. -/
import Derived.Test.YtkakmjdfecbhaaaDoorRef2
import Derived.Test.YtkakmjdfecbhaaaDoorTxt1
import Derived.Test.YtkakmjdfecbhaaaDoorPla1
namespace Go.Proofs.YtkakmjdfecbhaaaDoor
open Go.RowKit

set_option maxHeartbeats 4000000 in
set_option maxRecDepth 100000 in
theorem textR_a (w : World) (neg : Bool) (c : UInt8) (t : List UInt8) (exp : Int) (hdl : t.length + 1 ≤ 100) (he1 : -1000 ≤ exp) (he2 : exp ≤ 1000) (ht : Tab w) (h1 : 0 ≤ exp) (h2 : (t.length : Int) + 1 + exp ≤ 21) :
    Calls Tryd.prog 16 #[.agg #[.bool neg, .string ⟨(c :: t).toArray⟩, .int .i64 exp]] w fun e w' => e = .returned (.string ⟨(textT ⟨neg, c :: t, exp⟩).toArray⟩) ∧ Below w.heap.size w w' := by
  have hd := DecAt.at w ⟨neg, c :: t, exp⟩ _ rfl
  have hbel : Below w.heap.size w (w.alloc (Obj.cells #[Value.bool neg, Value.string { data := (c :: t).toArray }, Value.int IntKind.i64 exp] 23)) := (Below.refl _ _).alloc (Nat.le_refl _) _
  have hA : textA ⟨neg, c :: t, exp⟩ = (c :: t) ++ List.replicate exp.toNat 48 := by
    simp only [textA, List.length_cons]; rw [if_neg (by omega), if_pos (by omega)]
  have HA := Lib.hid hA
  clear hA
  have Ht := Lib.hid (ht.alloc (Obj.cells #[Value.bool neg, Value.string { data := (c :: t).toArray }, Value.int IntKind.i64 exp] 23))
  clear ht
  go_enter Tryd.func16, Tryd.ntmps16
  go_upto_region 1 with fail
  simp only at hd
  generalize w.alloc (Obj.cells #[Value.bool neg, Value.string { data := (c :: t).toArray }, Value.int IntKind.i64 exp] 23) = w1 at *
  have H1 := Lib.hid hd
  have c0 := hd.c0
  have c1 := hd.c1
  have c2 := hd.c2
  simp only at c0 c1 c2
  clear hd
  have hS : ∀ s : List UInt8, (if neg then 45 :: s else s) = (if neg then [45] else []) ++ s := fun s => by cases neg <;> rfl
  have HS : Hid (textT ⟨neg, c :: t, exp⟩ = (if neg then [45] else []) ++ textA ⟨neg, c :: t, exp⟩) := by
    show textT _ = _; unfold textT; exact hS _
  clear hS
  have hsl : (if neg then [(45 : UInt8)] else []).length ≤ 1 := by cases neg <;> simp
  go_upto_if 10 with fail
  go_cut [3] from 11 to 11 (fun u wc => u = .string ⟨(if neg then [(45 : UInt8)] else []).toArray⟩ ∧ w1 = wc)
  case first =>
    cases neg with
    | true =>
      go_wp2_with fail
      go_meet
      exact ⟨rfl, rfl⟩
    | false =>
      go_wp2_with fail
      go_meet
      exact ⟨rfl, rfl⟩
  case rest =>
    obtain ⟨rfl, rfl⟩ := hcut
    generalize (if neg then [(45 : UInt8)] else []) = S at *
    have hx : (0 : Int) ≤ exp := by omega
    have hp : (t.length : Int) + 1 + exp ≤ 21 := by omega
    go_upto_region 9 with fail
    have hS0 : (fun w' => w'.cell? ⟨w.heap.size, 0, none⟩ = some (.bool neg) ∧ w'.cell? ⟨w.heap.size, 1, none⟩ = some (.string ⟨(c :: t).toArray⟩) ∧ w'.cell? ⟨w.heap.size, 2, none⟩ = some (.int .i64 exp)) w1.drew := ⟨c0, c1, c2⟩
    have hs1 : ¬ 9223372036854775807 < S.length + (t.length + 1) := by omega
    refine wp_region_held_drew (S := (fun w' => w'.cell? ⟨w.heap.size, 0, none⟩ = some (.bool neg) ∧ w'.cell? ⟨w.heap.size, 1, none⟩ = some (.string ⟨(c :: t).toArray⟩) ∧ w'.cell? ⟨w.heap.size, 2, none⟩ = some (.int .i64 exp))) (by kernel_rfl) hS0 (fun hHeld0 => ?_)
    refine held_take (i := 0) (v := ?_) rfl (by kernel_rfl) (by kernel_rfl) (by kernel_rfl) (fun _ _ _ h => h) (by rfl) (fun wq hSq => ?_) hHeld0 ?_
    rotate_left
    · (try dsimp only at hSq); go_simp; try with_reducible rfl
    simp only [Act.put, List.setIfInBounds_toArray, List.set_cons_zero, List.set_cons_succ]
    refine held_take (i := 1) (v := ?_) rfl (by kernel_rfl) (by kernel_rfl) (by kernel_rfl) (fun _ _ _ h => h) (by rfl) (fun wq hSq => ?_) hHeld0 ?_
    rotate_left
    · (try dsimp only at hSq); go_simp; try with_reducible rfl
    simp only [Act.put, List.setIfInBounds_toArray, List.set_cons_zero, List.set_cons_succ]
    refine held_take (i := 2) (v := ?_) rfl (by kernel_rfl) (by kernel_rfl) (by kernel_rfl) (fun _ _ _ h => h) (by rfl) (fun wq hSq => ?_) hHeld0 ?_
    rotate_left
    · (try dsimp only at hSq); go_simp; try with_reducible rfl
    simp only [Act.put, List.setIfInBounds_toArray, List.set_cons_zero, List.set_cons_succ]
    refine held_take (i := 3) (v := ?_) rfl (by kernel_rfl) (by kernel_rfl) (by kernel_rfl) (fun _ _ _ h => h) (by rfl) (fun wq hSq => ?_) hHeld0 ?_
    rotate_left
    · (try dsimp only at hSq); go_simp; try with_reducible rfl
    simp only [Act.put, List.setIfInBounds_toArray, List.set_cons_zero, List.set_cons_succ]
    refine held_take (i := 4) (v := ?_) rfl (by kernel_rfl) (by kernel_rfl) (by kernel_rfl) (fun _ _ _ h => h) (by rfl) (fun wq hSq => ?_) hHeld0 ?_
    rotate_left
    · (try dsimp only at hSq); go_simp; try with_reducible rfl
    simp only [Act.put, List.setIfInBounds_toArray, List.set_cons_zero, List.set_cons_succ]
    refine held_take (i := 5) (v := ?_) rfl (by kernel_rfl) (by kernel_rfl) (by kernel_rfl) (fun _ _ _ h => h) (by rfl) (fun wq hSq => ?_) hHeld0 ?_
    rotate_left
    · (try dsimp only at hSq); go_simp; try with_reducible rfl
    simp only [Act.put, List.setIfInBounds_toArray, List.set_cons_zero, List.set_cons_succ]
    refine held_step (i := 6) (by kernel_rfl) rfl (by rfl) (fun K hK => ?_)
    go_simp
    refine (noughtsR_calls _ exp (by omega) (by omega)).mono ?_
    rintro e w2 ⟨rfl, hb2⟩
    dsimp only
    have hd2 := H1.out.drew.under hb2
    have hb3 := hbel.drew.trans (hb2.mono hbel.size)
    clear hb2
    have hrl : (List.replicate (exp).toNat (48 : UInt8)).length ≤ 1000 := by simp; omega
    have Hrl : Hid (∃ L, L = List.replicate (exp).toNat (48 : UInt8)) := ⟨_, rfl⟩
    obtain ⟨L, hL⟩ := Hrl.out
    rw [← hL] at hrl ⊢
    have HL := Lib.hid hL
    clear hL Hrl
    have hs2 : ¬ 9223372036854775807 < S.length + (t.length + 1) + L.length := by omega
    refine hK.out _ _ ⟨hd2.c0, hd2.c1, hd2.c2⟩ (fun hHeld1 => ?_)
    clear hK K hHeld0
    refine held_take (i := 7) (v := ?_) rfl (by kernel_rfl) (by kernel_rfl) (by kernel_rfl) (fun _ _ _ h => h) (by rfl) (fun wq hSq => ?_) hHeld1 ?_
    rotate_left
    · (try dsimp only at hSq); go_simp; try with_reducible rfl
    simp only [Act.put, List.setIfInBounds_toArray, List.set_cons_zero, List.set_cons_succ]
    refine held_take (i := 8) (v := ?_) rfl (by kernel_rfl) (by kernel_rfl) (by kernel_rfl) (fun _ _ _ h => h) (by rfl) (fun wq hSq => ?_) hHeld1 ?_
    rotate_left
    · (try dsimp only at hSq); go_simp; try with_reducible rfl
    simp only [Act.put, List.setIfInBounds_toArray, List.set_cons_zero, List.set_cons_succ]
    refine wpAnyH_done (by kernel_rfl) ?_ _
    clear hHeld1
    clear hS0
    go_wp2_with fail
    go_ret
    refine ⟨?_, hb3⟩
    rw [HS.out, HA.out, ← HL.out]
    exact congrArg (fun s => Ending.returned (.string s)) (bytes_eq (by simp [ByteArray.data_append]))
set_option maxHeartbeats 4000000 in
set_option maxRecDepth 100000 in
theorem textR_b (w : World) (neg : Bool) (c : UInt8) (t : List UInt8) (exp : Int) (hdl : t.length + 1 ≤ 100) (he1 : -1000 ≤ exp) (he2 : exp ≤ 1000) (ht : Tab w) (h1 : exp < 0) (h2 : 0 < (t.length : Int) + 1 + exp) (h3 : (t.length : Int) + 1 + exp ≤ 21) :
    Calls Tryd.prog 16 #[.agg #[.bool neg, .string ⟨(c :: t).toArray⟩, .int .i64 exp]] w fun e w' => e = .returned (.string ⟨(textT ⟨neg, c :: t, exp⟩).toArray⟩) ∧ Below w.heap.size w w' := by
  have hd := DecAt.at w ⟨neg, c :: t, exp⟩ _ rfl
  have hbel : Below w.heap.size w (w.alloc (Obj.cells #[Value.bool neg, Value.string { data := (c :: t).toArray }, Value.int IntKind.i64 exp] 23)) := (Below.refl _ _).alloc (Nat.le_refl _) _
  have hA : textA ⟨neg, c :: t, exp⟩ = (c :: t).take ((t.length : Int) + 1 + exp).toNat ++ 46 :: (c :: t).drop ((t.length : Int) + 1 + exp).toNat := by
    simp only [textA, List.length_cons]; rw [if_neg (by omega), if_neg (by omega), if_pos (by omega)]; rfl
  have HA := Lib.hid hA
  clear hA
  have Ht := Lib.hid (ht.alloc (Obj.cells #[Value.bool neg, Value.string { data := (c :: t).toArray }, Value.int IntKind.i64 exp] 23))
  clear ht
  go_enter Tryd.func16, Tryd.ntmps16
  go_upto_region 1 with fail
  simp only at hd
  generalize w.alloc (Obj.cells #[Value.bool neg, Value.string { data := (c :: t).toArray }, Value.int IntKind.i64 exp] 23) = w1 at *
  have H1 := Lib.hid hd
  have c0 := hd.c0
  have c1 := hd.c1
  have c2 := hd.c2
  simp only at c0 c1 c2
  clear hd
  have hS : ∀ s : List UInt8, (if neg then 45 :: s else s) = (if neg then [45] else []) ++ s := fun s => by cases neg <;> rfl
  have HS : Hid (textT ⟨neg, c :: t, exp⟩ = (if neg then [45] else []) ++ textA ⟨neg, c :: t, exp⟩) := by
    show textT _ = _; unfold textT; exact hS _
  clear hS
  have hsl : (if neg then [(45 : UInt8)] else []).length ≤ 1 := by cases neg <;> simp
  go_upto_if 10 with fail
  go_cut [3] from 11 to 11 (fun u wc => u = .string ⟨(if neg then [(45 : UInt8)] else []).toArray⟩ ∧ w1 = wc)
  case first =>
    cases neg with
    | true =>
      go_wp2_with fail
      go_meet
      exact ⟨rfl, rfl⟩
    | false =>
      go_wp2_with fail
      go_meet
      exact ⟨rfl, rfl⟩
  case rest =>
    obtain ⟨rfl, rfl⟩ := hcut
    generalize (if neg then [(45 : UInt8)] else []) = S at *
    obtain ⟨p, hp⟩ : ∃ p : Nat, (t.length : Int) + 1 + exp = (p : Int) := ⟨((t.length : Int) + 1 + exp).toNat, by omega⟩
    have hx : ¬ (0 : Int) ≤ exp := by omega
    have hp1 : (0 : Int) < (p : Int) := by omega
    have hp2 : (p : Int) ≤ 21 := by omega
    have hp3 : p ≤ t.length := by omega
    have Hp := Lib.hid hp
    have hpn : ((t.length : Int) + 1 + exp).toNat = p := by omega
    rw [hpn] at HA
    have hx1 : (⟨(c :: t).toArray⟩ : ByteArray).extract 0 p = ⟨((c :: t).take p).toArray⟩ := by rw [Lib.extract_eq]; simp
    have hx2 : (⟨(c :: t).toArray⟩ : ByteArray).extract p (t.length + 1) = ⟨((c :: t).drop p).toArray⟩ := by rw [Lib.extract_eq]; rw [List.take_of_length_le (by simp)]
    have hl1 : ((c :: t).take p).length ≤ 100 := by simp; omega
    have hl2 : ((c :: t).drop p).length ≤ 100 := by simp; omega
    generalize (c :: t).take p = D1 at *
    generalize (c :: t).drop p = D2 at *
    clear hp hpn h2 h3
    go_upto_region 8 with fail
    rw [Hp.out]
    clear Hp
    go_upto_region 11 with fail
    have hS0 : (fun w' => w'.cell? ⟨w.heap.size, 0, none⟩ = some (.bool neg) ∧ w'.cell? ⟨w.heap.size, 1, none⟩ = some (.string ⟨(c :: t).toArray⟩) ∧ w'.cell? ⟨w.heap.size, 2, none⟩ = some (.int .i64 exp)) w1.drew := ⟨c0, c1, c2⟩
    have hs1 : ¬ 9223372036854775807 < S.length + D1.length := by omega
    have hs2 : ¬ 9223372036854775807 < S.length + D1.length + 1 := by omega
    have hs3 : ¬ 9223372036854775807 < S.length + D1.length + 1 + D2.length := by omega
    have hpI : (0 : Int) ≤ (p : Int) := by omega
    have hpI2 : (p : Int) ≤ (t.length : Int) + 1 := by omega
    refine wp_region_held_drew (S := (fun w' => w'.cell? ⟨w.heap.size, 0, none⟩ = some (.bool neg) ∧ w'.cell? ⟨w.heap.size, 1, none⟩ = some (.string ⟨(c :: t).toArray⟩) ∧ w'.cell? ⟨w.heap.size, 2, none⟩ = some (.int .i64 exp))) (by kernel_rfl) hS0 (fun hHeld0 => ?_)
    refine held_take (i := 0) (v := ?_) rfl (by kernel_rfl) (by kernel_rfl) (by kernel_rfl) (fun _ _ _ h => h) (by rfl) (fun wq hSq => ?_) hHeld0 ?_
    rotate_left
    · (try dsimp only at hSq); go_simp; try with_reducible rfl
    simp only [Act.put, List.setIfInBounds_toArray, List.set_cons_zero, List.set_cons_succ]
    refine held_take (i := 1) (v := ?_) rfl (by kernel_rfl) (by kernel_rfl) (by kernel_rfl) (fun _ _ _ h => h) (by rfl) (fun wq hSq => ?_) hHeld0 ?_
    rotate_left
    · (try dsimp only at hSq); go_simp; try with_reducible rfl
    simp only [Act.put, List.setIfInBounds_toArray, List.set_cons_zero, List.set_cons_succ]
    refine held_take (i := 2) (v := ?_) rfl (by kernel_rfl) (by kernel_rfl) (by kernel_rfl) (fun _ _ _ h => h) (by rfl) (fun wq hSq => ?_) hHeld0 ?_
    rotate_left
    · (try dsimp only at hSq); go_simp; try with_reducible rfl
    simp only [Act.put, List.setIfInBounds_toArray, List.set_cons_zero, List.set_cons_succ]
    refine held_take (i := 3) (v := ?_) rfl (by kernel_rfl) (by kernel_rfl) (by kernel_rfl) (fun _ _ _ h => h) (by rfl) (fun wq hSq => ?_) hHeld0 ?_
    rotate_left
    · (try dsimp only at hSq); go_simp; try with_reducible rfl
    simp only [Act.put, List.setIfInBounds_toArray, List.set_cons_zero, List.set_cons_succ]
    refine held_take (i := 4) (v := ?_) rfl (by kernel_rfl) (by kernel_rfl) (by kernel_rfl) (fun _ _ _ h => h) (by rfl) (fun wq hSq => ?_) hHeld0 ?_
    rotate_left
    · (try dsimp only at hSq); go_simp; try with_reducible rfl
    simp only [Act.put, List.setIfInBounds_toArray, List.set_cons_zero, List.set_cons_succ]
    refine held_take (i := 5) (v := ?_) rfl (by kernel_rfl) (by kernel_rfl) (by kernel_rfl) (fun _ _ _ h => h) (by rfl) (fun wq hSq => ?_) hHeld0 ?_
    rotate_left
    · (try dsimp only at hSq); go_simp; try with_reducible rfl
    simp only [Act.put, List.setIfInBounds_toArray, List.set_cons_zero, List.set_cons_succ]
    refine held_take (i := 6) (v := ?_) rfl (by kernel_rfl) (by kernel_rfl) (by kernel_rfl) (fun _ _ _ h => h) (by rfl) (fun wq hSq => ?_) hHeld0 ?_
    rotate_left
    · (try dsimp only at hSq); go_simp; try with_reducible rfl
    simp only [Act.put, List.setIfInBounds_toArray, List.set_cons_zero, List.set_cons_succ]
    refine held_take (i := 7) (v := ?_) rfl (by kernel_rfl) (by kernel_rfl) (by kernel_rfl) (fun _ _ _ h => h) (by rfl) (fun wq hSq => ?_) hHeld0 ?_
    rotate_left
    · (try dsimp only at hSq); go_simp; try with_reducible rfl
    simp only [Act.put, List.setIfInBounds_toArray, List.set_cons_zero, List.set_cons_succ]
    refine held_take (i := 8) (v := ?_) rfl (by kernel_rfl) (by kernel_rfl) (by kernel_rfl) (fun _ _ _ h => h) (by rfl) (fun wq hSq => ?_) hHeld0 ?_
    rotate_left
    · (try dsimp only at hSq); go_simp; try with_reducible rfl
    simp only [Act.put, List.setIfInBounds_toArray, List.set_cons_zero, List.set_cons_succ]
    refine held_take (i := 9) (v := ?_) rfl (by kernel_rfl) (by kernel_rfl) (by kernel_rfl) (fun _ _ _ h => h) (by rfl) (fun wq hSq => ?_) hHeld0 ?_
    rotate_left
    · (try dsimp only at hSq); go_simp; try with_reducible rfl
    simp only [Act.put, List.setIfInBounds_toArray, List.set_cons_zero, List.set_cons_succ]
    refine held_take (i := 10) (v := ?_) rfl (by kernel_rfl) (by kernel_rfl) (by kernel_rfl) (fun _ _ _ h => h) (by rfl) (fun wq hSq => ?_) hHeld0 ?_
    rotate_left
    · (try dsimp only at hSq); go_simp; try with_reducible rfl
    simp only [Act.put, List.setIfInBounds_toArray, List.set_cons_zero, List.set_cons_succ]
    refine held_take (i := 11) (v := ?_) rfl (by kernel_rfl) (by kernel_rfl) (by kernel_rfl) (fun _ _ _ h => h) (by rfl) (fun wq hSq => ?_) hHeld0 ?_
    rotate_left
    · (try dsimp only at hSq); go_simp; try with_reducible rfl
    simp only [Act.put, List.setIfInBounds_toArray, List.set_cons_zero, List.set_cons_succ]
    refine held_take (i := 12) (v := ?_) rfl (by kernel_rfl) (by kernel_rfl) (by kernel_rfl) (fun _ _ _ h => h) (by rfl) (fun wq hSq => ?_) hHeld0 ?_
    rotate_left
    · (try dsimp only at hSq); go_simp; try with_reducible rfl
    simp only [Act.put, List.setIfInBounds_toArray, List.set_cons_zero, List.set_cons_succ]
    refine wpAnyH_done (by kernel_rfl) ?_ _
    clear hHeld0
    clear hS0
    go_wp2_with fail
    go_ret
    refine ⟨?_, hbel.drew⟩
    rw [HS.out, HA.out]
    exact congrArg (fun s => Ending.returned (.string s)) (bytes_eq (by simp [ByteArray.data_append]))
set_option maxHeartbeats 4000000 in
set_option maxRecDepth 100000 in
theorem textR_c (w : World) (neg : Bool) (c : UInt8) (t : List UInt8) (exp : Int) (hdl : t.length + 1 ≤ 100) (he1 : -1000 ≤ exp) (he2 : exp ≤ 1000) (ht : Tab w) (h1 : exp < 0) (h2 : (t.length : Int) + 1 + exp ≤ 0) (h3 : -5 ≤ (t.length : Int) + 1 + exp) :
    Calls Tryd.prog 16 #[.agg #[.bool neg, .string ⟨(c :: t).toArray⟩, .int .i64 exp]] w fun e w' => e = .returned (.string ⟨(textT ⟨neg, c :: t, exp⟩).toArray⟩) ∧ Below w.heap.size w w' := by
  have hd := DecAt.at w ⟨neg, c :: t, exp⟩ _ rfl
  have hbel : Below w.heap.size w (w.alloc (Obj.cells #[Value.bool neg, Value.string { data := (c :: t).toArray }, Value.int IntKind.i64 exp] 23)) := (Below.refl _ _).alloc (Nat.le_refl _) _
  have hA : textA ⟨neg, c :: t, exp⟩ = 48 :: 46 :: (List.replicate (-((t.length : Int) + 1 + exp)).toNat 48 ++ (c :: t)) := by
    simp only [textA, List.length_cons]; rw [if_neg (by omega), if_neg (by omega), if_neg (by omega), if_pos (by omega)]; rfl
  have HA := Lib.hid hA
  clear hA
  have Ht := Lib.hid (ht.alloc (Obj.cells #[Value.bool neg, Value.string { data := (c :: t).toArray }, Value.int IntKind.i64 exp] 23))
  clear ht
  go_enter Tryd.func16, Tryd.ntmps16
  go_upto_region 1 with fail
  simp only at hd
  generalize w.alloc (Obj.cells #[Value.bool neg, Value.string { data := (c :: t).toArray }, Value.int IntKind.i64 exp] 23) = w1 at *
  have H1 := Lib.hid hd
  have c0 := hd.c0
  have c1 := hd.c1
  have c2 := hd.c2
  simp only at c0 c1 c2
  clear hd
  have hS : ∀ s : List UInt8, (if neg then 45 :: s else s) = (if neg then [45] else []) ++ s := fun s => by cases neg <;> rfl
  have HS : Hid (textT ⟨neg, c :: t, exp⟩ = (if neg then [45] else []) ++ textA ⟨neg, c :: t, exp⟩) := by
    show textT _ = _; unfold textT; exact hS _
  clear hS
  have hsl : (if neg then [(45 : UInt8)] else []).length ≤ 1 := by cases neg <;> simp
  go_upto_if 10 with fail
  go_cut [3] from 11 to 11 (fun u wc => u = .string ⟨(if neg then [(45 : UInt8)] else []).toArray⟩ ∧ w1 = wc)
  case first =>
    cases neg with
    | true =>
      go_wp2_with fail
      go_meet
      exact ⟨rfl, rfl⟩
    | false =>
      go_wp2_with fail
      go_meet
      exact ⟨rfl, rfl⟩
  case rest =>
    obtain ⟨rfl, rfl⟩ := hcut
    generalize (if neg then [(45 : UInt8)] else []) = S at *
    have hx : ¬ (0 : Int) ≤ exp := by omega
    obtain ⟨p, hp⟩ : ∃ p : Int, (t.length : Int) + 1 + exp = p := ⟨_, rfl⟩
    rw [hp] at h2 h3 HA
    have hxp : exp < 0 := by omega
    have Hp := Lib.hid hp
    clear hp
    go_upto_region 8 with fail
    rw [Hp.out]
    clear Hp
    go_upto_region 13 with fail
    have hS0 : (fun w' => w'.cell? ⟨w.heap.size, 0, none⟩ = some (.bool neg) ∧ w'.cell? ⟨w.heap.size, 1, none⟩ = some (.string ⟨(c :: t).toArray⟩) ∧ w'.cell? ⟨w.heap.size, 2, none⟩ = some (.int .i64 exp)) w1.drew := ⟨c0, c1, c2⟩
    have hs1 : ¬ 9223372036854775807 < S.length + 2 := by omega
    have hwp : IntKind.i64.wrap (-p) = -p := IntWalk.i64_in _ (by omega)
    refine wp_region_held_drew (S := (fun w' => w'.cell? ⟨w.heap.size, 0, none⟩ = some (.bool neg) ∧ w'.cell? ⟨w.heap.size, 1, none⟩ = some (.string ⟨(c :: t).toArray⟩) ∧ w'.cell? ⟨w.heap.size, 2, none⟩ = some (.int .i64 exp))) (by kernel_rfl) hS0 (fun hHeld0 => ?_)
    refine held_take (i := 0) (v := ?_) rfl (by kernel_rfl) (by kernel_rfl) (by kernel_rfl) (fun _ _ _ h => h) (by rfl) (fun wq hSq => ?_) hHeld0 ?_
    rotate_left
    · (try dsimp only at hSq); go_simp; try with_reducible rfl
    simp only [Act.put, List.setIfInBounds_toArray, List.set_cons_zero, List.set_cons_succ]
    refine held_take (i := 1) (v := ?_) rfl (by kernel_rfl) (by kernel_rfl) (by kernel_rfl) (fun _ _ _ h => h) (by rfl) (fun wq hSq => ?_) hHeld0 ?_
    rotate_left
    · (try dsimp only at hSq); go_simp; try with_reducible rfl
    simp only [Act.put, List.setIfInBounds_toArray, List.set_cons_zero, List.set_cons_succ]
    refine held_take (i := 2) (v := ?_) rfl (by kernel_rfl) (by kernel_rfl) (by kernel_rfl) (fun _ _ _ h => h) (by rfl) (fun wq hSq => ?_) hHeld0 ?_
    rotate_left
    · (try dsimp only at hSq); go_simp; try with_reducible rfl
    simp only [Act.put, List.setIfInBounds_toArray, List.set_cons_zero, List.set_cons_succ]
    refine held_take (i := 3) (v := ?_) rfl (by kernel_rfl) (by kernel_rfl) (by kernel_rfl) (fun _ _ _ h => h) (by rfl) (fun wq hSq => ?_) hHeld0 ?_
    rotate_left
    · (try dsimp only at hSq); go_simp; try with_reducible rfl
    simp only [Act.put, List.setIfInBounds_toArray, List.set_cons_zero, List.set_cons_succ]
    refine held_take (i := 6) (v := ?_) rfl (by kernel_rfl) (by kernel_rfl) (by kernel_rfl) (fun _ _ _ h => h) (by rfl) (fun wq hSq => ?_) hHeld0 ?_
    rotate_left
    · (try dsimp only at hSq); go_simp; try with_reducible rfl
    simp only [Act.put, List.setIfInBounds_toArray, List.set_cons_zero, List.set_cons_succ]
    refine held_take (i := 7) (v := ?_) rfl (by kernel_rfl) (by kernel_rfl) (by kernel_rfl) (fun _ _ _ h => h) (by rfl) (fun wq hSq => ?_) hHeld0 ?_
    rotate_left
    · (try dsimp only at hSq); go_simp; try with_reducible rfl
    simp only [Act.put, List.setIfInBounds_toArray, List.set_cons_zero, List.set_cons_succ]
    refine held_step (i := 4) (by kernel_rfl) rfl (by rfl) (fun K hK => ?_)
    go_simp
    refine (noughtsR_calls _ (-p) (by omega) (by omega)).mono ?_
    rintro e w2 ⟨rfl, hb2⟩
    dsimp only
    have hd2 := H1.out.drew.under hb2
    have hb3 := hbel.drew.trans (hb2.mono hbel.size)
    clear hb2
    have hrl : (List.replicate ((-p)).toNat (48 : UInt8)).length ≤ 1000 := by simp; omega
    have Hrl : Hid (∃ L, L = List.replicate ((-p)).toNat (48 : UInt8)) := ⟨_, rfl⟩
    obtain ⟨L, hL⟩ := Hrl.out
    rw [← hL] at hrl ⊢
    have HL := Lib.hid hL
    clear hL Hrl
    have hs2 : ¬ 9223372036854775807 < S.length + 2 + L.length := by omega
    have hs3 : ¬ 9223372036854775807 < S.length + 2 + L.length + (t.length + 1) := by omega
    refine hK.out _ _ ⟨hd2.c0, hd2.c1, hd2.c2⟩ (fun hHeld1 => ?_)
    clear hK K hHeld0
    refine held_take (i := 5) (v := ?_) rfl (by kernel_rfl) (by kernel_rfl) (by kernel_rfl) (fun _ _ _ h => h) (by rfl) (fun wq hSq => ?_) hHeld1 ?_
    rotate_left
    · (try dsimp only at hSq); go_simp; try with_reducible rfl
    simp only [Act.put, List.setIfInBounds_toArray, List.set_cons_zero, List.set_cons_succ]
    refine held_take (i := 8) (v := ?_) rfl (by kernel_rfl) (by kernel_rfl) (by kernel_rfl) (fun _ _ _ h => h) (by rfl) (fun wq hSq => ?_) hHeld1 ?_
    rotate_left
    · (try dsimp only at hSq); go_simp; try with_reducible rfl
    simp only [Act.put, List.setIfInBounds_toArray, List.set_cons_zero, List.set_cons_succ]
    refine held_take (i := 9) (v := ?_) rfl (by kernel_rfl) (by kernel_rfl) (by kernel_rfl) (fun _ _ _ h => h) (by rfl) (fun wq hSq => ?_) hHeld1 ?_
    rotate_left
    · (try dsimp only at hSq); go_simp; try with_reducible rfl
    simp only [Act.put, List.setIfInBounds_toArray, List.set_cons_zero, List.set_cons_succ]
    refine wpAnyH_done (by kernel_rfl) ?_ _
    clear hHeld1
    clear hS0 hwp
    go_wp2_with fail
    go_ret
    refine ⟨?_, hb3⟩
    rw [HS.out, HA.out, ← HL.out]
    exact congrArg (fun s => Ending.returned (.string s)) (bytes_eq (by simp [ByteArray.data_append]))
set_option maxHeartbeats 4000000 in
set_option maxRecDepth 100000 in
theorem textR_d (w : World) (neg : Bool) (c : UInt8) (t : List UInt8) (exp : Int) (hdl : t.length + 1 ≤ 100) (he1 : -1000 ≤ exp) (he2 : exp ≤ 1000) (ht : Tab w) (h1 : t.length = 0) (h2 : 21 < (t.length : Int) + 1 + exp ∨ (t.length : Int) + 1 + exp < -5) :
    Calls Tryd.prog 16 #[.agg #[.bool neg, .string ⟨(c :: t).toArray⟩, .int .i64 exp]] w fun e w' => e = .returned (.string ⟨(textT ⟨neg, c :: t, exp⟩).toArray⟩) ∧ Below w.heap.size w w' := by
  have hd := DecAt.at w ⟨neg, c :: t, exp⟩ _ rfl
  have hbel : Below w.heap.size w (w.alloc (Obj.cells #[Value.bool neg, Value.string { data := (c :: t).toArray }, Value.int IntKind.i64 exp] 23)) := (Below.refl _ _).alloc (Nat.le_refl _) _
  have hA : textA ⟨neg, c :: t, exp⟩ = [c] ++ 101 :: Lib.itoa ((t.length : Int) + 1 + exp - 1) := by
    simp only [textA, List.length_cons]; rw [if_neg (by omega), if_neg (by omega), if_neg (by omega), if_neg (by omega), if_neg (by omega), List.length_eq_zero_iff.1 h1]; rfl
  have HA := Lib.hid hA
  clear hA
  have Ht := Lib.hid (ht.alloc (Obj.cells #[Value.bool neg, Value.string { data := (c :: t).toArray }, Value.int IntKind.i64 exp] 23))
  clear ht
  go_enter Tryd.func16, Tryd.ntmps16
  go_upto_region 1 with fail
  simp only at hd
  generalize w.alloc (Obj.cells #[Value.bool neg, Value.string { data := (c :: t).toArray }, Value.int IntKind.i64 exp] 23) = w1 at *
  have H1 := Lib.hid hd
  have c0 := hd.c0
  have c1 := hd.c1
  have c2 := hd.c2
  simp only at c0 c1 c2
  clear hd
  have hS : ∀ s : List UInt8, (if neg then 45 :: s else s) = (if neg then [45] else []) ++ s := fun s => by cases neg <;> rfl
  have HS : Hid (textT ⟨neg, c :: t, exp⟩ = (if neg then [45] else []) ++ textA ⟨neg, c :: t, exp⟩) := by
    show textT _ = _; unfold textT; exact hS _
  clear hS
  have hsl : (if neg then [(45 : UInt8)] else []).length ≤ 1 := by cases neg <;> simp
  go_upto_if 10 with fail
  go_cut [3] from 11 to 11 (fun u wc => u = .string ⟨(if neg then [(45 : UInt8)] else []).toArray⟩ ∧ w1 = wc)
  case first =>
    cases neg with
    | true =>
      go_wp2_with fail
      go_meet
      exact ⟨rfl, rfl⟩
    | false =>
      go_wp2_with fail
      go_meet
      exact ⟨rfl, rfl⟩
  case rest =>
    obtain ⟨rfl, rfl⟩ := hcut
    generalize (if neg then [(45 : UInt8)] else []) = S at *
    obtain ⟨p, hp⟩ : ∃ p : Int, (t.length : Int) + 1 + exp = p := ⟨_, rfl⟩
    have hxp : exp < p := by omega
    rw [hp] at h2 HA
    have hp1 : -2000 ≤ p := by omega
    have hp2 : p ≤ 2000 := by omega
    have Hp := Lib.hid hp
    clear hp
    have hx1 : (⟨(c :: t).toArray⟩ : ByteArray).extract 0 1 = ⟨[c].toArray⟩ := by rw [Lib.extract_eq]; rfl
    have hn1 : ¬ (0 : Int) < t.length := by omega
    have hxt : t.length ≤ 0 := by omega
    clear h1
    go_upto_region 8 with fail
    rw [Hp.out]
    clear Hp
    have hs1 : ¬ 9223372036854775807 < S.length + 1 := by omega
    have hs2 : ¬ 9223372036854775807 < S.length + 1 + 1 := by omega
    have h2' : (21 < p ∧ 0 ≤ exp) ∨ (21 < p ∧ exp < 0) ∨ (p < -5 ∧ exp < 0) := by omega
    clear h2
    rcases h2' with ⟨h2, hx⟩ | ⟨h2, hx⟩ | ⟨h2, hx⟩
    all_goals
      go_wp2_with fail
      refine (Tryd.strconv_Itoa (p - 1) (by omega) (by omega) _ (by exact Ht.out)).mono ?_
      rintro e w4 ⟨rfl, k, os, hw4⟩
      have hb4 := below_grow w1 k os
      rw [← hw4] at hb4
      have hb4 : Below w1.heap.size w1 w4 := hb4
      have hit := Lib.itoa_length_le (p - 1) (by omega) (by omega)
      have hb3 := hbel.trans (hb4.mono hbel.size)
      clear hb4 hw4 c0 c1 c2 Ht H1
      generalize Lib.itoa (p - 1) = it at *
      have hs5 : ¬ 9223372036854775807 < S.length + 1 + 1 + it.length := by omega
      go_wp2_with fail
      go_ret
      refine ⟨?_, hb3⟩
      rw [HS.out, HA.out]
      exact congrArg (fun s => Ending.returned (.string s)) (bytes_eq (by simp [ByteArray.data_append]))
set_option maxHeartbeats 4000000 in
set_option maxRecDepth 100000 in
theorem textR_e (w : World) (neg : Bool) (c : UInt8) (t : List UInt8) (exp : Int) (hdl : t.length + 1 ≤ 100) (he1 : -1000 ≤ exp) (he2 : exp ≤ 1000) (ht : Tab w) (h1 : 0 < t.length) (h2 : 21 < (t.length : Int) + 1 + exp ∨ (t.length : Int) + 1 + exp < -5) :
    Calls Tryd.prog 16 #[.agg #[.bool neg, .string ⟨(c :: t).toArray⟩, .int .i64 exp]] w fun e w' => e = .returned (.string ⟨(textT ⟨neg, c :: t, exp⟩).toArray⟩) ∧ Below w.heap.size w w' := by
  have hd := DecAt.at w ⟨neg, c :: t, exp⟩ _ rfl
  have hbel : Below w.heap.size w (w.alloc (Obj.cells #[Value.bool neg, Value.string { data := (c :: t).toArray }, Value.int IntKind.i64 exp] 23)) := (Below.refl _ _).alloc (Nat.le_refl _) _
  have hA : textA ⟨neg, c :: t, exp⟩ = (c :: 46 :: t) ++ 101 :: Lib.itoa ((t.length : Int) + 1 + exp - 1) := by
    simp only [textA, List.length_cons]; rw [if_neg (by omega), if_neg (by omega), if_neg (by omega), if_neg (by omega), if_pos (by omega)]; rfl
  have HA := Lib.hid hA
  clear hA
  have Ht := Lib.hid (ht.alloc (Obj.cells #[Value.bool neg, Value.string { data := (c :: t).toArray }, Value.int IntKind.i64 exp] 23))
  clear ht
  go_enter Tryd.func16, Tryd.ntmps16
  go_upto_region 1 with fail
  simp only at hd
  generalize w.alloc (Obj.cells #[Value.bool neg, Value.string { data := (c :: t).toArray }, Value.int IntKind.i64 exp] 23) = w1 at *
  have H1 := Lib.hid hd
  have c0 := hd.c0
  have c1 := hd.c1
  have c2 := hd.c2
  simp only at c0 c1 c2
  clear hd
  have hS : ∀ s : List UInt8, (if neg then 45 :: s else s) = (if neg then [45] else []) ++ s := fun s => by cases neg <;> rfl
  have HS : Hid (textT ⟨neg, c :: t, exp⟩ = (if neg then [45] else []) ++ textA ⟨neg, c :: t, exp⟩) := by
    show textT _ = _; unfold textT; exact hS _
  clear hS
  have hsl : (if neg then [(45 : UInt8)] else []).length ≤ 1 := by cases neg <;> simp
  go_upto_if 10 with fail
  go_cut [3] from 11 to 11 (fun u wc => u = .string ⟨(if neg then [(45 : UInt8)] else []).toArray⟩ ∧ w1 = wc)
  case first =>
    cases neg with
    | true =>
      go_wp2_with fail
      go_meet
      exact ⟨rfl, rfl⟩
    | false =>
      go_wp2_with fail
      go_meet
      exact ⟨rfl, rfl⟩
  case rest =>
    obtain ⟨rfl, rfl⟩ := hcut
    generalize (if neg then [(45 : UInt8)] else []) = S at *
    obtain ⟨p, hp⟩ : ∃ p : Int, (t.length : Int) + 1 + exp = p := ⟨_, rfl⟩
    have hxp : exp < p := by omega
    rw [hp] at h2 HA
    have hp1 : -2000 ≤ p := by omega
    have hp2 : p ≤ 2000 := by omega
    have Hp := Lib.hid hp
    clear hp
    have hx1 : (⟨(c :: t).toArray⟩ : ByteArray).extract 0 1 = ⟨[c].toArray⟩ := by rw [Lib.extract_eq]; rfl
    have hx2 : (⟨(c :: t).toArray⟩ : ByteArray).extract 1 (t.length + 1) = ⟨t.toArray⟩ := by rw [Lib.extract_eq]; simp
    go_upto_region 8 with fail
    rw [Hp.out]
    clear Hp
    have hs1 : ¬ 9223372036854775807 < S.length + 1 := by omega
    have hs2 : ¬ 9223372036854775807 < S.length + 1 + 1 := by omega
    have hs3 : ¬ 9223372036854775807 < S.length + 1 + 1 + t.length := by omega
    have hs4 : ¬ 9223372036854775807 < S.length + 1 + 1 + t.length + 1 := by omega
    have hn1 : (0 : Int) < t.length := by omega
    have h2' : (21 < p ∧ 0 ≤ exp) ∨ (21 < p ∧ exp < 0) ∨ (p < -5 ∧ exp < 0) := by omega
    clear h2
    rcases h2' with ⟨h2, hx⟩ | ⟨h2, hx⟩ | ⟨h2, hx⟩
    all_goals
      go_wp2_with fail
      refine (Tryd.strconv_Itoa (p - 1) (by omega) (by omega) _ (by exact Ht.out)).mono ?_
      rintro e w4 ⟨rfl, k, os, hw4⟩
      have hb4 := below_grow w1 k os
      rw [← hw4] at hb4
      have hb4 : Below w1.heap.size w1 w4 := hb4
      have hit := Lib.itoa_length_le (p - 1) (by omega) (by omega)
      have hb3 := hbel.trans (hb4.mono hbel.size)
      clear hb4 hw4 c0 c1 c2 Ht H1
      generalize Lib.itoa (p - 1) = it at *
      have hs5 : ¬ 9223372036854775807 < S.length + 1 + 1 + t.length + 1 + it.length := by omega
      go_wp2_with fail
      go_ret
      refine ⟨?_, hb3⟩
      rw [HS.out, HA.out]
      exact congrArg (fun s => Ending.returned (.string s)) (bytes_eq (by simp [ByteArray.data_append]))
theorem textR_calls (w : World) (d : Dec) (hmay : mayB d = true) (ht : Tab w) :
    Calls Tryd.prog 16 #[.agg #[.bool d.neg, .string ⟨d.digits.toArray⟩, .int .i64 d.exp]] w fun e w' => e = .returned (.string ⟨(textT d).toArray⟩) ∧ Below w.heap.size w w' := by
  obtain ⟨hdg, hdl, he1, he2⟩ := may_bounds hmay
  obtain ⟨neg, digits, exp⟩ := d
  cases digits with
  | nil =>
    have h0 := may_nil hmay rfl
    rw [h0]
    have hbel : Below w.heap.size w (w.alloc (Obj.cells #[Value.bool false, Value.string { data := #[] }, Value.int IntKind.i64 0] 23)) := (Below.refl _ _).alloc (Nat.le_refl _) _
    clear h0 hmay
    simp only [Dec.zero]
    go_enter Tryd.func16, Tryd.ntmps16
    go_wp2_with fail
    go_ret
    exact ⟨rfl, hbel⟩
  | cons c t =>
    simp only [List.length_cons] at hdl
    simp only at he1 he2
    clear hmay hdg
    by_cases h1 : 0 ≤ exp ∧ (t.length : Int) + 1 + exp ≤ 21
    · exact textR_a w neg c t exp hdl he1 he2 ht h1.1 h1.2
    by_cases h2 : 0 < (t.length : Int) + 1 + exp ∧ (t.length : Int) + 1 + exp ≤ 21
    · exact textR_b w neg c t exp hdl he1 he2 ht (by omega) h2.1 h2.2
    by_cases h3 : (t.length : Int) + 1 + exp ≤ 0 ∧ -5 ≤ (t.length : Int) + 1 + exp
    · exact textR_c w neg c t exp hdl he1 he2 ht (by omega) h3.1 h3.2
    by_cases h4 : t.length = 0
    · exact textR_d w neg c t exp hdl he1 he2 ht h4 (by omega)
    · exact textR_e w neg c t exp hdl he1 he2 ht (by omega) (by omega)
end Go.Proofs.YtkakmjdfecbhaaaDoor
