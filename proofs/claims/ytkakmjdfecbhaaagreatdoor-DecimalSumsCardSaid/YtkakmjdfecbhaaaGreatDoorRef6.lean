/- The walk of the reference's scaled: over any world. Printed by gen_ref6.py. -/
import Derived.Test.YtkakmjdfecbhaaaGreatDoorRef5
import Derived.Test.YtkakmjdfecbhaaaGreatDoorPla3
import Derived.Test.YtkakmjdfecbhaaaGreatDoorTxt1
namespace Go.Proofs.YtkakmjdfecbhaaaGreatDoor
open Go.RowKit

theorem scale_digs (l : List UInt8) (k : Nat) (hd : Dig l) : trim0 (l ++ List.replicate k 48) = digS (dval l * 10 ^ k) :=
  trim0_digS _ (Dig_append.2 ⟨hd, Dig_zeros k⟩) _ (dval_zeros l k)
set_option maxHeartbeats 1000000 in
theorem scaledR_calls (w : World) (d : Dec) (exp : Int) (hd : Dig d.digits) (hl : d.digits.length ≤ 1000000) (h1 : exp ≤ d.exp) (h2 : d.exp ≤ 100000) (h3 : -100000 ≤ exp) :
    Calls Tryz.prog 33 #[.agg #[.bool d.neg, .string ⟨d.digits.toArray⟩, .int .i64 d.exp], .int .i64 exp] w fun e w' => e = .returned (.string ⟨(digS (mag d exp)).toArray⟩) ∧ Below w.heap.size w w' := by
  have hsc := scale_digs d.digits (d.exp - exp).toNat hd
  have hm : Hid (mag d exp = dval d.digits * 10 ^ (d.exp - exp).toNat) := rfl
  have Hsc := Lib.hid hsc
  clear hsc hd
  obtain ⟨neg, ds, de⟩ := d
  simp only at *
  have hd := DecAt.at w ⟨neg, ds, de⟩ _ rfl
  have hbel : Below w.heap.size w (w.alloc (Obj.cells #[Value.bool neg, Value.string { data := ds.toArray }, Value.int IntKind.i64 de] 24)) := (Below.refl _ _).alloc (Nat.le_refl _) _
  simp only at hd
  go_enter Tryz.func33, Tryz.ntmps33
  go_upto_region 1 with fail
  generalize w.alloc (Obj.cells #[Value.bool neg, Value.string { data := ds.toArray }, Value.int IntKind.i64 de] 24) = w1 at *
  have H1 := Lib.hid hd
  clear hd
  have hS0 : (fun w' => w'.cell? ⟨w.heap.size, 0, none⟩ = some (.bool neg) ∧ w'.cell? ⟨w.heap.size, 1, none⟩ = some (.string ⟨ds.toArray⟩) ∧ w'.cell? ⟨w.heap.size, 2, none⟩ = some (.int .i64 de)) w1.drew := ⟨H1.out.c0, H1.out.c1, H1.out.c2⟩
  have hwp : IntKind.i64.wrap (de - exp) = de - exp := IntWalk.i64_in _ (by omega)
  refine wp_region_held_drew (S := (fun w' => w'.cell? ⟨w.heap.size, 0, none⟩ = some (.bool neg) ∧ w'.cell? ⟨w.heap.size, 1, none⟩ = some (.string ⟨ds.toArray⟩) ∧ w'.cell? ⟨w.heap.size, 2, none⟩ = some (.int .i64 de))) (by kernel_rfl) hS0 (fun hHeld0 => ?_)
  refine held_take (i := 0) (v := ?_) rfl (by kernel_rfl) (by kernel_rfl) (by kernel_rfl) (fun _ _ _ h => h) (by rfl) (fun wq hSq => ?_) hHeld0 ?_
  rotate_left
  · (try dsimp only at hSq); go_simp; try with_reducible rfl
  simp only [Act.put, List.setIfInBounds_toArray, List.set_cons_zero, List.set_cons_succ]
  refine held_take (i := 1) (v := ?_) rfl (by kernel_rfl) (by kernel_rfl) (by kernel_rfl) (fun _ _ _ h => h) (by rfl) (fun wq hSq => ?_) hHeld0 ?_
  rotate_left
  · (try dsimp only at hSq); go_simp; try with_reducible rfl
  simp only [Act.put, List.setIfInBounds_toArray, List.set_cons_zero, List.set_cons_succ]
  refine held_take (i := 2) (v := ?_) rfl (by kernel_rfl) (by kernel_rfl) (by kernel_rfl) (fun _ _ _ h => h) (by rfl) (fun wq hSq => ?_) hHeld0 ?_
  rotate_left
  · (try dsimp only at hSq); go_simp; try with_reducible rfl
  simp only [Act.put, List.setIfInBounds_toArray, List.set_cons_zero, List.set_cons_succ]
  refine held_take (i := 3) (v := ?_) rfl (by kernel_rfl) (by kernel_rfl) (by kernel_rfl) (fun _ _ _ h => h) (by rfl) (fun wq hSq => ?_) hHeld0 ?_
  rotate_left
  · (try dsimp only at hSq); go_simp; try with_reducible rfl
  simp only [Act.put, List.setIfInBounds_toArray, List.set_cons_zero, List.set_cons_succ]
  refine held_take (i := 4) (v := ?_) rfl (by kernel_rfl) (by kernel_rfl) (by kernel_rfl) (fun _ _ _ h => h) (by rfl) (fun wq hSq => ?_) hHeld0 ?_
  rotate_left
  · (try dsimp only at hSq); go_simp; try with_reducible rfl
  simp only [Act.put, List.setIfInBounds_toArray, List.set_cons_zero, List.set_cons_succ]
  refine held_take (i := 5) (v := ?_) rfl (by kernel_rfl) (by kernel_rfl) (by kernel_rfl) (fun _ _ _ h => h) (by rfl) (fun wq hSq => ?_) hHeld0 ?_
  rotate_left
  · (try dsimp only at hSq); go_simp; try with_reducible rfl
  simp only [Act.put, List.setIfInBounds_toArray, List.set_cons_zero, List.set_cons_succ]
  refine held_step (i := 6) (by kernel_rfl) rfl (by rfl) (fun K hK => ?_)
  go_simp
  refine (noughtsR_calls _ (de - exp) (by omega) (by omega)).mono ?_
  rintro e w2 ⟨rfl, hb2⟩
  dsimp only
  have hd2 := H1.out.drew.under hb2
  have hb3 := hbel.drew.trans (hb2.mono hbel.size)
  clear hb2
  have hrl : (List.replicate (de - exp).toNat (48 : UInt8)).length ≤ 1000000 := by simp; omega
  generalize List.replicate (de - exp).toNat (48 : UInt8) = L at *
  have hs1 : ¬ 9223372036854775807 < ds.length + L.length := by omega
  refine hK.out _ _ ⟨hd2.c0, hd2.c1, hd2.c2⟩ (fun hHeld1 => ?_)
  clear hK K hHeld0
  refine held_take (i := 7) (v := ?_) rfl (by kernel_rfl) (by kernel_rfl) (by kernel_rfl) (fun _ _ _ h => h) (by rfl) (fun wq hSq => ?_) hHeld1 ?_
  rotate_left
  · (try dsimp only at hSq); go_simp; try with_reducible rfl
  simp only [Act.put, List.setIfInBounds_toArray, List.set_cons_zero, List.set_cons_succ]
  refine held_step (i := 8) (by kernel_rfl) rfl (by rfl) (fun K hK => ?_)
  go_simp
  rw [show ((⟨ds.toArray⟩ : ByteArray) ++ ⟨L.toArray⟩) = ⟨(ds ++ L).toArray⟩ from bytes_eq (by simp [ByteArray.data_append])]
  refine (plainR_calls _ (ds ++ L) (by simp; omega)).mono ?_
  rintro e w3 ⟨rfl, rfl⟩
  dsimp only
  rw [Hsc.out]
  refine hK.out _ _ ⟨hd2.c0, hd2.c1, hd2.c2⟩ (fun hHeld2 => ?_)
  clear hK K hHeld1
  refine held_take (i := 9) (v := ?_) rfl (by kernel_rfl) (by kernel_rfl) (by kernel_rfl) (fun _ _ _ h => h) (by rfl) (fun wq hSq => ?_) hHeld2 ?_
  rotate_left
  · (try dsimp only at hSq); go_simp; try with_reducible rfl
  simp only [Act.put, List.setIfInBounds_toArray, List.set_cons_zero, List.set_cons_succ]
  refine wpAnyH_done (by kernel_rfl) ?_ _
  clear hHeld2
  clear hS0 hwp
  go_wp2_with fail
  go_ret
  exact ⟨by rw [hm.out]; rfl, hb3⟩
end Go.Proofs.YtkakmjdfecbhaaaGreatDoor
