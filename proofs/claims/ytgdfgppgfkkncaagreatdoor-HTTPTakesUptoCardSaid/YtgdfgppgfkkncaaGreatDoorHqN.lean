/- What is asked of a connection that is none: the law's nothing. -/
import Derived.Test.YtgdfgppgfkkncaaGreatDoorHtX
namespace Go.Proofs.YtgdfgppgfkkncaaGreatDoor
open Go.RowKit

set_option maxRecDepth 100000
theorem take_none (w : World) {p : Value} (h : NoConn w p) (x : Value) : Calls Tryz.prog 12 #[p, x] w fun e w' => e = .returned (.tuple #[.slice none 0 0, .int .i64 1]) ∧ w = w' := by
  have hn := none_none w h
  go_enter Tryz.func12, Tryz.ntmps12
  go_wp2_with fail
  refine hn.mono ?_
  rintro e w' ⟨rfl, rfl⟩
  go_wp2_with fail
  go_ret2
  exact ⟨rfl, rfl⟩
set_option maxHeartbeats 2000000 in
theorem nothing_calls (w : World) : Calls Tryz.prog 18 #[] w fun e w' => e = .returned (.bool true) ∧ Below w.heap.size w w' := by
  have kc := fun (w : World) (C : Array Value) (n c : Nat) => Lib.run_convert_bytes_const (P := Tryz.prog) w 23 5 C n c Tryz.underlying23 Tryz.underlying5
  go_enter Tryz.func18, Tryz.ntmps18
  go_upto_region 2 with fail
  have hb1 : Below w.heap.size w (w.alloc (Obj.cells #[Value.slice none 0 0, Value.bool false, Value.bool false] 70)) := (Below.refl _ _).alloc (Nat.le_refl _) _
  have hb2 : Below (w.alloc (Obj.cells #[Value.slice none 0 0, Value.bool false, Value.bool false] 70)).heap.size (w.alloc (Obj.cells #[Value.slice none 0 0, Value.bool false, Value.bool false] 70)) ((w.alloc (Obj.cells #[Value.slice none 0 0, Value.bool false, Value.bool false] 70)).alloc (Obj.cells #[Value.pointer none, Value.pointer (some { block := w.heap.size, off := 0 })] 24)) := (Below.refl _ _).alloc (Nat.le_refl _) _
  have RZ0 := Lib.hid ((RowAt.new w #[Value.slice none 0 0, Value.bool false, Value.bool false] 70).below hb2)
  have RP0 := RowAt.new (w.alloc (Obj.cells #[Value.slice none 0 0, Value.bool false, Value.bool false] 70)) #[Value.pointer none, Value.pointer (some { block := w.heap.size, off := 0 })] 24
  rw [World.size_alloc] at RP0
  have HB : Hid (Below w.heap.size w ((w.alloc (Obj.cells #[Value.slice none 0 0, Value.bool false, Value.bool false] 70)).alloc (Obj.cells #[Value.pointer none, Value.pointer (some { block := w.heap.size, off := 0 })] 24))) := Lib.hid (hb1.trans (hb2.mono hb1.size))
  have HSZ : Hid (w.heap.size ≤ ((w.alloc (Obj.cells #[Value.slice none 0 0, Value.bool false, Value.bool false] 70)).alloc (Obj.cells #[Value.pointer none, Value.pointer (some { block := w.heap.size, off := 0 })] 24)).heap.size) := Lib.hid HB.out.size
  clear hb1 hb2
  obtain ⟨g, hg⟩ : ∃ x, w.heap.size = x := ⟨_, rfl⟩
  rw [hg] at RZ0 RP0 HB HSZ ⊢
  have RP1 := Lib.hid RP0
  clear RP0
  generalize ((w.alloc (Obj.cells #[Value.slice none 0 0, Value.bool false, Value.bool false] 70)).alloc (Obj.cells #[Value.pointer none, Value.pointer (some { block := g, off := 0 })] 24)) = w2 at *
  have HG := Lib.hid hg
  clear hg
  go_loopg [9] 2 (fun k i wr => ∃ j : Nat, k = 2 - j ∧ j ≤ 2 ∧ i = .int .i64 (j : Int) ∧ Below w2.heap.size w2 wr)
  case atStart => exact ⟨0, rfl, by omega, rfl, Below.refl _ _⟩
  case round =>
    obtain ⟨j, rfl, hj, rfl, hbr⟩ := hrel
    have Hbr := Lib.hid hbr
    have RZ := Lib.hid (RZ0.out.below hbr)
    have RP := Lib.hid (RP1.out.below hbr)
    clear hbr
    obtain rfl | rfl | rfl : j = 0 ∨ j = 1 ∨ j = 2 := by omega
    ·
      have y := RP.out.cell 0 _ rfl
      go_wp2_with fail
      have hal : Below wr.heap.size wr (wr.alloc (Obj.cells #[Value.int IntKind.u8 97] 5 (1, 2))) := (Below.refl _ _).alloc (Nat.le_refl _) _
      have HAL := Lib.hid hal
      clear hal
      generalize wr.alloc (Obj.cells #[Value.int IntKind.u8 97] 5 (1, 2)) = w3 at *
      have hc : NoConn w3 (.pointer none) := .nil
      refine (take_none w3 hc _).mono ?_
      rintro e9 w9 ⟨rfl, rfl⟩
      go_wp2_with fail
      refine (num_calls w3 1).mono ?_
      rintro e9 w9 ⟨rfl, rfl⟩
      go_wp2_with fail
      refine (dead_none w3 hc).mono ?_
      rintro e9 w9 ⟨rfl, rfl⟩
      go_wp2_with fail
      refine (waiting_none w3 hc).mono ?_
      rintro e9 w9 ⟨rfl, rfl⟩
      go_wp2_with fail
      go_roundg (1)
      case measure => decide
      case rel => exact ⟨1, rfl, by omega, by go_num, Hbr.out.trans (HAL.out.mono Hbr.out.size)⟩
    ·
      have y := RP.out.cell 1 _ rfl
      go_wp2_with fail
      have hal : Below wr.heap.size wr (wr.alloc (Obj.cells #[Value.int IntKind.u8 97] 5 (1, 2))) := (Below.refl _ _).alloc (Nat.le_refl _) _
      have HAL := Lib.hid hal
      clear hal
      generalize wr.alloc (Obj.cells #[Value.int IntKind.u8 97] 5 (1, 2)) = w3 at *
      have hc : NoConn w3 (.pointer (some ⟨g, 0, none⟩)) := .zero g (((RZ.out.below HAL.out).cell 1 _ rfl))
      refine (take_none w3 hc _).mono ?_
      rintro e9 w9 ⟨rfl, rfl⟩
      go_wp2_with fail
      refine (num_calls w3 1).mono ?_
      rintro e9 w9 ⟨rfl, rfl⟩
      go_wp2_with fail
      refine (dead_none w3 hc).mono ?_
      rintro e9 w9 ⟨rfl, rfl⟩
      go_wp2_with fail
      refine (waiting_none w3 hc).mono ?_
      rintro e9 w9 ⟨rfl, rfl⟩
      go_wp2_with fail
      go_roundg (0)
      case measure => decide
      case rel => exact ⟨2, rfl, by omega, by go_num, Hbr.out.trans (HAL.out.mono Hbr.out.size)⟩
    ·
      go_wp2_with fail
      go_ret
      exact ⟨rfl, by rw [HG.out]; exact HB.out.trans (Hbr.out.mono HSZ.out)⟩
end Go.Proofs.YtgdfgppgfkkncaaGreatDoor
