/- The law's fill; what HTTPBounds keeps from call to call. Printed by gen_bons.py. -/
import Derived.Test.YtgdfgppgfkkncaaGreatDoorHtG
import Derived.Test.YtgdfgppgfkkncaaGreatDoorHr3
import Derived.Test.YtgdfgppgfkkncaaGreatDoorBonM
namespace Go.Proofs.YtgdfgppgfkkncaaGreatDoor
open Go.RowKit

theorem wpList_make_bytes {w : World} {ops : Array Oper} {rest : List Oper} {o : Oper} {a : Act} {Q : Exit → Act → World → Prop}
    (hg : o.guard = none) (l c : Operand) (hop : o.op = Op.makeSlice 23 l c)
    (L C : Int) (n : Nat) (hl : a.eval l = .int .i64 L) (hc : a.eval c = .int .i64 C) (hL : L = (n : Int)) (hC : C = (n : Int)) (b2 : n ≤ 1000000000000)
    (hK : ∀ w', BytV w' w.heap.size (.slice (some ⟨w.heap.size, 0, none⟩) n n) (List.replicate n 0) → Below w.heap.size w w' → wpList Tryz.prog ops Q rest (a.put o.dst (.slice (some ⟨w.heap.size, 0, none⟩) n n)) w') :
    wpList Tryz.prog ops Q (o :: rest) a w := by
  obtain ⟨i0, hi, hz0, hz1, hz2⟩ := info_parts Tryz.info5
  refine wpList_make_full w hg l c 23 hop w.heap.size 5 i0 (.int .u8 0) 1 Tryz.underlying23 hi hz0 hz1 .i64 .i64 L C n hl hc hL hC (by rw [hz2]; omega) (by unfold maxLen; omega) (Nat.le_refl _) ?_
  intro w' h1 h2
  refine hK w' ?_ ((Below.refl _ _).grown h2 (Nat.le_refl _) (fun k hk => by cases hk))
  unfold BytV
  rw [show (madeCells (Value.int IntKind.u8 0).cells (n * 1)).toList = u8s (List.replicate n 0) from ?_] at h1
  · rw [List.length_replicate]; exact h1
  · show (madeCells #[Value.int .u8 0] (n * 1)).toList = _
    rw [toList_madeCells_one, Nat.mul_one]; simp [u8s]
def midF (n j : Nat) : List UInt8 := List.replicate j 98 ++ List.replicate (n - j) 0
theorem midF_len {n j : Nat} (h : j ≤ n) : (midF n j).length = n := by simp [midF]; omega
theorem midF_set {n j : Nat} (h : j < n) : (midF n j).set j 98 = midF n (j + 1) := by
  unfold midF
  rw [List.set_append_right _ _ (by simp), List.length_replicate, Nat.sub_self, show n - j = (n - (j + 1)) + 1 by omega, List.replicate_succ, List.set_cons_zero, List.replicate_succ', List.append_assoc]
  rfl
def headF : List UInt8 := [71, 69, 84, 32, 47, 32, 72, 84, 84, 80, 47, 49, 46, 49, 13, 10, 72, 111, 115, 116, 58, 32, 120, 13, 10, 97, 58]
theorem fill_eq (n : Nat) : headF ++ List.replicate n 98 ++ [13, 10, 13, 10] = fillS n := by simp [headF, fillS, fillA, fillB, ends]
set_option maxHeartbeats 4000000 in
set_option maxRecDepth 100000 in
theorem fill_calls (w : World) (n : Nat) (N : Int) (hN : N = n + 31) (hn : n ≤ 1000000) : Calls Tryz.prog 22 #[.int .i64 N] w fun e w' => e = .returned (.string ⟨(fillS n).toArray⟩) ∧ Below w.heap.size w w' := by
  have hw1 : IntKind.i64.wrap (N - 27) = N - 27 := IntWalk.i64_in _ (by omega)
  have hw2 : IntKind.i64.wrap (N - 27 - 4) = (n : Int) := by rw [IntWalk.i64_in _ (by omega)]; omega
  have hlo : 31 ≤ N := by omega
  have hhi : N ≤ 1000031 := by omega
  have HN := Lib.hid hN
  clear hN
  go_enter Tryz.func22, Tryz.ntmps22
  go_wp2_with (at_make; go_must (refine wpList_make_bytes rfl _ _ rfl _ _ n rfl rfl (by have := HN.out; omega) (by have := HN.out; omega) (by omega) ?_))
  intro w1 hv hb
  have HV : Hid (WaitV w1 w.heap.size (.slice (some ⟨w.heap.size, 0, none⟩) n n) (midF n 0)) := by
    have h9 := waitV_own hv (Nat.le_refl _)
    have e : midF n 0 = List.replicate n 0 := by simp [midF]
    rw [e]; exact h9
  have HB := Lib.hid hb
  clear hv hb hw1 hw2
  go_wp2_with fail
  go_loopg [5] n (fun k i wr => ∃ j : Nat, k = n - j ∧ j ≤ n ∧ i = .int .i64 j ∧ WaitV wr w.heap.size (.slice (some ⟨w.heap.size, 0, none⟩) n n) (midF n j) ∧ Below w.heap.size w wr)
  case atStart => exact ⟨0, rfl, by omega, rfl, HV.out, HB.out⟩
  case round =>
    obtain ⟨j, hk, hj, rfl, hv, hbr⟩ := hrel
    have Hk := Lib.hid hk
    have HV2 := Lib.hid hv
    have HBr := Lib.hid hbr
    clear hk hv hbr HV HB
    by_cases hlt : j < n
    ·
      have hlt2 : (j : Int) < n := by omega
      have y0 := (HV2.out.cellAt j (by rw [midF_len hj]; exact hlt)).1
      have y1 := (HV2.out.cellAt j (by rw [midF_len hj]; exact hlt)).2
      rw [Nat.zero_add] at y0 y1
      have HS := HV2.out.set j (by rw [midF_len hj]; exact hlt) 98 98 rfl
      rw [midF_set hlt, Nat.zero_add] at HS
      have HS2 := Lib.hid HS
      clear HS
      go_wp2_with fail
      go_roundg (n - (j + 1))
      case measure => have := Hk.out; omega
      case rel => exact ⟨j + 1, rfl, by omega, by go_num, HS2.out, HBr.out.setCell (p := ⟨w.heap.size, j, none⟩) (Nat.le_refl _) _⟩
    ·
      obtain rfl : j = n := by omega
      have hlt2 : ¬ (j : Int) < j := by omega
      have hst : (convert 23 9 (.slice (some ⟨w.heap.size, 0, none⟩) j j)).run Tryz.prog wr = .ok (.string ⟨(List.replicate j 98).toArray⟩) wr := by
        have h9 := HV2.out.byts.string
        have e : midF j j = List.replicate j 98 := by simp [midF]
        rw [e] at h9; exact h9
      obtain ⟨r, hr⟩ : ∃ r : List UInt8, List.replicate j 98 = r := ⟨_, rfl⟩
      obtain ⟨r2, hr2⟩ : ∃ r2 : List UInt8, headF ++ r = r2 := ⟨_, rfl⟩
      have hrl : r.length = j := by rw [← hr]; simp
      have hr2l : r2.length = 27 + r.length := by rw [← hr2]; simp [headF]; omega
      rw [hr] at hst
      have hc1 : (⟨#[71, 69, 84, 32, 47, 32, 72, 84, 84, 80, 47, 49, 46, 49, 13, 10, 72, 111, 115, 116, 58, 32, 120, 13, 10, 97, 58]⟩ : ByteArray) ++ ⟨r.toArray⟩ = ⟨r2.toArray⟩ := by rw [← hr2]; exact bytes_app headF r
      have hc2 : (⟨r2.toArray⟩ : ByteArray) ++ ⟨#[13, 10, 13, 10]⟩ = ⟨(fillS j).toArray⟩ := by rw [← fill_eq, hr, hr2]; exact bytes_app r2 [13, 10, 13, 10]
      have hs1 : ¬ 9223372036854775807 < 27 + r.length := by omega
      have hs2 : ¬ 9223372036854775807 < r2.length + 4 := by omega
      clear hr hr2 hrl hr2l
      go_wp2_with fail
      go_ret
      exact ⟨rfl, HBr.out⟩
theorem WaitV.low {w : World} {B B' : Nat} {v : Value} {l : List UInt8} (h : WaitV w B v l) (hb : B' ≤ B) : WaitV w B' v l := by
  rcases h with h | ⟨g, off, cap, h1, h2, h3⟩
  · exact .inl h
  · exact .inr ⟨g, off, cap, h1, Nat.le_trans hb h2, h3⟩
/-- A connection stands beside another that takes. -/
theorem ConnAt.keep {w w' : World} {C C2 : Nat} {v v2 : Value} {l2 : List UInt8} {d2 : Bool} (h : ConnAt w C2 v2 l2 d2) (ha : Apart (OwnC C v) w w') (hne : C ≠ C2) (h1 : ∀ k, v.ownBlock = some k → k ≠ C2) (h2 : ∀ k, v2.ownBlock = some k → k ≠ C) (h3 : ∀ k, v.ownBlock = some k → v2.ownBlock ≠ some k) : ConnAt w' C2 v2 l2 d2 :=
  h.apart ha (fun k hk h9 => by
    rcases hk with rfl | hk
    · rcases h9 with h9 | h9
      · exact hne h9.symm
      · exact h1 _ h9 rfl
    · rcases h9 with h9 | h9
      · exact h2 k hk h9
      · exact h3 k h9 hk)
theorem own_nil (k : Nat) : (Value.slice none 0 0).ownBlock ≠ some k := by intro h; cases h
end Go.Proofs.YtgdfgppgfkkncaaGreatDoor
