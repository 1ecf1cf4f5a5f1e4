/- Plain laws of HTTPBounds: the other bounds, at the law's own texts. -/
import Derived.Test.YtgdfgppgfkkncaaGreatDoorBonL
import Derived.ProofKit
namespace Go.Proofs.YtgdfgppgfkkncaaGreatDoor

/-- A head with so many headers 'a'. -/
def hd0 : List UInt8 := [71, 69, 84, 32, 47, 32, 72, 84, 84, 80, 47, 49, 46, 49, 13, 10, 72, 111, 115, 116, 58, 32, 120, 13, 10]
def manyS : Nat → List UInt8
  | 0 => hd0
  | n + 1 => manyS n ++ [97, 58, 13, 10]
theorem manyS_len (n : Nat) : (manyS n).length = 25 + n * 4 := by
  induction n with
  | zero => rfl
  | succ n ih => rw [manyS, List.length_append, ih]; simp; omega
theorem many_100 : (headS (manyS 99 ++ [13, 10])).1.headers.length = 100 ∧ (headS (manyS 99 ++ [13, 10])).2.2 = 0 := ⟨by kernel_rfl, by kernel_rfl⟩
theorem many_101 : (headS (manyS 99 ++ [97, 58, 13, 10, 13, 10])).2.2 = 382 := by kernel_rfl
/-- The head of a body. -/
def bdS : List UInt8 := [80, 85, 84, 32, 47, 32, 72, 84, 84, 80, 47, 49, 46, 49, 13, 10, 104, 111, 115, 116, 58, 13, 10, 99, 111, 110, 116, 101, 110, 116, 45, 108, 101, 110, 103, 116, 104, 58, 48, 48, 48, 48, 48, 48, 48, 48, 48, 48]
def bd6 : List UInt8 := bdS ++ [49, 48, 52, 56, 53, 55, 54, 13, 10, 13, 10]
def bd7 : List UInt8 := bdS ++ [49, 48, 52, 56, 53, 55, 55, 13, 10, 13, 10]
def bd0 : List UInt8 := bdS ++ [48, 48, 48, 48, 48, 48, 48, 48, 48, 13, 10, 13, 10]
theorem bd6_head : ∃ q, headS bd6 = (q, 1048576, 0) ∧ q.close = false := ⟨(headS bd6).1, by kernel_rfl, by kernel_rfl⟩
theorem bd6_index : Lib.index bd6 ends = (55 : Nat) := by kernel_rfl
theorem bd6_more : runA bd6 = ([], 0, bd6, false) := by kernel_rfl
theorem bd7_err : runA bd7 = ([], 381, [], true) := by kernel_rfl
theorem bd0_err : (headS bd0).2.2 = 380 := by kernel_rfl
theorem bd6_len : bd6.length = 59 := rfl
/-- A body of just the bytes that may be. -/
theorem bd6_body (z : List UInt8) (hz : z.length = 1048576) : ∃ q, runA (bd6 ++ z) = ([q], 0, [], false) ∧ q.body.length = 1048576 := by
  obtain ⟨q, hq, hc⟩ := bd6_head
  have hi : Lib.index (bd6 ++ z) ends = (55 : Nat) := index_app bd6_index z
  have ht : (bd6 ++ z).take 59 = bd6 := by rw [List.take_append_of_le_length (Nat.le_of_eq bd6_len.symm), List.take_of_length_le (Nat.le_of_eq bd6_len)]
  have hd : (bd6 ++ z).drop 59 = z := by rw [List.drop_append_of_le_length (Nat.le_of_eq bd6_len.symm), List.drop_of_length_le (Nat.le_of_eq bd6_len), List.nil_append]
  have hl : (bd6 ++ z).length = 59 + z.length := by rw [List.length_append, bd6_len]
  have e : nextS (bd6 ++ z) = .got { q with body := z } [] := by
    unfold nextS
    rw [if_neg (by rw [hi]; omega)]
    have e1 : (Lib.index (bd6 ++ z) ends).toNat + 4 = 59 := by rw [hi]; rfl
    simp only [e1, ht, hq]
    rw [if_neg (by simp), if_neg (by rw [hl]; omega), hd, List.take_of_length_le (by omega), List.drop_of_length_le (by rw [hl]; omega)]
  refine ⟨{ q with body := z }, ?_, hz⟩
  rw [runA_got e]
  show (if q.close = true then _ else _) = _
  rw [hc]
  rfl
end Go.Proofs.YtgdfgppgfkkncaaGreatDoor
