/- Texts of this claim, joined: Byt, Psz, Pot. -/
import Derived.Test.YtfclfaidmipjpaaGreatDoorCo15
import Derived.Test.YtfclfaidmipjpaaGreatDoorCo20
import Derived.Test.YtfclfaidmipjpaaGreatDoorOt05
namespace Go.Proofs.YtfclfaidmipjpaaGreatDoor
set_option maxRecDepth 100000
set_option maxHeartbeats 20000000
open Go.RowKit
theorem exec_conv {w : World} {a : Act} {o : Oper} (x : Operand) (ho : o.op = .convert 22 9 x) {B : Nat} {v : Value} {l : List UInt8} (h : FB w B v l) (hx : a.eval x = v) : (execOp a.eval o).run Tryz.prog w = .ok (.value (.string ⟨l.toArray⟩)) w := by
 simp [execOp, ho, hx, h.string]
theorem textA_ge (d : Dec) : d.digits.length ≤ (textA d).length ∧ 1 ≤ (textA d).length := by
 unfold textA
 split
 ·rename_i h; rw [h]; simp
 ·rename_i h0
  split
  ·simp only [List.length_append, List.length_replicate]; omega
  ·split
   ·rename_i _ h
    simp only [List.length_append, List.length_cons, List.length_take, List.length_drop]; omega
   ·split
    ·simp only [List.length_append, List.length_cons, List.length_replicate]; omega
    ·split
     ·simp only [List.length_append, List.length_cons, List.length_take, List.length_drop]; omega
     ·simp only [List.length_append, List.length_cons]; omega
theorem textS_ge {d : Dec} (h : mayB d = true) : d.digits.length + 1 ≤ 2 * (textS d).1.length := by
 unfold textS textT
 rw [if_pos h]
 have := textA_ge d
 split
 ·show _ ≤ 2 * (45 :: textA d).length; simp only [List.length_cons]; omega
 ·show _ ≤ 2 * (textA d).length; omega
theorem quoS_ge (s : List UInt8) : s.length ≤ (quoS s).length := by
 induction s with
 | nil => simp
 | cons c s ih =>
  show (c :: s).length ≤ (quoB c ++ quoS s).length
  have := (quoB_len c).1
  rw [List.length_append, List.length_cons]; omega
theorem quoT_ge (s : List UInt8) : s.length + 2 ≤ (quoT s).length := by
 show s.length + 2 ≤ (34 :: quoS s ++ [34]).length
 have := quoS_ge s
 simp only [List.length_append, List.length_cons, List.length_nil]; omega
theorem szN_lenN (ns : List (List UInt8)) : szN ns ≤ lenN ns := by
 induction ns with
 | nil => simp [szN, lenN]
 | cons u ns ih =>
  simp only [szN, lenN, List.map_cons, List.sum_cons] at ih ⊢
  have := quoT_ge u
  omega
mutual
theorem sz_told : (v : J) → goodJ v = true → szJ v ≤ 2 * (toldJ v).length
 | .mk k b n t l ns, h => by
  obtain ⟨_, h2, h3, h4, h5, _, h7, h8, h9⟩ := good_head h
  have hl := sz_toldL l h8
  simp only [szJ]
  by_cases k2 : k = 2
  ·subst k2
   obtain rfl : l = [] := by rcases h4 with g | g | g <;> first | exact g | exact absurd g (by decide)
   obtain rfl : ns = [] := by rcases h5 with g | g <;> first | exact g | exact absurd g (by decide)
   obtain rfl : t = [] := by rcases h3 with g | g <;> first | exact g | exact absurd g (by decide)
   have := textS_ge h7
   simp only [toldJ]
   simp [szN, szL]
   omega
  ·obtain rfl : n = Dec.zero := h2.resolve_left k2
   by_cases k3 : k = 3
   ·subst k3
    obtain rfl : l = [] := by rcases h4 with g | g | g <;> first | exact g | exact absurd g (by decide)
    obtain rfl : ns = [] := by rcases h5 with g | g <;> first | exact g | exact absurd g (by decide)
    have := quoT_ge t
    simp only [toldJ]
    simp [szN, szL, Dec.zero]
    omega
   ·obtain rfl : t = [] := h3.resolve_left k3
    by_cases k4 : k = 4 ∨ k = 5
    ·have h1 := toldL_len l (decide (k = 5)) true ns (fun e => by
      rcases h9 with g | g | g | g | g | g
      iterate 5 (have := of_decide_eq_true e; omega)
      exact g.2.1)
     have hN : szN ns ≤ (if decide (k = 5) = true then lenN ns else 0) := by
      by_cases e : k = 5
      ·rw [if_pos (decide_eq_true e)]; exact szN_lenN ns
      ·rw [h5.resolve_left e]; simp [szN]
     simp only [toldJ]
     rw [if_neg (by omega), if_neg (by omega), if_neg k2, if_neg k3]
     simp only [List.length_append]
     have e1 : (if k = 5 then ([123] : List UInt8) else [91]).length = 1 := by split <;> rfl
     have e2 : (if k = 5 then ([125] : List UInt8) else [93]).length = 1 := by split <;> rfl
     rw [e1, e2]
     simp only [Dec.zero, List.length_nil]
     have e3 : (if (true = true) ∧ l ≠ [] then 1 else 0) ≤ 1 := by split <;> omega
     omega
    ·obtain rfl : l = [] := by
      rcases h4 with g | g | g
      ·exact absurd (.inl g) k4
      ·exact absurd (.inr g) k4
      ·exact g
     obtain rfl : ns = [] := h5.resolve_left (fun e => k4 (.inr e))
     have hk : k = 0 ∨ k = 1 := by
      rcases h9 with g | g | g | g | g | g
      ·exact .inl g
      ·exact .inr g
      ·exact absurd g k2
      ·exact absurd g k3
      ·exact absurd (.inl g) k4
      ·exact absurd (.inr g.1) k4
     rcases hk with rfl | rfl
     ·simp [toldJ, szN, szL, Dec.zero, wNul]
     ·cases b <;> simp [toldJ, szN, szL, Dec.zero, boolS]
theorem sz_toldL : (l : List J) → goodL l = true → szL l + 2 * l.length ≤ 2 * lenL l
 | [], _ => by simp [szL, lenL]
 | x :: l, h => by
  rw [goodL, Bool.and_eq_true] at h
  have h1 := sz_told x h.1
  have h2 := sz_toldL l h.2
  have e : lenL (x :: l) = (toldJ x).length + 1 + lenL l := by simp [lenL]
  rw [e]
  simp only [szL, List.length_cons]
  omega
end
theorem chk_sz {v : J} (h : checkJ v = 0) : szJ v ≤ 20000000 := by
 obtain ⟨h1, _, h3⟩ := checkJ_zero.1 h
 have := sz_told v h1
 omega
theorem sort_check {v : J} (h : checkJ v = 0) : checkJ (sortJ v) = 0 := by
 obtain ⟨h1, h2, h3⟩ := checkJ_zero.1 h
 exact checkJ_zero.2 ⟨sort_good v h1, by rw [sort_deep v h1]; exact h2, by rw [sort_len v h1]; exact h3⟩
theorem turn_check {v : J} (h : checkJ v = 0) : checkJ (turnJ v) = 0 := by
 obtain ⟨h1, h2, h3⟩ := checkJ_zero.1 h
 have hg := turn_good v h1
 obtain ⟨e1, e2⟩ := same_sort hg h1 (turn_sort v h1)
 exact checkJ_zero.2 ⟨hg, by rw [e1]; exact h2, by rw [e2]; exact h3⟩
theorem sorted_eq {v : J} (h : checkJ v = 0) : sortedV v = sortJ v := by rw [sortedV, if_pos h]
theorem print_eq {v : J} (h : checkJ v = 0) : printJ v = toldJ v := by rw [printJ, if_pos h]
theorem sorted_turn {v : J} (h : checkJ v = 0) : sortedV (turnJ v) = sortJ v := by rw [sorted_eq (turn_check h), turn_sort v (checkJ_zero.1 h).1]
theorem sorted_twice {v : J} (h : checkJ v = 0) : sortedV (sortJ v) = sortJ v := by rw [sorted_eq (sort_check h), sort_twice v (checkJ_zero.1 h).1]
theorem one_text {a b : J} (ha : checkJ a = 0) (hb : checkJ b = 0) : toldJ (sortJ a) = toldJ (sortJ b) ↔ sortJ a = sortJ b := by
 obtain ⟨a1, a2, a3⟩ := checkJ_zero.1 ha
 obtain ⟨b1, b2, b3⟩ := checkJ_zero.1 hb
 exact text_one a1 b1 a2 b2 a3 b3
end Go.Proofs.YtfclfaidmipjpaaGreatDoor
