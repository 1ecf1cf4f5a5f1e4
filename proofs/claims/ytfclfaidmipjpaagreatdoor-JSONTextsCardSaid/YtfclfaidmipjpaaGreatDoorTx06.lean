/- Texts of this claim, joined: Jr7. -/
import Derived.Test.YtfclfaidmipjpaaGreatDoorTx02
import Derived.Test.YtfclfaidmipjpaaGreatDoorTx05
namespace Go.Proofs.YtfclfaidmipjpaaGreatDoor
set_option maxRecDepth 100000
set_option maxHeartbeats 20000000
open Go.RowKit
theorem few_snoc : ∀ (s : List UInt8) (k : Nat), ∃ r : Nat, (∀ t, fewS k (s ++ t) = fewS k s ++ fewS r t) ∧ r = s.foldl (fun r c => if digB c then r + 1 else 0) k
 | [], k => ⟨k, fun _ => rfl, rfl⟩
 | a :: s, k => by
  by_cases h : digB a = true
  ·obtain ⟨r, h1, h2⟩ := few_snoc s (k + 1)
   refine ⟨r, fun t => ?_, by rw [h2, List.foldl_cons, if_pos h]⟩
   simp only [List.cons_append, fewS, h, if_true, h1]
   split <;> rfl
  ·obtain ⟨r, h1, h2⟩ := few_snoc s 0
   refine ⟨r, fun t => ?_, by rw [h2, List.foldl_cons, if_neg h]⟩
   have h3 : digB a = false := by simpa using h
   simp only [List.cons_append, fewS, h3, Bool.false_eq_true, if_false, h1]
def runS (s : List UInt8) : Nat := s.foldl (fun r c => if digB c then r + 1 else 0) 0
theorem few_next (s : List UInt8) (c : UInt8) : fewS 0 (s ++ [c]) = fewS 0 s ++ fewS (runS s) [c] ∧ runS (s ++ [c]) = if digB c then runS s + 1 else 0 := by
 obtain ⟨r, h1, h2⟩ := few_snoc s 0
 refine ⟨by rw [h1, h2]; rfl, ?_⟩
 unfold runS
 rw [List.foldl_append]; rfl
theorem few_len (s : List UInt8) : ∀ k, (fewS k s).length ≤ s.length := by
 induction s with
 | nil => intro k; exact Nat.le_refl _
 | cons c t ih =>
  intro k
  simp only [fewS]
  split
  ·split
   ·have := ih (k + 1); simp only [List.length_cons]; omega
   ·have := ih (k + 1); simp only [List.length_cons]; omega
  ·have := ih 0; simp only [List.length_cons]; omega
theorem run_le (s : List UInt8) : runS s ≤ s.length := by
 have key : ∀ (s : List UInt8) (k : Nat), s.foldl (fun r c => if digB c then r + 1 else 0) k ≤ k + s.length := by
  intro s
  induction s with
  | nil => intro k; simp
  | cons c t ih =>
   intro k
   simp only [List.foldl_cons, List.length_cons]
   split
   ·have := ih (k + 1); omega
   ·have := ih 0; omega
 have := key s 0
 unfold runS; omega
theorem take_one (s : List UInt8) (j : Nat) (h : j < s.length) : s.take (j + 1) = s.take j ++ [s.getD j 0] := by
 rw [List.take_add_one, List.getElem?_eq_getElem h]; simp [List.getElem?_eq_getElem h]
theorem grammarR_calls (w : World) (s : List UInt8) (hs : s.length ≤ 1000000000) :
  Calls Tryz.prog 127 #[.string ⟨s.toArray⟩] w fun e w' => e = .returned (.bool (gramB s)) ∧ Below w.heap.size w w' := by
 go_enter Tryz.func127, Tryz.ntmps127
 go_wp2_with fail
 go_loopg [3, 4, 5] s.length (fun k s3 s4 s5 wr => ∃ j : Nat, k = s.length - j ∧ j ≤ s.length ∧ s3 = .string ⟨(fewS 0 (s.take j)).toArray⟩ ∧ s4 = .int .i64 (runS (s.take j) : Int) ∧ s5 = .int .i64 (j : Int) ∧ w = wr)
 case atStart => exact ⟨0, rfl, Nat.zero_le _, rfl, rfl, rfl, rfl⟩
 case round =>
  obtain ⟨j, hk, hj, rfl, rfl, rfl, rfl⟩ := hrel
  have Hk := Lib.hid hk
  clear hk
  by_cases hlt : j < s.length
  ·have hlt2 : (j : Int) < s.length := by omega
   have hij := byte_at s j hlt
   have HT := Lib.hid (take_one s j hlt)
   obtain ⟨hf1, hf2⟩ := few_next (s.take j) (s.getD j 0)
   rw [← HT.out] at hf1 hf2
   have HF1 := Lib.hid hf1
   have HF2 := Lib.hid hf2
   have hlen := few_len (s.take j) 0
   have hrl := run_le (s.take j)
   rw [List.length_take] at hlen hrl
   have hext : (⟨s.toArray⟩ : ByteArray).extract j (j + 1) = ⟨[s.getD j 0].toArray⟩ := by rw [Lib.extract_eq, Nat.add_sub_cancel_left, drop_at hlt]; rfl
   have hwr : IntKind.i64.wrap ((j : Int) + 1) = (j : Int) + 1 := IntWalk.i64_in _ (by omega)
   have hjs : (j : Int) + 1 ≤ s.length := by omega
   clear hf1 hf2 HT
   generalize fewS 0 (s.take j) = out at *
   generalize runS (s.take j) = run at *
   have hc := (s.getD j 0).toNat_lt
   generalize s.getD j 0 = c at *
   have hcat := bytes_app out [c]
   have hsum : ¬ (9223372036854775807 < out.length + [c].length) := by simp only [List.length_cons, List.length_nil]; omega
   by_cases hd : digB c = true
   ·have hd2 := (digB_iff c).1 hd
    obtain ⟨d1, d2⟩ := hd2
    have d3 : ¬ c.toNat < 48 := by omega
    have d4 : ¬ 57 < c.toNat := by omega
    have HR : Hid (runS (s.take (j + 1)) = run + 1) := Lib.hid (by rw [HF2.out, if_pos hd])
    by_cases hr : run < 2
    ·have HO : Hid (fewS 0 (s.take (j + 1)) = out ++ [c]) := Lib.hid (by rw [HF1.out]; simp [fewS, hd, hr])
     have hr2 : (run : Int) + 1 < 3 := by omega
     clear hd HF1 HF2 hr
     go_wp2_with fail
     go_roundg (s.length - (j + 1))
     case measure => have := Hk.out; omega
     case rel => exact ⟨j + 1, rfl, by omega, by rw [HO.out], by rw [HR.out]; go_num, by go_num, rfl⟩
    ·have HO : Hid (fewS 0 (s.take (j + 1)) = out) := Lib.hid (by rw [HF1.out]; simp [fewS, hd, hr])
     have hr2 : ¬ (run : Int) + 1 < 3 := by omega
     clear hd HF1 HF2 hr
     go_wp2_with fail
     go_roundg (s.length - (j + 1))
     case measure => have := Hk.out; omega
     case rel => exact ⟨j + 1, rfl, by omega, by rw [HO.out], by rw [HR.out]; go_num, by go_num, rfl⟩
   ·have hd0 : digB c = false := by simpa using hd
    have HR : Hid (runS (s.take (j + 1)) = 0) := Lib.hid (by rw [HF2.out, if_neg hd])
    have HO : Hid (fewS 0 (s.take (j + 1)) = out ++ [c]) := Lib.hid (by rw [HF1.out]; simp [fewS, hd0])
    have hcs : c.toNat < 48 ∨ (48 ≤ c.toNat ∧ 57 < c.toNat) := by
     rcases Nat.lt_or_ge c.toNat 48 with h9 | h9
     ·exact .inl h9
     ·rcases Nat.lt_or_ge 57 c.toNat with h8 | h8
      ·exact .inr ⟨h9, h8⟩
      ·exact absurd ((digB_iff c).2 ⟨h9, h8⟩) hd
    clear hd hd0 HF1 HF2
    rcases hcs with d1 | ⟨d0, d1⟩
    ·go_wp2_with fail
     go_roundg (s.length - (j + 1))
     case measure => have := Hk.out; omega
     case rel => exact ⟨j + 1, rfl, by omega, by rw [HO.out], by rw [HR.out]; rfl, by go_num, rfl⟩
    ·go_wp2_with fail
     go_roundg (s.length - (j + 1))
     case measure => have := Hk.out; omega
     case rel => exact ⟨j + 1, rfl, by omega, by rw [HO.out], by rw [HR.out]; rfl, by go_num, rfl⟩
  ·obtain rfl : j = s.length := by omega
   have hlt2 : ¬ (s.length : Int) < s.length := by omega
   rw [List.take_length]
   have hfl := few_len s 0
   have HG : Hid (gramB s = ((parseS (fewS 0 s)).2 == 0 || (parseS (fewS 0 s)).2 == 4)) := Lib.hid rfl
   generalize fewS 0 s = out at *
   go_wp2_with fail
   refine (parseR_calls w out (by omega)).mono ?_
   rintro e w2 ⟨rfl, hb2⟩
   generalize parseS out = p at *
   obtain ⟨d, code⟩ := p
   obtain ⟨neg, dg, ex⟩ := d
   unfold DecV
   dsimp only at HG ⊢
   by_cases h0 : code = 0
   ·subst h0
    go_wp2_with fail
    go_ret
    rw [HG.out]
    exact ⟨rfl, hb2.trans ((Below.refl _ _).alloc (Nat.le_refl _) _ |>.mono hb2.size)⟩
   ·have h1 : (code == 0) = false := by rw [beq_eq_false_iff_ne]; exact h0
    by_cases h4 : code = 4
    ·subst h4
     go_wp2_with fail
     go_ret
     rw [HG.out]
     exact ⟨rfl, hb2.trans ((Below.refl _ _).alloc (Nat.le_refl _) _ |>.mono hb2.size)⟩
    ·have h2 : (code == 4) = false := by rw [beq_eq_false_iff_ne]; exact h4
     go_wp2_with fail
     go_ret
     rw [HG.out, h1, h2]
     exact ⟨rfl, hb2.trans ((Below.refl _ _).alloc (Nat.le_refl _) _ |>.mono hb2.size)⟩
end Go.Proofs.YtfclfaidmipjpaaGreatDoor
