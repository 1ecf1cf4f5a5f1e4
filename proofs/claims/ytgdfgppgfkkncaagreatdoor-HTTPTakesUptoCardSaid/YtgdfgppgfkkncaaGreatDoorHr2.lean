/- The walks of the reference's trim, small and closes. -/
import Derived.Test.YtgdfgppgfkkncaaGreatDoorHr1
namespace Go.Proofs.YtgdfgppgfkkncaaGreatDoor
open Go.RowKit

theorem u8_eq (c d : UInt8) : ((c.toNat : Int) == (d.toNat : Int)) = decide (c = d) := by
  rw [Bool.eq_iff_iff, beq_iff_eq, decide_eq_true_eq, ← UInt8.toNat_inj]
  omega
theorem blB_cases (c : UInt8) : (((c.toNat : Int) == 32) = true ∧ blB c = true) ∨ (((c.toNat : Int) == 32) = false ∧ ((c.toNat : Int) == 9) = true ∧ blB c = true) ∨ (((c.toNat : Int) == 32) = false ∧ ((c.toNat : Int) == 9) = false ∧ blB c = false) := by
  have h1 := u8_eq c 32
  have h2 := u8_eq c 9
  rw [show ((32 : UInt8).toNat : Int) = 32 from rfl] at h1
  rw [show ((9 : UInt8).toNat : Int) = 9 from rfl] at h2
  rw [h1, h2]
  unfold blB
  by_cases e1 : c = 32
  · subst e1; exact .inl ⟨by simp, by simp⟩
  · by_cases e2 : c = 9
    · subst e2; exact .inr (.inl ⟨by simp, by simp, by simp⟩)
    · exact .inr (.inr ⟨by simp [e1], by simp [e2], by simp [e1, e2]⟩)
def NoBl (r : List UInt8) : Prop := ∀ x t, r = x :: t → blB x = false
set_option maxRecDepth 100000 in
set_option maxHeartbeats 1000000 in
theorem trimR_calls (w : World) (s : List UInt8) (hl : s.length ≤ 1000000000) : Calls Tryz.prog 85 #[.string ⟨s.toArray⟩] w fun e w' => e = .returned (.string ⟨(trimS s).toArray⟩) ∧ w = w' := by
  go_enter Tryz.func85, Tryz.ntmps85
  go_wp2_with fail
  go_loopg [0] s.length (fun k i wr => ∃ r : List UInt8, k = r.length ∧ i = .string ⟨r.toArray⟩ ∧ r.length ≤ s.length ∧ trimS r = trimS s ∧ w = wr)
  case atStart => exact ⟨s, rfl, rfl, Nat.le_refl _, rfl, rfl⟩
  case round =>
    obtain ⟨r, hk, rfl, hrl, hr, rfl⟩ := hrel
    have Hk := Lib.hid hk
    have Hr := Lib.hid hr
    clear hk hr
    cases r with
    | nil =>
      have HF : Hid (trimS s = []) := Lib.hid Hr.out.symm
      clear Hr
      go_wp2_with fail
      go_loopg [0] 0 (fun k i wr => k = 0 ∧ i = .string ⟨#[]⟩ ∧ w = wr)
      case atStart => exact ⟨rfl, rfl, rfl⟩
      case round =>
        obtain ⟨-, rfl, rfl⟩ := hrel
        go_wp2_with fail
        go_ret
        exact ⟨by rw [HF.out]; rfl, rfl⟩
    | cons c t =>
      have hi := byte_at (c :: t) 0 (by simp)
      rw [show (c :: t).getD 0 0 = c from rfl] at hi
      have hext : (⟨(c :: t).toArray⟩ : ByteArray).extract 1 (t.length + 1) = ⟨t.toArray⟩ := by rw [Lib.extract_eq]; simp
      have hc := c.toNat_lt
      rcases blB_cases c with ⟨h1, h2⟩ | ⟨h1, h3, h2⟩ | ⟨h1, h3, h2⟩
      · have HF : Hid (trimS t = trimS s) := Lib.hid ((trimS_left h2).symm.trans Hr.out)
        clear h2 Hr
        go_wp2_with fail
        go_roundg t.length
        case measure => have := Hk.out; simp at this; omega
        case rel => exact ⟨t, rfl, rfl, by simp at hrl; omega, HF.out, rfl⟩
      · have HF : Hid (trimS t = trimS s) := Lib.hid ((trimS_left h2).symm.trans Hr.out)
        clear h2 Hr
        go_wp2_with fail
        go_roundg t.length
        case measure => have := Hk.out; simp at this; omega
        case rel => exact ⟨t, rfl, rfl, by simp at hrl; omega, HF.out, rfl⟩
      · have HN : Hid (NoBl (c :: t)) := fun x r e => by cases e; exact h2
        clear h2
        go_wp2_with fail
        clear hi hext h1 h3 Hk
        generalize c :: t = q at *
        go_loopg [0] q.length (fun k i wr => ∃ r : List UInt8, k = r.length ∧ i = .string ⟨r.toArray⟩ ∧ r.length ≤ s.length ∧ NoBl r ∧ trimS r = trimS s ∧ w = wr)
        case atStart => exact ⟨q, rfl, rfl, hrl, HN.out, Hr.out, rfl⟩
        case round =>
          clear hrl Hr HN
          obtain ⟨r, hk, rfl, hrl, hn, hr, rfl⟩ := hrel
          have Hk := Lib.hid hk
          have Hr := Lib.hid hr
          have Hn := Lib.hid hn
          clear hk hr hn
          rcases List.eq_nil_or_concat r with h0 | ⟨t, c, h0⟩
          · subst h0
            have HF : Hid (trimS s = []) := Lib.hid Hr.out.symm
            clear Hr
            go_wp2_with fail
            go_ret
            exact ⟨by rw [HF.out]; rfl, rfl⟩
          · have hq : t ++ [c] = r := by rw [h0, List.concat_eq_append]
            clear h0
            generalize r = q at *
            have hlen : q.length = t.length + 1 := by rw [← hq]; simp
            have hgd : q.getD t.length 0 = c := by rw [← hq]; simp
            have hi := byte_at q t.length (by omega)
            rw [hgd] at hi
            have hext : (⟨q.toArray⟩ : ByteArray).extract 0 t.length = ⟨t.toArray⟩ := by rw [← hq, Lib.extract_eq]; simp
            have hne : (q == []) = false := by rw [beq_eq_false_iff_ne, ← hq]; simp
            have hc := c.toNat_lt
            have HX : Hid (blB c = true → trimS t = trimS s ∧ NoBl t) := fun h => by
              have hn := Hn.out
              have hr := Hr.out
              rw [← hq] at hn hr
              refine ⟨(trimS_right h hn).symm.trans hr, fun x r e => hn x (r ++ [c]) (by rw [e]; rfl)⟩
            have HY : Hid (blB c = false → trimS s = q) := fun h => by
              rw [← Hr.out]
              refine trimS_id Hn.out (fun r x e => ?_)
              rw [← hq] at e
              have := List.append_inj_right' e rfl
              simp only [List.cons.injEq, and_true] at this
              rw [← this]; exact h
            have HL := Lib.hid hrl
            have hb : t.length < 1000000000 := by omega
            clear hrl Hr Hn hq hgd
            rcases blB_cases c with ⟨h1, h2⟩ | ⟨h1, h3, h2⟩ | ⟨h1, h3, h2⟩
            · have HF := Lib.hid (HX.out h2)
              clear h2 HX HY
              go_wp2_with fail
              go_roundg t.length
              case measure => have := Hk.out; omega
              case rel => exact ⟨t, rfl, rfl, by have := HL.out; omega, HF.out.2, HF.out.1, rfl⟩
            · have HF := Lib.hid (HX.out h2)
              clear h2 HX HY
              go_wp2_with fail
              go_roundg t.length
              case measure => have := Hk.out; omega
              case rel => exact ⟨t, rfl, rfl, by have := HL.out; omega, HF.out.2, HF.out.1, rfl⟩
            · have HF := Lib.hid (HY.out h2)
              clear h2 HX HY
              go_wp2_with fail
              go_ret
              exact ⟨by rw [HF.out]; rfl, rfl⟩
end Go.Proofs.YtgdfgppgfkkncaaGreatDoor
