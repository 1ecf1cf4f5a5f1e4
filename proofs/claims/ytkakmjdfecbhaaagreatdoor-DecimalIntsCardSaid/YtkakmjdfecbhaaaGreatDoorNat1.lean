/- Walks of nat's small methods: what each returns, over any world; no conditions beyond the reading of the words. -/
import Derived.Test.YtkakmjdfecbhaaaGreatDoorBase
namespace Go.Proofs.YtkakmjdfecbhaaaGreatDoor
open Go.RowKit

theorem at_calls (w : World) (B : Nat) (v : Value) (xs : List Nat) (i : Nat) (h : NatV w B v xs) :
    Calls Tryz.prog 83 #[v, .int .i64 (i : Int)] w fun e w' => e = .returned (.int .u64 ((nth xs i : Nat) : Int)) ∧ w = w' := by
  have hl := h.len
  unfold maxLen at hl
  by_cases hi : i < xs.length
  · have hc : ∀ g cap, v = .slice (some ⟨g, 0, none⟩) xs.length cap → w.cell? ⟨g, i, none⟩ = some (.int .u64 ((nth xs i : Nat) : Int)) := fun g cap e => by subst e; exact h.cell i hi
    rcases h.forms with ⟨rfl, rfl⟩ | ⟨g, cap, rfl⟩
    · simp at hi
    · have hc := hc g cap rfl
      go_enter Tryz.func83, Tryz.ntmps83
      go_wp2
      go_ret
      exact ⟨rfl, rfl⟩
  · have hd : nth xs i = 0 := by simp [nth, List.getD, List.getElem?_eq_none (Nat.le_of_not_lt hi)]
    rw [hd]
    clear hd
    rcases h.forms with ⟨rfl, rfl⟩ | ⟨g, cap, rfl⟩
    · go_enter Tryz.func83, Tryz.ntmps83
      go_wp2
      go_ret
      exact ⟨rfl, rfl⟩
    · go_enter Tryz.func83, Tryz.ntmps83
      go_wp2
      go_ret
      exact ⟨rfl, rfl⟩

def lenOf : Value → Nat | .slice _ n _ => n | _ => 0
theorem NatV.pop {w : World} {B g cap : Nat} {ys : List Nat} {y : Nat} (h : NatV w B (.slice (some ⟨g, 0, none⟩) (ys.length + 1) cap) (ys ++ [y])) :
    NatV w B (.slice (some ⟨g, 0, none⟩) ys.length cap) ys := by
  have h' : w.ownsRow B 90 1 (.slice (some ⟨g, 0, none⟩) (ys.length + 1) cap) (ys.length + 1) (u64s ys ++ u64s [y]) := by
    have := h; unfold NatV at this; rw [u64s_app] at this; simpa using this
  exact ownsRow_pop (by simp [u64s]) h'

theorem plain_calls (w : World) (B : Nat) (v : Value) (xs : List Nat) (h : NatV w B v xs) :
    Calls Tryz.prog 64 #[v] w fun e w' => (∃ v', e = .returned v' ∧ NatV w B v' (plainL xs)) ∧ w = w' := by
  have hl := h.len
  unfold maxLen at hl
  go_enter Tryz.func64, Tryz.ntmps64
  go_wp2
  go_step3
  go_wp2
  go_step3
  go_wp2
  go_loopg [0] xs.length (fun k v wr => w = wr ∧ ∃ ys, NatV w B v ys ∧ ys.length = k ∧ k ≤ xs.length ∧ plainL ys = plainL xs)
  case atStart => exact ⟨rfl, xs, h, rfl, Nat.le_refl _, rfl⟩
  case round =>
    obtain ⟨rfl, ys, hv, rfl, hkx, hp⟩ := hrel
    have Hp := Lib.hid hp
    clear hp h
    rcases hv.forms with ⟨rfl, rfl⟩ | ⟨g, cap, rfl⟩
    · go_wp2
      rw [Exit.noGoto_ret]
      go_ret
      exact ⟨⟨_, rfl, by rw [← Hp.out]; exact NatV.nil _ _⟩, rfl⟩
    · rcases nil_or_snoc ys with rfl | ⟨zs, y, rfl⟩
      · go_wp2
        rw [Exit.noGoto_ret]
        go_ret
        exact ⟨⟨_, rfl, by rw [← Hp.out]; exact hv⟩, rfl⟩
      · have hc := hv.cell zs.length (by simp)
        rw [nth_last] at hc
        have hcap := hv.cap
        simp only [List.length_append, List.length_singleton] at hv hkx hcap ⊢
        have hv' := hv.pop
        obtain ⟨_, hcap1, hcap2, hg1, _⟩ := hcap
        unfold maxLen at hcap2
        by_cases hy : y = 0
        · subst hy
          go_wp2
          go_roundg zs.length
          case measure => simp
          case rel => exact ⟨rfl, zs, hv', rfl, by omega, by rw [← Hp.out, plainL_zero]⟩
        · have hy2 : ((y : Int) != 0) = true := by simp; exact hy
          go_wp2
          rw [Exit.noGoto_ret]
          go_ret
          exact ⟨⟨_, rfl, by rw [← Hp.out, plainL_pos _ _ hy]; simpa [NatV] using hv⟩, rfl⟩
end Go.Proofs.YtkakmjdfecbhaaaGreatDoor
