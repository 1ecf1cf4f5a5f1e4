/- The walk of nat.mul and nat.small: the product as a number, over any world, at words below the base; lengths up to 10^11. -/
import Derived.Test.YtkakmjdfecbhaaaGreatDoorNat2
namespace Go.Proofs.YtkakmjdfecbhaaaGreatDoor
open Go.RowKit

set_option maxRecDepth 100000 in
theorem mul_calls (w : World) (B1 B2 : Nat) (va vb : Value) (xs ys : List Nat) (ha : NatV w B1 va xs) (hb : NatV w B2 vb ys) (oka : Ok xs) (okb : Ok ys)
    (la : xs.length ≤ 100000000000) (lb : ys.length ≤ 100000000000) :
    Calls Tryz.prog 38 #[va, vb] w fun e w' => ∃ v' zs, e = .returned v' ∧ NatV w' w.heap.size v' zs ∧ Norm zs ∧ val zs = val xs * val ys ∧ zs.length ≤ xs.length + ys.length ∧ Below w.heap.size w w' := by
  obtain ⟨pa, capa, rfl⟩ := ha.form
  obtain ⟨pb, capb, rfl⟩ := hb.form
  go_enter Tryz.func38, Tryz.ntmps38
  go_wp2_with (at_make; go_must (refine wpList_make_words rfl _ _ rfl _ _ (xs.length + ys.length) rfl rfl (by omega) (by omega) (by omega) ?_))
  intro w0 hv0 hb0
  go_wp2_with fail
  go_loopg [20] xs.length (fun k i wr => ∃ (j : Nat) (os : List Nat), k = xs.length - j ∧ j ≤ xs.length ∧ i = .int .i64 j ∧
    NatV wr w.heap.size (.slice (some ⟨w.heap.size, 0, none⟩) os.length (xs.length + ys.length)) os ∧ os.length = xs.length + ys.length ∧ Ok os ∧ val os = val (xs.take j) * val ys ∧ Below w.heap.size w wr)
  case atStart => exact ⟨0, List.replicate (xs.length + ys.length) 0, rfl, by omega, rfl, by rw [List.length_replicate]; exact hv0, by simp, Ok_replicate _, by simp [val, val_replicate], hb0⟩
  case round =>
    obtain ⟨j, os, hk, hj, rfl, hos, hlos, oko, hval, hbel⟩ := hrel
    have Hk := Lib.hid hk
    have Hval := Lib.hid hval
    have Hlos := Lib.hid hlos
    have hlos' : xs.length + ys.length ≤ os.length := by omega
    clear hk hval hlos hv0 hb0
    by_cases hlt : j < xs.length
    · rcases ha.forms with ⟨_, h⟩ | ⟨g, cap, h⟩
      · rw [h] at hlt; simp at hlt
      cases h
      have c1 := (ha.below hbel).cell j hlt
      have hjx : (j : Int) < xs.length := by omega
      have hn1 := Ok_nth oka j
      have hn1' := hn1
      rw [base_eq] at hn1'
      obtain ⟨wo, rfl⟩ : ∃ wo : World, wo = wr := ⟨_, rfl⟩
      go_wp2_with fail
      clear c1
      go_loopg [8, 27] ys.length (fun k c i wr => ∃ (m cc : Nat) (ps : List Nat), k = ys.length - m ∧ m ≤ ys.length ∧ i = .int .i64 m ∧ c = .int .u64 cc ∧ cc < base ∧
        NatV wr w.heap.size (.slice (some ⟨w.heap.size, 0, none⟩) ps.length (xs.length + ys.length)) ps ∧ ps.length = xs.length + ys.length ∧ Ok ps ∧
        val ps + cc * base ^ (j + m) = val os + base ^ j * (nth xs j * val (ys.take m)) ∧ (∀ q, j + m ≤ q → nth ps q = nth os q) ∧ Below w.heap.size w wr)
      case atStart => exact ⟨0, 0, os, rfl, by omega, rfl, rfl, base_pos, hos, Hlos.out, oko, by simp [val], fun _ _ => rfl, hbel⟩
      case round =>
        obtain ⟨m, cc, ps, hk, hm, rfl, rfl, hcc, hps, hlps, okp, hval, hq, hbelr⟩ := hrel
        have Hk2 := Lib.hid hk
        have Hval2 := Lib.hid hval
        have Hlps := Lib.hid hlps
        have Hq := Lib.hid hq
        have hlps' : xs.length + ys.length ≤ ps.length := by omega
        clear hk hval hlps hq
        by_cases hlt2 : m < ys.length
        · rcases hb.forms with ⟨_, h⟩ | ⟨g', cap', h⟩
          · rw [h] at hlt2; simp at hlt2
          cases h
          have c2 := (hb.below hbelr).cell m hlt2
          have c3 := hps.cell (j + m) (by omega)
          have f3 := hps.frozen (j + m)
          have hn2 := Ok_nth okb m
          have hn3 := Ok_nth okp (j + m)
          obtain ⟨hp0, hbig⟩ := mul_small_int hn1 hn2 hn3 hcc
          have hn2' := hn2
          have hn3' := hn3
          have hcc' := hcc
          rw [base_eq] at hn2' hn3' hcc'
          go_wp2_with fail
          go_roundg (ys.length - (m + 1))
          case measure => have := Hk2.out; omega
          case rel =>
            have hz : (nth xs j * nth ys m + nth ps (j + m) + cc) % base < base := Nat.mod_lt _ base_pos
            have hd : (nth xs j * nth ys m + nth ps (j + m) + cc) / base < base := Nat.div_lt_of_lt_mul (mul_small hn1 hn2 hn3 hcc)
            refine ⟨m + 1, (nth xs j * nth ys m + nth ps (j + m) + cc) / base, ps.set (j + m) ((nth xs j * nth ys m + nth ps (j + m) + cc) % base), rfl, by omega, by go_num, by rw [word_div], hd, ?_, ?_, Ok_set okp _ _ hz, ?_, ?_, hbelr.setCell (Nat.le_refl _) _⟩
            · rw [List.length_set]; exact hps.set _ _ _ (word_mod _ _ _ _)
            · rw [List.length_set]; exact Hlps.out
            · have hs := val_set ps (j + m) ((nth xs j * nth ys m + nth ps (j + m) + cc) % base) (by omega)
              have := mul_word _ _ _ _ _ _ _ _ Hval2.out hs
              rw [← Nat.add_assoc j m 1, Nat.pow_succ, this, val_take, Nat.mul_add, Nat.pow_add]
              have e : base ^ j * base ^ m * (nth xs j * nth ys m) = base ^ j * (nth xs j * (base ^ m * nth ys m)) := by rw [Nat.mul_assoc, Nat.mul_left_comm (base ^ m)]
              rw [e, Nat.mul_add]; omega
            · intro q hqq
              rw [nth_set_other _ _ _ _ (by omega)]; exact Hq.out q (by omega)
        · have hz := hps.cell (j + ys.length) (by omega)
          have f3 := hps.frozen (j + ys.length)
          go_wp2_with fail
          go_roundg (xs.length - (j + 1))
          case measure => have := Hk.out; omega
          case rel =>
            obtain rfl : m = ys.length := by omega
            have hv := Hval2.out
            rw [List.take_of_length_le (Nat.le_refl _)] at hv
            have h0 : nth ps (j + ys.length) = 0 := by
              rw [Hq.out _ (Nat.le_refl _)]
              exact nth_zero_of_small _ _ (mul_end xs ys os j okb oka hj Hval.out) (Nat.le_refl _)
            have hs := val_set ps (j + ys.length) cc (by omega)
            rw [h0, Nat.mul_zero, Nat.add_zero] at hs
            refine ⟨j + 1, ps.set (j + ys.length) cc, rfl, by omega, by go_num, ?_, ?_, Ok_set okp _ _ hcc, ?_, hbelr.setCell (Nat.le_refl _) _⟩
            · rw [List.length_set]; exact hps.set _ _ _ rfl
            · rw [List.length_set]; exact Hlps.out
            · rw [hs, val_take, Nat.add_mul, ← Hval.out, Nat.mul_comm (base ^ (j + ys.length)), hv, Nat.mul_assoc]
    · go_wp2_with fail
      refine (plain_calls wr w.heap.size _ os (by have h := hos; rw [Hlos.out] at h; exact h)).mono ?_
      rintro e w1 ⟨⟨v', rfl, hv'⟩, rfl⟩
      go_wp2
      go_ret
      obtain rfl : j = xs.length := by omega
      have hv := Hval.out
      have hl := Hlos.out
      rw [List.take_of_length_le (Nat.le_refl _)] at hv
      exact ⟨_, _, rfl, hv', Norm_plain oko, by rw [val_plain]; exact hv, by have := len_plain os; omega, hbel⟩
end Go.Proofs.YtkakmjdfecbhaaaGreatDoor
