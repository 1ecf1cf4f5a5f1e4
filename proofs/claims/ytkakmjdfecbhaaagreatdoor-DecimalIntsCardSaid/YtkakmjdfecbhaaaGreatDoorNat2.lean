/- Walks of nat.add, nat.sub, nat.cmp: what each returns as a number, over any world, at words below the base; lengths up to 10^12. -/
import Derived.Test.YtkakmjdfecbhaaaGreatDoorNat1
namespace Go.Proofs.YtkakmjdfecbhaaaGreatDoor
open Go.RowKit

set_option maxRecDepth 100000 in
theorem add_calls (w : World) (B1 B2 : Nat) (va vb : Value) (xs ys : List Nat) (ha : NatV w B1 va xs) (hb : NatV w B2 vb ys) (oka : Ok xs) (okb : Ok ys)
    (la : xs.length ≤ 100000000000) (lb : ys.length ≤ 100000000000) :
    Calls Tryz.prog 57 #[va, vb] w fun e w' => ∃ v' zs, e = .returned v' ∧ NatV w' w.heap.size v' zs ∧ Norm zs ∧ val zs = val xs + val ys ∧ zs.length ≤ max xs.length ys.length + 1 ∧ Below w.heap.size w w' := by
  obtain ⟨pa, capa, rfl⟩ := ha.form
  obtain ⟨pb, capb, rfl⟩ := hb.form
  go_enter Tryz.func57, Tryz.ntmps57
  go_wp2
  all_goals
    go_loopg [5, 6, 15] (max xs.length ys.length + 1) (fun k out carry i wr => ∃ (j c : Nat) (os : List Nat), k = max xs.length ys.length + 1 - j ∧ j ≤ max xs.length ys.length + 1 ∧ i = .int .i64 j ∧ carry = .int .u64 c ∧ c ≤ 1 ∧
      NatV wr w.heap.size out os ∧ os.length = j ∧ Ok os ∧ val os + c * base ^ j = val (xs.take j) + val (ys.take j) ∧ Below w.heap.size w wr)
    case atStart => exact ⟨0, 0, [], rfl, by omega, rfl, rfl, by omega, NatV.nil _ _, rfl, Ok_nil, by simp [val], Below.refl _ _⟩
    case round =>
      obtain ⟨j, c, os, hk, hj, rfl, rfl, hc, hos, hlos, oko, hval, hbel⟩ := hrel
      have Hk := Lib.hid hk
      have Hval := Lib.hid hval
      have Hlos := Lib.hid hlos
      have hlos' : os.length ≤ j := by omega
      have hn1 := Ok_nth oka j
      have hn2 := Ok_nth okb j
      rw [base_eq] at hn1 hn2
      clear hk hval hlos
      by_cases hlt : j < max xs.length ys.length + 1
      · go_wp2_with fail
        refine (at_calls wr B1 _ xs j (ha.below hbel)).mono ?_
        rintro e w1 ⟨rfl, rfl⟩
        go_wp2_with fail
        refine (at_calls wr B2 _ ys j (hb.below hbel)).mono ?_
        rintro e w1 ⟨rfl, rfl⟩
        go_wp2_with (at_builtin; go_must (refine wpList_append_word rfl _ _ rfl w.heap.size _ os rfl hos ((nth xs j + nth ys j + c) % base) rfl ?hy ?hlen ?hbase ?_))
        case hy => rw [base_eq]; omega
        case hlen => omega
        case hbase => exact hbel.size
        intro v' w1 hv' hg
        have hb1 := below_append hbel hbel.size hos hg
        go_wp2
        go_roundg (max xs.length ys.length + 1 - (j + 1))
        case measure => have := Hk.out; omega
        case rel =>
          refine ⟨j + 1, (nth xs j + nth ys j + c) / base, _, rfl, by omega, by go_num, ?_, ?_, hv', ?_, Ok_snoc oko (Nat.mod_lt _ base_pos), ?_, hb1⟩
          · rw [base_eq]; go_num
          · rw [base_eq]; omega
          · have := Hlos.out; simp; omega
          · rw [val_snoc, val_take, val_take, Hlos.out, Nat.pow_succ]
            exact add_word _ _ _ _ _ _ _ Hval.out
      · go_wp2_with fail
        refine (plain_calls wr w.heap.size _ os hos).mono ?_
        rintro e w1 ⟨⟨v', rfl, hv'⟩, rfl⟩
        go_wp2
        go_ret
        obtain rfl : j = max xs.length ys.length + 1 := by omega
        have hv := Hval.out
        rw [List.take_of_length_le (by omega), List.take_of_length_le (by omega)] at hv
        refine ⟨_, _, rfl, hv', Norm_plain oko, ?_, ?_, hbel⟩
        · rw [val_plain]; exact add_end xs ys os c _ oka okb rfl hv
        · have := len_plain os; omega
set_option maxRecDepth 100000 in
theorem cmp_calls (w : World) (B1 B2 : Nat) (va vb : Value) (xs ys : List Nat) (ha : NatV w B1 va xs) (hb : NatV w B2 vb ys) (na : Norm xs) (nb : Norm ys) :
    Calls Tryz.prog 58 #[va, vb] w fun e w' => ∃ r : Int, ∃ n, e = .returned (.int .i64 r) ∧ (r < 0 ↔ val xs < val ys) ∧ (r = 0 ↔ val xs = val ys) ∧ w' = w.drewN n := by
  have la := ha.len
  have lb := hb.len
  unfold maxLen at la lb
  by_cases hl : xs.length = ys.length
  · have hl2 : ((xs.length : Int) != ys.length) = false := by simp [hl]
    obtain ⟨pa, capa, rfl⟩ := ha.form
    obtain ⟨pb, capb, rfl⟩ := hb.form
    have Hl := Lib.hid hl
    clear hl
    go_enter Tryz.func58, Tryz.ntmps58
    go_wp2
    go_loopg [5] (xs.length + 1) (fun k i wr => ∃ (j n : Nat), k = j + 1 ∧ j ≤ xs.length ∧ i = .int .i64 ((j : Int) - 1) ∧ xs.drop j = ys.drop j ∧ wr = w.drewN n)
    case atStart => exact ⟨xs.length, 0, rfl, Nat.le_refl _, rfl, by rw [List.drop_of_length_le (Nat.le_refl _), List.drop_of_length_le (by have := Hl.out; omega)], rfl⟩
    case round =>
      obtain ⟨j, n, rfl, hj, rfl, hd, rfl⟩ := hrel
      have Hd := Lib.hid hd
      clear hd
      cases j with
      | zero =>
        go_wp2
        go_ret
        have := Hd.out
        simp only [List.drop_zero] at this
        subst this
        exact ⟨0, n, rfl, by simp, by simp, rfl⟩
      | succ j =>
        rcases ha.forms with ⟨_, h⟩ | ⟨g, cap, h⟩
        · rw [h] at hj; simp at hj
        rcases hb.forms with ⟨_, h'⟩ | ⟨g', cap', h'⟩
        · have := Hl.out; rw [h'] at this; simp only [List.length_nil] at this; omega
        cases h; cases h'
        have c1 := ha.cell j (by omega)
        have c2 := hb.cell j (by have := Hl.out; omega)
        have hly : j + 1 ≤ ys.length := by have := Hl.out; omega
        have hn1 := Ok_nth na.1 j
        have hn2 := Ok_nth nb.1 j
        rw [base_eq] at hn1 hn2
        have e : ((j + 1 : Nat) : Int) - 1 = (j : Int) := by omega
        rw [e]
        clear e
        have hjx : (j : Int) < xs.length := by omega
        have hjy : (j : Int) < ys.length := by omega
        by_cases hne : nth xs j = nth ys j
        · have hq : ((nth xs j : Int) != (nth ys j : Int)) = false := by simp [hne]
          have Hne := Lib.hid hne
          clear hne
          go_wp2
          go_quiet (fail)
          go_wp2
          go_roundg (j + 1)
          case measure => omega
          case rel => exact ⟨j, _, rfl, by omega, rfl, by rw [drop_nth xs j (by omega), drop_nth ys j (by omega), Hne.out, Hd.out], by first | rfl | (simp only [World.drewN_drewN]; rfl)⟩
        · have hq : ((nth xs j : Int) != (nth ys j : Int)) = true := by simp; omega
          go_wp2
          go_quiet (fail)
          go_wp2
          go_quiet (fail)
          go_wp2
          go_ret
          have hd := Hd.out
          refine ⟨_, _, rfl, ?_, ?_, by first | rfl | (simp only [World.drewN_drewN]; rfl)⟩
          · constructor
            · intro h; exact cmp_word na.1 (by omega) Hl.out hd (by omega)
            · intro h
              apply Int.not_le.1; intro h2
              have := cmp_word (j := j) nb.1 (by omega) Hl.out.symm hd.symm (by omega)
              omega
          · constructor
            · intro h; omega
            · intro h
              exfalso
              rcases Nat.lt_or_gt_of_ne hne with h2 | h2
              · have := cmp_word (j := j) na.1 (by omega) Hl.out hd h2; omega
              · have := cmp_word (j := j) nb.1 (by omega) Hl.out.symm hd.symm h2; omega
  · have hl2 : ((xs.length : Int) != ys.length) = true := by simp; omega
    obtain ⟨pa, capa, rfl⟩ := ha.form
    obtain ⟨pb, capb, rfl⟩ := hb.form
    go_enter Tryz.func58, Tryz.ntmps58
    go_wp2
    go_ret
    refine ⟨_, 0, rfl, ?_, ?_, rfl⟩
    · constructor
      · intro h; exact Norm_longer na.1 nb (by omega)
      · intro h; have := Norm_le_len nb.1 na (by omega); omega
    · constructor
      · intro h; omega
      · intro h; have := Norm_le_len nb.1 na (by omega); have := Norm_le_len na.1 nb (by omega); omega
set_option maxRecDepth 100000 in
theorem sub_calls (w : World) (B1 B2 : Nat) (va vb : Value) (xs ys : List Nat) (ha : NatV w B1 va xs) (hb : NatV w B2 vb ys) (oka : Ok xs) (nb : Norm ys)
    (la : xs.length ≤ 100000000000) (hle : val ys ≤ val xs) :
    Calls Tryz.prog 59 #[va, vb] w fun e w' => ∃ v' zs, e = .returned v' ∧ NatV w' w.heap.size v' zs ∧ Norm zs ∧ val zs = val xs - val ys ∧ zs.length ≤ xs.length ∧ Below w.heap.size w w' := by
  obtain ⟨pa, capa, rfl⟩ := ha.form
  have Hle := Lib.hid hle
  clear hle
  go_enter Tryz.func59, Tryz.ntmps59
  go_wp2
  go_loopg [5, 6, 11] xs.length (fun k out bor i wr => ∃ (j b : Nat) (os : List Nat), k = xs.length - j ∧ j ≤ xs.length ∧ i = .int .i64 j ∧ bor = .int .u64 b ∧ b ≤ 1 ∧
    NatV wr w.heap.size out os ∧ os.length = j ∧ Ok os ∧ val os + val (ys.take j) = val (xs.take j) + b * base ^ j ∧ Below w.heap.size w wr)
  case atStart => exact ⟨0, 0, [], rfl, by omega, rfl, rfl, by omega, NatV.nil _ _, rfl, Ok_nil, by simp [val], Below.refl _ _⟩
  case round =>
    obtain ⟨j, b, os, hk, hj, rfl, rfl, hbb, hos, hlos, oko, hval, hbel⟩ := hrel
    have Hk := Lib.hid hk
    have Hval := Lib.hid hval
    have Hlos := Lib.hid hlos
    have hlos' : os.length ≤ j := by omega
    have hn1 := Ok_nth oka j
    have hn2 := Ok_nth nb.1 j
    rw [base_eq] at hn1 hn2
    clear hk hval hlos
    by_cases hlt : j < xs.length
    · rcases ha.forms with ⟨_, h⟩ | ⟨g, cap, h⟩
      · rw [h] at hlt; simp at hlt
      cases h
      have c1 := (ha.below hbel).cell j hlt
      have hjx : (j : Int) < xs.length := by omega
      go_wp2_with fail
      go_quiet ((go_at_call 83; exact quiet_same (at_calls _ B2 _ ys j (hb.below (below_drewN hbel _)))))
      go_wp2_with (at_builtin; go_must (refine wpList_append_word rfl _ _ rfl w.heap.size _ os rfl hos ((nth xs j + base - nth ys j - b) % base) rfl ?hy ?hlen ?hbase ?_))
      case hy => rw [base_eq]; omega
      case hlen => omega
      case hbase => exact hbel.size
      intro v' w1 hv' hg
      have hb1 := below_append (below_drewN hbel _) hbel.size hos hg
      go_wp2
      go_roundg (xs.length - (j + 1))
      case measure => have := Hk.out; omega
      case rel =>
        refine ⟨j + 1, 1 - (nth xs j + base - nth ys j - b) / base, _, rfl, by omega, by go_num, ?_, Nat.sub_le _ _, hv', ?_, Ok_snoc oko (Nat.mod_lt _ base_pos), ?_, hb1⟩
        · rw [base_eq]; congr 1; omega
        · have := Hlos.out; simp; omega
        · rw [val_snoc, val_take, val_take, Hlos.out, Nat.pow_succ]
          exact sub_word _ _ _ _ _ _ _ (Ok_nth oka j) (Ok_nth nb.1 j) hbb Hval.out
    · go_wp2_with fail
      refine (plain_calls wr w.heap.size _ os hos).mono ?_
      rintro e w1 ⟨⟨v', rfl, hv'⟩, rfl⟩
      go_wp2
      go_ret
      obtain rfl : j = xs.length := by omega
      have hv := Hval.out
      have hle := Hle.out
      rw [List.take_of_length_le (Nat.le_refl _), List.take_of_length_le (Norm_le_len oka nb hle)] at hv
      refine ⟨_, _, rfl, hv', Norm_plain oko, ?_, ?_, hbel⟩
      · rw [val_plain]; exact sub_end xs ys os b _ oko Hlos.out hle hv
      · have := len_plain os; omega
end Go.Proofs.YtkakmjdfecbhaaaGreatDoor
