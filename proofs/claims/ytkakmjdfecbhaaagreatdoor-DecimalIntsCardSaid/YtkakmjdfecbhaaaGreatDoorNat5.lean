/- The walks of slices.Repeat at one nought, nat.shift and common: over any world, at numbers without noughts ahead; lengths and powers up to 10^9. -/
import Derived.Test.YtkakmjdfecbhaaaGreatDoorNat4
import Derived.Test.YtkakmjdfecbhaaaGreatDoorShelf
namespace Go.Proofs.YtkakmjdfecbhaaaGreatDoor
open Go.RowKit

theorem setRow_same (w : World) (g : Nat) (cur : Array Value) (t : TypeId) (hg : w.heap[g]? = some (.cells cur t (0, 0))) : w.setRow g cur = w := by
  obtain ⟨hlt, hge⟩ := Array.getElem?_eq_some_iff.1 hg
  have : (w.setRow g cur).heap = w.heap := by
    unfold World.setRow
    apply Array.ext
    · simp
    · intro i h1 h2
      simp only [Array.getElem_modify]
      split
      · rename_i h; subst h; rw [hge]
      · rfl
  cases w
  simp only [World.setRow] at this ⊢
  rw [this]

theorem run_copy_zeros (w : World) (ty : TypeId) (g o n c N : Nat) (a : Addr) (m c2 k : Nat) (hg : w.heap[g]? = some (.cells (List.replicate N (Value.int .u64 0)).toArray 90 (0, 0)))
    (hk : k = min m n) (hsrc : ∀ j, j < k → w.cell? (a.add j) = some (.int .u64 0)) (hfit : o + k ≤ N) :
    (Builtin.copy_ #[53, 53] ty #[.slice (some ⟨g, o, none⟩) n c, .slice (some a) m c2]).run Tryz.prog w = .ok (.int .i64 (k : Int)) w := by
  have hu : Tryz.prog.underlying 53 = some (.slice 90) := Tryz.underlying53
  have hs : (Tryz.prog.info? 90).map (·.size) = some 1 := by kernel_rfl
  have h := run_copy_row (P := Tryz.prog) w 53 53 ty 90 g o n c a m c2 _ 90 (List.replicate k (Value.int .u64 0)) hu hs hg (by rw [List.length_replicate]; exact hk)
    (fun j v hv => by
      have hj : j < k := by have := (List.getElem?_eq_some_iff.1 hv).1; simpa using this
      rw [List.getElem?_replicate, if_pos hj] at hv; cases hv; exact hsrc j hj)
    (by simpa using hfit) (fun v hv => by rw [List.mem_replicate] at hv; rw [hv.2]; rfl)
  rw [h]
  have e : ((List.replicate N (Value.int .u64 0)).toArray.toList.take o ++ List.replicate k (Value.int .u64 0) ++ (List.replicate N (Value.int .u64 0)).toArray.toList.drop (o + (List.replicate k (Value.int .u64 0)).length)).toArray = (List.replicate N (Value.int .u64 0)).toArray := by
    simp only [List.take_replicate, List.drop_replicate, List.length_replicate, List.replicate_append_replicate]
    exact congrArg (fun q => (List.replicate q (Value.int IntKind.u64 0)).toArray) (by omega)
  rw [e, setRow_same w g _ _ hg, List.length_replicate]
  rfl

theorem NatV.row {w : World} {B g n : Nat} {xs : List Nat} (h : NatV w B (.slice (some ⟨g, 0, none⟩) n n) xs) : w.heap[g]? = some (.cells (u64s xs).toArray 90 (0, 0)) := by
  obtain ⟨rfl, _⟩ := h.cap
  rcases h.2 with ⟨h1, _⟩ | ⟨g', cap', cur, hv, hg, hh, h1, h2, h3, h4⟩
  · cases h1
  · cases hv
    rw [hh]
    have : cur.toList = u64s xs := by rw [← h4, List.take_of_length_le (by simp; omega)]
    rw [← this]

theorem u64s_replicate (n : Nat) : u64s (List.replicate n 0) = List.replicate n (Value.int .u64 0) := by simp [u64s]

set_option maxRecDepth 100000 in
theorem repeat_calls (w : World) (B1 : Nat) (va : Value) (c : Nat) (ha : NatV w B1 va [0]) (hc : c ≤ 1000000000) :
    Calls Tryz.prog 92 #[va, .int .i64 (c : Int)] w fun e w' => ∃ v', e = .returned v' ∧ NatV w' w.heap.size v' (List.replicate c 0) ∧ Below w.heap.size w w' := by
  rcases ha.forms with ⟨_, h⟩ | ⟨g, cap, rfl⟩
  · cases h
  have c0 := ha.cell 0 (by simp)
  go_enter Tryz.func92, Tryz.ntmps92
  go_wp2_with fail
  refine (same (Tryz.bits_Mul 1 c (by omega) (by omega) _)).mono ?_
  rintro e w1 ⟨rfl, rfl⟩
  have e1 : 1 * c / 18446744073709551616 = 0 := by omega
  have e2 : 1 * c % 18446744073709551616 = c := by omega
  rw [e1, e2]
  clear e1 e2
  go_wp2_with (at_make; go_must (refine wpList_make_words rfl _ _ rfl _ _ c rfl rfl rfl rfl (by omega) ?_))
  intro w1 hv1 hb1
  have hrow := hv1.row
  rw [u64s_replicate] at hrow
  have c1 := (hb1.cell (p := ⟨g, 0, none⟩) (ha.cap).2.2.2.1).trans c0
  have hcopy1 := run_copy_zeros w1 3 w.heap.size 0 c c c ⟨g, 0, none⟩ 1 cap (min 1 c) hrow rfl (fun j hj => by
    have : j = 0 := by omega
    subst this; simpa [Addr.add, nth] using c1) (by omega)
  have hz : ∀ j, j < c → w1.cell? ⟨w.heap.size, j, none⟩ = some (.int .u64 0) := fun j hj => by
    rw [hv1.cell j (by simpa using hj)]; simp [nth, hj]
  have Hrow := Lib.hid hrow
  have Hz := Lib.hid hz
  clear hrow hz c1 c0
  go_wp2_with fail
  clear hcopy1
  go_loopg [8] (c - min 1 c) (fun k i wr => ∃ j q : Nat, k = c - j ∧ (1 ≤ j ∨ c = 0) ∧ j ≤ c ∧ i = .int .i64 j ∧ wr = w1.drewN q)
  case atStart => exact ⟨min 1 c, 0, rfl, by omega, by omega, rfl, rfl⟩
  case round =>
    obtain ⟨j, q, hk, h1, hj, rfl, rfl⟩ := hrel
    have Hk := Lib.hid hk
    clear hk
    by_cases hlt : j < c
    · have hcopy : ∀ nq, (Builtin.copy_ #[53, 53] 3 #[.slice (some ⟨w.heap.size, j, none⟩) (c - j) (c - j), .slice (some ⟨w.heap.size, 0, none⟩) j c]).run Tryz.prog (w1.drewN nq) = .ok (.int .i64 (min j (c - j) : Nat)) (w1.drewN nq) :=
        fun nq => run_copy_zeros (w1.drewN nq) 3 w.heap.size j (c - j) (c - j) c ⟨w.heap.size, 0, none⟩ j c (min j (c - j)) Hrow.out rfl (fun i hi => by
          have := Hz.out i (by omega)
          cases i with
          | zero => simpa [Addr.add] using this
          | succ i => simpa [Addr.add] using this) (by omega)
      have hjc : (j : Int) < c := by omega
      go_wp2_with fail
      go_quiet (fail)
      go_wp2_with fail
      go_roundg (c - (j + min j (c - j)))
      case measure => have := Hk.out; omega
      case rel => exact ⟨j + min j (c - j), _, rfl, by omega, by omega, by go_num, by first | rfl | (simp only [World.drewN_drewN]; rfl)⟩
    · go_wp2_with fail
      go_ret
      exact ⟨_, rfl, hv1, below_drewN hb1 _⟩

theorem pow10_split (n : Nat) : base ^ (n / 9) * 10 ^ (n % 9) = 10 ^ n := by
  have : base = 10 ^ 9 := by rw [base_eq]
  rw [this, ← Nat.pow_mul, ← Nat.pow_add, Nat.div_add_mod]
theorem val_shift (k : Nat) (zs : List Nat) : val (List.replicate k 0 ++ zs) = base ^ k * val zs := by
  induction k with
  | zero => simp
  | succ k ih => rw [List.replicate_succ, List.cons_append, val, ih, Nat.pow_succ, Nat.zero_add, Nat.mul_comm (base ^ k) base, Nat.mul_assoc]
theorem Norm_shift (k : Nat) {zs : List Nat} (h : Norm zs) (hne : zs ≠ []) : Norm (List.replicate k 0 ++ zs) := by
  rcases nil_or_snoc zs with rfl | ⟨ys, y, rfl⟩
  · exact absurd rfl hne
  · refine ⟨fun x hx => ?_, ?_⟩
    · rcases List.mem_append.1 hx with h1 | h1
      · rw [List.mem_replicate] at h1; rw [h1.2]; exact base_pos
      · exact h.1 x h1
    · rw [← List.append_assoc, plainL_pos _ _ (Norm_last h)]

set_option maxRecDepth 100000 in
theorem shift_calls (w : World) (B1 : Nat) (va : Value) (xs : List Nat) (n : Nat) (ha : NatV w B1 va xs) (na : Norm xs) (la : xs.length ≤ 1000000000) (hn : n ≤ 1000000000) :
    Calls Tryz.prog 69 #[va, .int .i64 (n : Int)] w fun e w' => ∃ v' zs, e = .returned v' ∧ NatV w' 0 v' zs ∧ Norm zs ∧ val zs = val xs * 10 ^ n ∧ zs.length ≤ xs.length + n + 1 ∧ Below w.heap.size w w' := by
  obtain ⟨pa, capa, rfl⟩ := ha.form
  have hlow : ∀ j, j ≤ n % 9 → 10 ^ j ≤ 100000000 := fun j hj => by
    have : 10 ^ j ≤ 10 ^ 8 := Nat.pow_le_pow_right (by omega) (by omega)
    exact this
  by_cases hx : xs.length = 0
  · have hx2 : ((xs.length : Int) == 0) = true := by simp [hx]
    have Hx := Lib.hid hx
    clear hx
    go_enter Tryz.func69, Tryz.ntmps69
    go_wp2
    go_ret
    have : xs = [] := List.length_eq_zero_iff.1 Hx.out
    subst this
    exact ⟨_, [], rfl, ha.le (Nat.zero_le _), na, by simp [val], by simp, Below.refl _ _⟩
  · have hx2 : ((xs.length : Int) == 0) = false := by simp; intro h; exact hx (by rw [h]; rfl)
    by_cases hn0 : n = 0
    · subst hn0
      go_enter Tryz.func69, Tryz.ntmps69
      go_wp2
      go_ret
      exact ⟨_, xs, rfl, ha.le (Nat.zero_le _), na, by simp, by omega, Below.refl _ _⟩
    · have hn1 : ¬ (n : Int) ≤ 0 := by omega
      have Hlow := Lib.hid hlow
      clear hlow
      go_enter Tryz.func69, Tryz.ntmps69
      go_wp2
      go_loopg [5, 16] (n % 9) (fun k low i wr => ∃ j : Nat, k = n % 9 - j ∧ j ≤ n % 9 ∧ i = .int .i64 j ∧ low = .int .u64 (10 ^ j : Nat) ∧ w = wr)
      case atStart => exact ⟨0, rfl, by omega, rfl, rfl, rfl⟩
      case round =>
        obtain ⟨j, hk, hj, rfl, rfl, rfl⟩ := hrel
        have Hk := Lib.hid hk
        clear hk
        have hp := Hlow.out j hj
        by_cases hlt : j < n % 9
        · have hlt' : (j : Int) < (n : Int) % 9 := by omega
          obtain ⟨p, hp1⟩ : ∃ p, p = 10 ^ j := ⟨_, rfl⟩
          have Hp := Lib.hid hp1
          rw [← hp1] at hp
          rw [← hp1]
          clear hp1
          go_wp2
          go_roundg (n % 9 - (j + 1))
          case measure => have := Hk.out; omega
          case rel => exact ⟨j + 1, rfl, by omega, by go_num, by rw [Nat.pow_succ, ← Hp.out]; go_num, rfl⟩
        · have hlt' : ¬ (j : Int) < (n : Int) % 9 := by omega
          obtain ⟨p, hp1⟩ : ∃ p, p = 10 ^ j := ⟨_, rfl⟩
          have Hp := Lib.hid hp1
          rw [← hp1] at hp
          rw [← hp1]
          clear hp1
          go_wp2_with fail
          rw [show ((n : Int) / 9) = ((n / 9 : Nat) : Int) from by omega]
          refine (repeat_calls _ w.heap.size _ (n / 9) (NatV.one w _ 0 rfl) (by omega)).mono ?_
          rintro e w1 ⟨v1, rfl, hv1, hb1⟩
          have hb : Below w.heap.size w w1 := ((Below.refl _ _).alloc (Nat.le_refl _) _).trans (hb1.mono (by simp))
          have hs1 := hb1.size
          simp only [World.size_alloc] at hs1
          go_wp2_with fail
          refine (small_calls _ B1 _ xs p _ rfl (ha.below hb) na.1 (by rw [base_eq]; omega) (by omega)).mono ?_
          rintro e w2 ⟨v2, zs, rfl, hv2, nz, hvz, hlz, hb2⟩
          have hs2 := hb2.size
          have Hvz := Lib.hid hvz
          clear hvz
          go_wp2_with (at_builtin; go_must (refine wpList_append_words rfl _ _ rfl (w.heap.size + 1) w1.heap.size _ _ (List.replicate (n / 9) 0) zs rfl ((hv1.below hb2).le ?hb) rfl hv2 ?hlen ?hbase ?_))
          case hb => simp
          case hlen => simp; omega
          case hbase => omega
          intro v3 w3 hv3 hg3
          have hb3 : Below w.heap.size w w3 := (hb.trans (hb2.mono (by omega))).grown hg3 (by omega) (fun k hk => by have := (World.ownsRow.lt hv1 k hk).1; simp at this; omega)
          go_wp2
          go_ret
          have hz : zs ≠ [] := by
            intro h
            have h1 := Hvz.out
            rw [h, Hp.out] at h1
            have h2 : val xs ≠ 0 := fun h => by have := (Norm_zero na).1 h; rw [this] at hx; exact hx rfl
            have h3 : 0 < 10 ^ j := Nat.pow_pos (by omega)
            have h4 : 0 < val xs * 10 ^ j := Nat.mul_pos (by omega) h3
            simp only [val] at h1
            omega
          refine ⟨_, _, rfl, hv3.le (Nat.zero_le _), Norm_shift _ nz hz, ?_, ?_, hb3⟩
          · obtain rfl : j = n % 9 := by omega
            rw [val_shift, Hvz.out, Hp.out, Nat.mul_left_comm, pow10_split]
          · rw [List.length_append, List.length_replicate]; omega

set_option maxRecDepth 100000 in
theorem common_calls (w : World) (B1 B2 L : Nat) (va vb : Value) (xs ys : List Nat) (ha : NatV w B1 va xs) (hb : NatV w B2 vb ys) (na : Norm xs) (nb : Norm ys)
    (la : xs.length ≤ L) (lb : ys.length ≤ L) (hL : L ≤ 10000000000) :
    Calls Tryz.prog 45 #[va, vb] w fun e w' => ∃ v' zs, e = .returned v' ∧ NatV w' 0 v' zs ∧ Norm zs ∧ val zs = Nat.gcd (val xs) (val ys) ∧ zs.length ≤ L ∧ Below w.heap.size w w' := by
  go_enter Tryz.func45, Tryz.ntmps45
  go_wp2
  go_loopg [0, 1] (val ys) (fun k a b wr => ∃ xs' ys', k = val ys' ∧ NatV wr 0 a xs' ∧ NatV wr 0 b ys' ∧ Norm xs' ∧ Norm ys' ∧ xs'.length ≤ L ∧ ys'.length ≤ L ∧ Nat.gcd (val xs') (val ys') = Nat.gcd (val xs) (val ys) ∧ Below w.heap.size w wr)
  case atStart => exact ⟨xs, ys, rfl, ha.le (Nat.zero_le _), hb.le (Nat.zero_le _), na, nb, la, lb, rfl, Below.refl _ _⟩
  case round =>
    obtain ⟨xs', ys', rfl, ha', hb', na', nb', la', lb', hg, hbel⟩ := hrel
    have Hg := Lib.hid hg
    clear hg ha hb
    by_cases h0 : ys' = []
    · have h0' : ¬ (0 : Int) < ys'.length := by rw [h0]; simp
      obtain ⟨pb, capb, rfl⟩ := hb'.form
      have H0 := Lib.hid h0
      clear h0
      go_wp2
      go_ret
      have h1 := H0.out
      subst h1
      refine ⟨_, rfl, xs', ha', na', ?_, la', hbel⟩
      have := Hg.out
      simpa [val] using this
    · have hl : 0 < ys'.length := List.length_pos_iff.2 h0
      have h0' : (0 : Int) < ys'.length := by omega
      have hpos : 0 < val ys' := Nat.pos_of_ne_zero (fun h => h0 ((Norm_zero nb').1 h))
      obtain ⟨pb, capb, rfl⟩ := hb'.form
      clear h0
      go_wp2_with fail
      refine (div_calls wr _ _ _ _ xs' ys' ha' hb' na'.1 nb' hpos (by omega) (by omega)).mono ?_
      rintro e w2 ⟨v1, v2, qs, rs, rfl, hv1, hv2, nq, nr, hq, hr, lq, lr, hb2⟩
      have Hr := Lib.hid hr
      clear hr hq
      go_wp2_with fail
      go_roundg (val rs)
      case measure => rw [Hr.out]; exact Nat.mod_lt _ hpos
      case rel =>
        refine ⟨ys', rs, rfl, hb'.below hb2, hv2.le (Nat.zero_le _), nb', nr, lb', by omega, ?_, hbel.trans (hb2.mono hbel.size)⟩
        rw [Hr.out, ← Hg.out, Nat.gcd_comm, ← Nat.gcd_rec, Nat.gcd_comm]
end Go.Proofs.YtkakmjdfecbhaaaGreatDoor
