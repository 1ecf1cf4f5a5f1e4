/- The walks of the reference's digit, Add, Sub: over any world. -/
import Derived.Test.YtkakmjdfecbhaaaGreatDoorRef2
import Derived.Test.YtkakmjdfecbhaaaGreatDoorNumL
namespace Go.Proofs.YtkakmjdfecbhaaaGreatDoor
open Go.RowKit

theorem dgtR_calls (w : World) (l : List UInt8) (k : Nat) (hd : Dig l) (hl : l.length ≤ 1000000000000) (hk : k ≤ 1000000000000) :
    Calls Tryz.prog 62 #[.string ⟨l.toArray⟩, .int .i64 (k : Int)] w fun e w' => e = .returned (.int .i64 ((dgt (dval l) k : Nat) : Int)) ∧ w = w' := by
  have hv := dgt_val l hd k
  have Hv := Lib.hid hv
  clear hv
  by_cases h : k < l.length
  · have h' : ¬ (l.length : Int) ≤ (k : Int) := by omega
    obtain ⟨q, hq⟩ : ∃ q, q = l.length - 1 - k := ⟨_, rfl⟩
    have hqi : ((l.length : Int) - 1 - k) = (q : Int) := by omega
    have hql : q < l.length := by omega
    have hij := may_at l q hql
    have hdj := Dig_getD hd q hql
    have hv2 : Hid ((l.getD q 0).toNat - 48 = dgt (dval l) k) := by show _ = _; rw [hq, ← Hv.out, if_pos h]
    generalize l.getD q 0 = c at *
    have Hqi := Lib.hid hqi
    clear Hv hq hqi
    go_enter Tryz.func62, Tryz.ntmps62
    go_upto_region 3 with fail
    have hqi := Hqi.out
    go_wp2_with fail
    go_ret
    refine ⟨?_, rfl⟩
    rw [← hv2.out]
    go_num
  · have h' : (l.length : Int) ≤ (k : Int) := by omega
    have hv2 : Hid (dgt (dval l) k = 0) := by show _ = _; rw [← Hv.out, if_neg h]
    clear Hv
    go_enter Tryz.func62, Tryz.ntmps62
    go_wp2_with fail
    go_ret
    rw [hv2.out]
    exact ⟨rfl, rfl⟩

set_option maxHeartbeats 1000000 in
set_option maxRecDepth 100000 in
theorem addR_calls (w : World) (a b : List UInt8) (ha : Dig a) (hb : Dig b) (la : a.length ≤ 100000000) (lb : b.length ≤ 100000000) :
    Calls Tryz.prog 32 #[.string ⟨a.toArray⟩, .string ⟨b.toArray⟩] w fun e w' => e = .returned (.string ⟨(digS (dval a + dval b)).toArray⟩) ∧ Below w.heap.size w w' := by
  obtain ⟨n, hn⟩ : ∃ n : Nat, n = max a.length b.length + 1 := ⟨_, rfl⟩
  have hmx : max (a.length : Int) (b.length : Int) + 1 = (n : Int) := by omega
  have hn9 : n ≤ 100000001 := by omega
  have Hn := Lib.hid hn
  have Hmx := Lib.hid hmx
  clear hn hmx
  go_enter Tryz.func32, Tryz.ntmps32
  go_upto_region 2 with fail
  rw [Hmx.out]
  clear Hmx
  go_wp2_with (at_make; go_must (refine wpList_make_bytes rfl _ _ rfl _ _ n rfl rfl (by omega) (by omega) (by omega) ?_))
  intro w0 hv0 hb0
  go_wp2_with fail
  go_loopg [7, 8] n (fun k c i wr => ∃ (j cy : Nat) (os : List UInt8), k = n - j ∧ j ≤ n ∧ i = .int .i64 j ∧ c = .int .i64 (cy : Int) ∧ cy ≤ 1 ∧ BytV wr w.heap.size (.slice (some ⟨w.heap.size, 0, none⟩) n n) os ∧ os.length = n ∧
    Dig (os.drop (n - j)) ∧ dval (os.drop (n - j)) + cy * 10 ^ j = dval a % 10 ^ j + dval b % 10 ^ j ∧ Below w.heap.size w wr)
  case atStart => exact ⟨0, 0, List.replicate n 0, rfl, by omega, rfl, rfl, by omega, hv0, by simp, by rw [Nat.sub_zero, List.drop_of_length_le (by simp)]; exact Dig_nil, by rw [Nat.sub_zero, List.drop_of_length_le (by simp)]; simp [dval_nil, Nat.mod_one], hb0⟩
  case round =>
    obtain ⟨j, cy, os, hk, hj, rfl, rfl, hcy, hos, hlos, hdo, hval, hbel⟩ := hrel
    have Hk := Lib.hid hk
    have Hval := Lib.hid hval
    have Hlos := Lib.hid hlos
    clear hk hval hlos hv0 hb0
    by_cases hlt : j < n
    · have hlt' : (j : Int) < n := by omega
      go_wp2_with fail
      refine (dgtR_calls wr a j ha (by omega) (by omega)).mono ?_
      rintro e w1 ⟨rfl, rfl⟩
      go_wp2_with fail
      refine (dgtR_calls wr b j hb (by omega) (by omega)).mono ?_
      rintro e w1 ⟨rfl, rfl⟩
      have h1 := dgt_lt (dval a) j
      have h2 := dgt_lt (dval b) j
      have hadd := add_dig _ _ _ cy j (dgt (dval a) j + dgt (dval b) j + cy) _ _ rfl rfl Hval.out rfl
      have Hadd := Lib.hid hadd
      clear hadd
      generalize dgt (dval a) j = da at *
      generalize dgt (dval b) j = db at *
      obtain ⟨x, hx⟩ : ∃ x, x = da + db + cy := ⟨_, rfl⟩
      have hxi : ((da : Int) + db + cy) = (x : Int) := by omega
      have hx19 : x ≤ 19 := by omega
      rw [← hx] at Hadd
      have Hxi := Lib.hid hxi
      clear hx hxi
      go_upto_region 8 with fail
      rw [Hxi.out]
      clear Hxi
      obtain ⟨q, hq⟩ : ∃ q, q = n - 1 - j := ⟨_, rfl⟩
      have hqi : (n : Int) - 1 - j = (q : Int) := by omega
      have hq1 : q < os.length := by have := Hlos.out; omega
      have hq2 : q < n := by omega
      have c2 := hos.cell q hq1
      have f2 := hos.frozen q
      have Hq := Lib.hid hq
      clear hq
      go_wp2_with fail
      go_roundg (n - (j + 1))
      case measure => have := Hk.out; omega
      case rel =>
        have h10 : x % 10 < 10 := Nat.mod_lt _ (by omega)
        have e : n - (j + 1) = q := by have := Hq.out; omega
        have e2 : q + 1 = n - j := by have := Hq.out; omega
        have hdr : (os.set q (UInt8.ofNat (48 + x % 10))).drop q = UInt8.ofNat (48 + x % 10) :: os.drop (n - j) := by rw [drop_set8 _ _ _ hq1, e2]
        have hdl : (os.drop (n - j)).length = j := by rw [List.length_drop, Hlos.out]; omega
        refine ⟨j + 1, x / 10, os.set q (UInt8.ofNat (48 + x % 10)), rfl, by omega, by go_num, by go_num, by omega, hos.set _ _ _ ?_, by rw [List.length_set]; exact Hlos.out, ?_, ?_, hbel.setCell (Nat.le_refl _) _⟩
        · rw [ofNat_digit _ h10]; omega
        · rw [e, hdr]
          intro c hc
          rcases List.mem_cons.1 hc with rfl | hc
          · rw [ofNat_digit _ h10]; omega
          · exact hdo c hc
        · rw [e, hdr, dval_head _ _ j hdl, ofNat_digit _ h10, Nat.add_sub_cancel_left]
          exact Hadd.out
    · obtain rfl : j = n := by omega
      have hconv := hos.string
      rw [Nat.sub_self, List.drop_zero] at hdo
      have hv1 := Hval.out
      rw [Nat.sub_self, List.drop_zero] at hv1
      have hfin : trim0 os = digS (dval a + dval b) := by
        apply trim0_digS os hdo
        have g1 := mod_all a ha j (by have := Hn.out; omega)
        have g2 := mod_all b hb j (by have := Hn.out; omega)
        rw [g1, g2] at hv1
        have g3 := dval_lt ha
        have g4 := dval_lt hb
        have g5 : 10 ^ a.length ≤ 10 ^ (j - 1) := Nat.pow_le_pow_right (by omega) (by have := Hn.out; omega)
        have g6 : 10 ^ b.length ≤ 10 ^ (j - 1) := Nat.pow_le_pow_right (by omega) (by have := Hn.out; omega)
        have g7 : 10 ^ j = 10 ^ (j - 1) * 10 := by rw [← Nat.pow_succ]; congr 1; have := Hn.out; omega
        cases cy with
        | zero => omega
        | succ cy =>
          have : 1 * 10 ^ j ≤ (cy + 1) * 10 ^ j := Nat.mul_le_mul_right _ (by omega)
          omega
      have Hfin := Lib.hid hfin
      have hol : os.length ≤ 1000000000 := by have := Hlos.out; omega
      clear hfin hv1 Hval Hlos hdo
      go_wp2_with fail
      refine (plainR_calls _ os (by omega)).mono ?_
      rintro e w1 ⟨rfl, rfl⟩
      rw [Hfin.out]
      go_wp2_with fail
      go_ret
      exact ⟨rfl, hbel⟩

set_option maxHeartbeats 1000000 in
set_option maxRecDepth 100000 in
theorem subR_calls (w : World) (a b : List UInt8) (ha : Dig a) (hb : Dig b) (la : a.length ≤ 100000000) (lb : b.length ≤ 100000000) (hle : dval b ≤ dval a) :
    Calls Tryz.prog 36 #[.string ⟨a.toArray⟩, .string ⟨b.toArray⟩] w fun e w' => e = .returned (.string ⟨(digS (dval a - dval b)).toArray⟩) ∧ Below w.heap.size w w' := by
  obtain ⟨n, hn⟩ : ∃ n : Nat, n = a.length := ⟨_, rfl⟩
  have Hn := Lib.hid hn
  have hle' : Hid (dval b ≤ dval a) := hle
  have hsz : (⟨a.toArray⟩ : ByteArray).size = n := by rw [hn]; simp [ByteArray.size]
  have Hsz : Hid ((a.length : Int) = (n : Int)) := by show _ = _; omega
  have hn9 : n ≤ 100000000 := by omega
  clear hn hle hsz
  go_enter Tryz.func36, Tryz.ntmps36
  go_wp2_with (at_make; go_must (refine wpList_make_bytes rfl _ _ rfl _ _ a.length rfl rfl (by omega) (by omega) (by omega) ?_))
  intro w0 hv0 hb0
  have hl0 : a.length = n := by have := Hsz.out; omega
  rw [hl0] at hv0
  go_wp2_with fail
  go_loopg [6, 7] n (fun k c i wr => ∃ (j bo : Nat) (os : List UInt8), k = n - j ∧ j ≤ n ∧ i = .int .i64 j ∧ c = .int .i64 (bo : Int) ∧ bo ≤ 1 ∧ BytV wr w.heap.size (.slice (some ⟨w.heap.size, 0, none⟩) n n) os ∧ os.length = n ∧
    Dig (os.drop (n - j)) ∧ dval (os.drop (n - j)) + dval b % 10 ^ j = dval a % 10 ^ j + bo * 10 ^ j ∧ Below w.heap.size w wr)
  case atStart => exact ⟨0, 0, List.replicate n 0, rfl, by omega, rfl, rfl, by omega, hv0, by simp, by rw [Nat.sub_zero, List.drop_of_length_le (by simp)]; exact Dig_nil, by rw [Nat.sub_zero, List.drop_of_length_le (by simp)]; simp [dval_nil, Nat.mod_one], hb0⟩
  case round =>
    obtain ⟨j, bo, os, hk, hj, rfl, rfl, hbo, hos, hlos, hdo, hval, hbel⟩ := hrel
    have Hk := Lib.hid hk
    have Hval := Lib.hid hval
    have Hlos := Lib.hid hlos
    clear hk hval hlos hv0 hb0 hl0
    by_cases hlt : j < n
    · have hlt' : (j : Int) < (a.length : Int) := by have := Hsz.out; omega
      go_wp2_with fail
      refine (dgtR_calls wr a j ha (by omega) (by omega)).mono ?_
      rintro e w1 ⟨rfl, rfl⟩
      go_wp2_with fail
      refine (dgtR_calls wr b j hb (by omega) (by omega)).mono ?_
      rintro e w1 ⟨rfl, rfl⟩
      have h1 := dgt_lt (dval a) j
      have h2 := dgt_lt (dval b) j
      have Hsub : Hid (∀ x c', _) := fun x c' => sub_dig (dval (os.drop (n - j))) bo j x c' (dval a) (dval b) Hval.out hbo
      generalize dgt (dval a) j = da at *
      generalize dgt (dval b) j = db at *
      by_cases hneg : db + bo ≤ da
      ·
        obtain ⟨x, hx⟩ : ∃ x, x = da - db - bo := ⟨_, rfl⟩
        have hxi : ((da : Int) - db - bo) = (x : Int) := by omega
        have hsub := (Hsub.out x 0 (.inl ⟨hneg, hx, rfl⟩))
        have hx9 : x < 10 := hsub.1
        have Hadd := Lib.hid hsub.2
        have Hxi := Lib.hid hxi
        clear hx hxi hsub Hsub hneg
        go_upto_region 7 with fail
        rw [Hxi.out]
        clear Hxi
        obtain ⟨q, hq⟩ : ∃ q, q = n - 1 - j := ⟨_, rfl⟩
        have hqi : (a.length : Int) - 1 - j = (q : Int) := by have := Hsz.out; omega
        have hq1 : q < os.length := by have := Hlos.out; omega
        have hq2 : q < n := by omega
        have c2 := hos.cell q hq1
        have f2 := hos.frozen q
        have Hq := Lib.hid hq
        clear hq
        go_wp2_with fail
        go_roundg (n - (j + 1))
        case measure => have := Hk.out; omega
        case rel =>
          have e : n - (j + 1) = q := by have := Hq.out; omega
          have e2 : q + 1 = n - j := by have := Hq.out; omega
          have hdr : (os.set q (UInt8.ofNat (48 + x))).drop q = UInt8.ofNat (48 + x) :: os.drop (n - j) := by rw [drop_set8 _ _ _ hq1, e2]
          have hdl : (os.drop (n - j)).length = j := by rw [List.length_drop, Hlos.out]; omega
          refine ⟨j + 1, 0, os.set q (UInt8.ofNat (48 + x)), rfl, by omega, by go_num, rfl, by omega, hos.set _ _ _ ?_, by rw [List.length_set]; exact Hlos.out, ?_, ?_, hbel.setCell (Nat.le_refl _) _⟩
          · rw [ofNat_digit _ hx9]; omega
          · rw [e, hdr]
            intro c hc
            rcases List.mem_cons.1 hc with rfl | hc
            · rw [ofNat_digit _ hx9]; omega
            · exact hdo c hc
          · rw [e, hdr, dval_head _ _ j hdl, ofNat_digit _ hx9, Nat.add_sub_cancel_left]
            exact Hadd.out
      ·
        obtain ⟨x, hx⟩ : ∃ x, x = da + 10 - db - bo := ⟨_, rfl⟩
        have hxi : ((da : Int) - db - bo) = (x : Int) - 10 := by omega
        have hsub := (Hsub.out x 1 (.inr ⟨by omega, hx, rfl⟩))
        have hx9 : x < 10 := hsub.1
        have Hadd := Lib.hid hsub.2
        have Hxi := Lib.hid hxi
        clear hx hxi hsub Hsub hneg
        go_upto_region 7 with fail
        rw [Hxi.out]
        clear Hxi
        obtain ⟨q, hq⟩ : ∃ q, q = n - 1 - j := ⟨_, rfl⟩
        have hqi : (a.length : Int) - 1 - j = (q : Int) := by have := Hsz.out; omega
        have hq1 : q < os.length := by have := Hlos.out; omega
        have hq2 : q < n := by omega
        have c2 := hos.cell q hq1
        have f2 := hos.frozen q
        have Hq := Lib.hid hq
        clear hq
        go_wp2_with fail
        go_roundg (n - (j + 1))
        case measure => have := Hk.out; omega
        case rel =>
          have e : n - (j + 1) = q := by have := Hq.out; omega
          have e2 : q + 1 = n - j := by have := Hq.out; omega
          have hdr : (os.set q (UInt8.ofNat (48 + x))).drop q = UInt8.ofNat (48 + x) :: os.drop (n - j) := by rw [drop_set8 _ _ _ hq1, e2]
          have hdl : (os.drop (n - j)).length = j := by rw [List.length_drop, Hlos.out]; omega
          refine ⟨j + 1, 1, os.set q (UInt8.ofNat (48 + x)), rfl, by omega, by go_num, rfl, by omega, hos.set _ _ _ ?_, by rw [List.length_set]; exact Hlos.out, ?_, ?_, hbel.setCell (Nat.le_refl _) _⟩
          · rw [ofNat_digit _ hx9]; omega
          · rw [e, hdr]
            intro c hc
            rcases List.mem_cons.1 hc with rfl | hc
            · rw [ofNat_digit _ hx9]; omega
            · exact hdo c hc
          · rw [e, hdr, dval_head _ _ j hdl, ofNat_digit _ hx9, Nat.add_sub_cancel_left]
            exact Hadd.out
    · obtain rfl : j = n := by omega
      have hlt' : ¬ (j : Int) < (a.length : Int) := by have := Hsz.out; omega
      have hconv := hos.string
      have hja : j = a.length := by have := Hsz.out; omega
      rw [hja] at hconv
      clear hja
      rw [Nat.sub_self, List.drop_zero] at hdo
      have hv1 := Hval.out
      rw [Nat.sub_self, List.drop_zero] at hv1
      have hfin : trim0 os = digS (dval a - dval b) := by
        apply trim0_digS os hdo
        have g1 := mod_all a ha j (by have := Hn.out; omega)
        have g3 := dval_lt ha
        rw [← Hn.out] at g3
        have g2 : dval b % 10 ^ j = dval b := Nat.mod_eq_of_lt (Nat.lt_of_le_of_lt hle'.out g3)
        rw [g1, g2] at hv1
        have g4 := dval_lt hdo
        rw [Hlos.out] at g4
        have g5 := hle'.out
        cases bo with
        | zero => omega
        | succ bo =>
          have : 1 * 10 ^ j ≤ (bo + 1) * 10 ^ j := Nat.mul_le_mul_right _ (by omega)
          omega
      have Hfin := Lib.hid hfin
      have hol : os.length ≤ 1000000000 := by have := Hlos.out; omega
      clear hfin hv1 Hval Hlos hdo
      go_wp2_with fail
      refine (plainR_calls _ os (by omega)).mono ?_
      rintro e w1 ⟨rfl, rfl⟩
      rw [Hfin.out]
      go_wp2_with fail
      go_ret
      exact ⟨rfl, hbel⟩

theorem bytesLess_dval : ∀ {a b : List UInt8}, Dig a → Dig b → a.length = b.length → Op.bytesLess a b = decide (dval a < dval b) := by
  intro a
  induction a with
  | nil => intro b _ _ h; obtain rfl := List.length_eq_zero_iff.1 h.symm; rfl
  | cons c t ih =>
    intro b ha hb hl
    cases b with
    | nil => simp at hl
    | cons c' t' =>
      have hl' : t.length = t'.length := by simpa using hl
      have ht : Dig t := fun x hx => ha x (by simp [hx])
      have ht' : Dig t' := fun x hx => hb x (by simp [hx])
      have h1 := dval_lt ht
      have h2 := dval_lt ht'
      have hc1 := ha c (by simp)
      have hc2 := hb c' (by simp)
      rw [dval_cons, dval_cons]
      show (decide (c < c') || (c == c' && Op.bytesLess t t')) = _
      rw [ih ht ht' hl']
      rw [hl'] at h1 ⊢
      have hlt : (c < c') ↔ c.toNat < c'.toNat := UInt8.lt_iff_toNat_lt
      have heq : (c == c') = decide (c.toNat = c'.toNat) := by rw [Bool.eq_iff_iff, beq_iff_eq, decide_eq_true_eq, UInt8.toNat_inj]
      rw [heq, Bool.eq_iff_iff]
      simp only [Bool.or_eq_true, Bool.and_eq_true, decide_eq_true_eq, hlt]
      generalize 10 ^ t'.length = p at *
      rcases Nat.lt_trichotomy c.toNat c'.toNat with h | h | h
      · have : (c.toNat - 48 + 1) * p ≤ (c'.toNat - 48) * p := Nat.mul_le_mul_right _ (by omega)
        rw [Nat.add_mul] at this
        exact ⟨fun _ => by omega, fun _ => .inl h⟩
      · rw [h]
        exact ⟨fun h3 => by rcases h3 with h3 | h3 <;> omega, fun h3 => .inr ⟨rfl, by omega⟩⟩
      · have : (c'.toNat - 48 + 1) * p ≤ (c.toNat - 48) * p := Nat.mul_le_mul_right _ (by omega)
        rw [Nat.add_mul] at this
        exact ⟨fun h3 => by rcases h3 with h3 | h3 <;> omega, fun h3 => by omega⟩
/-- Of digits without noughts ahead the longer tell more. -/
theorem dval_longer {a b : List UInt8} (ha : Dig a) (hb : Dig b) (tb : trim0 b = b) (h : a.length < b.length) : dval a < dval b := by
  cases b with
  | nil => simp at h
  | cons c t =>
    have h1 := dval_low hb (trim0_head tb)
    have h2 := dval_lt ha
    have h3 : 10 ^ a.length ≤ 10 ^ t.length := Nat.pow_le_pow_right (by omega) (by simp at h; omega)
    omega
/-- Which of two naturals is greater. -/
def cmpN (a b : Nat) : Int := if a < b then -1 else if b < a then 1 else 0
theorem cmpR_calls (w : World) (a b : List UInt8) (ha : Dig a) (hb : Dig b) (ta : trim0 a = a) (tb : trim0 b = b) :
    Calls Tryz.prog 34 #[.string ⟨a.toArray⟩, .string ⟨b.toArray⟩] w fun e w' => e = .returned (.int .i64 (cmpN (dval a) (dval b))) ∧ w = w' := by
  by_cases hl : a.length = b.length
  · have h1 := bytesLess_dval ha hb hl
    have h2 := bytesLess_dval hb ha hl.symm
    have hl' : ((a.length : Int) != (b.length : Int)) = false := by simp [hl]
    have hc : Hid (cmpN (dval a) (dval b) = if dval a < dval b then -1 else if dval b < dval a then 1 else 0) := rfl
    have heq : dval a = dval b → (a == b) = true := fun h => by rw [beq_iff_eq]; exact dval_inj ha hb ta tb h
    have hne : dval a ≠ dval b → (a == b) = false := fun h => by rw [beq_eq_false_iff_ne]; rintro rfl; exact h rfl
    have Heq := Lib.hid heq
    have Hne := Lib.hid hne
    clear heq hne hl ha hb ta tb h2
    generalize dval a = x at *
    generalize dval b = y at *
    have H1 := Lib.hid h1
    clear h1
    rcases Nat.lt_trichotomy x y with h | h | h
    · have h1 : Op.bytesLess a b = true := by rw [H1.out, decide_eq_true h]
      have Hf : Hid (cmpN x y = -1) := by show _ = _; rw [hc.out, if_pos h]
      clear H1 Heq Hne hc h
      go_enter Tryz.func34, Tryz.ntmps34
      go_wp2_with fail
      go_ret
      rw [Hf.out]
      exact ⟨rfl, rfl⟩
    · have h1 : Op.bytesLess a b = false := by rw [H1.out, decide_eq_false (by omega)]
      have h2 := Heq.out h
      have Hf : Hid (cmpN x y = 0) := by show _ = _; rw [hc.out, if_neg (by omega), if_neg (by omega)]
      clear H1 Heq Hne hc h
      go_enter Tryz.func34, Tryz.ntmps34
      go_wp2_with fail
      go_ret
      rw [Hf.out]
      exact ⟨rfl, rfl⟩
    · have h1 : Op.bytesLess a b = false := by rw [H1.out, decide_eq_false (by omega)]
      have h2 := Hne.out (by omega)
      have Hf : Hid (cmpN x y = 1) := by show _ = _; rw [hc.out, if_neg (by omega), if_pos h]
      clear H1 Heq Hne hc h
      go_enter Tryz.func34, Tryz.ntmps34
      go_wp2_with fail
      go_ret
      rw [Hf.out]
      exact ⟨rfl, rfl⟩
  · have hl' : ((a.length : Int) != (b.length : Int)) = true := by rw [bne_iff_ne]; omega
    have hx := dval_longer ha hb tb
    have hy := dval_longer hb ha ta
    have Hx := Lib.hid hx
    have Hy := Lib.hid hy
    have hc : Hid (cmpN (dval a) (dval b) = if dval a < dval b then -1 else if dval b < dval a then 1 else 0) := rfl
    clear hx hy ha hb ta tb
    by_cases h : a.length < b.length
    · have h' : (a.length : Int) < b.length := by omega
      have Hf : Hid (cmpN (dval a) (dval b) = -1) := by show _ = _; rw [hc.out, if_pos (Hx.out h)]
      clear Hx Hy hc hl h
      go_enter Tryz.func34, Tryz.ntmps34
      go_wp2_with fail
      go_ret
      rw [Hf.out]
      exact ⟨rfl, rfl⟩
    · have h' : ¬ (a.length : Int) < b.length := by omega
      have h9 := Hy.out (by omega)
      have Hf : Hid (cmpN (dval a) (dval b) = 1) := by show _ = _; rw [hc.out, if_neg (by omega), if_pos h9]
      clear Hx Hy hc hl h h9
      go_enter Tryz.func34, Tryz.ntmps34
      go_wp2_with fail
      go_ret
      rw [Hf.out]
      exact ⟨rfl, rfl⟩
end Go.Proofs.YtkakmjdfecbhaaaGreatDoor
