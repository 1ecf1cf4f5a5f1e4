/- The walk of the reference's Mul: over any world. -/
import Derived.Test.YtkakmjdfecbhaaaGreatDoorRef6
import Derived.StillTailTactics
namespace Go.Proofs.YtkakmjdfecbhaaaGreatDoor
open Go.RowKit

/-- The number of some places, the lowest first, each worth ten times the one before. -/
def v10 : List Nat → Nat
  | [] => 0
  | x :: xs => x + 10 * v10 xs
theorem v10_set (os : List Nat) (j y : Nat) (h : j < os.length) : v10 (os.set j y) + 10 ^ j * nth os j = v10 os + 10 ^ j * y := by
  induction os generalizing j with
  | nil => simp at h
  | cons x os ih =>
    cases j with
    | zero => simp [v10, nth]; omega
    | succ j =>
      have := ih j (by simpa using h)
      simp only [List.set_cons_succ, v10, nth_succ, Nat.pow_succ]
      have e : ∀ a, 10 ^ j * 10 * a = 10 * (10 ^ j * a) := fun a => by rw [Nat.mul_comm (10 ^ j), Nat.mul_assoc]
      rw [e, e]
      omega
theorem v10_take (xs : List Nat) (j : Nat) : v10 (xs.take (j + 1)) = v10 (xs.take j) + 10 ^ j * nth xs j := by
  induction xs generalizing j with
  | nil => simp [v10, nth]
  | cons x xs ih =>
    cases j with
    | zero => simp [v10, nth]
    | succ j =>
      simp only [List.take_succ_cons, v10, nth_succ, ih j, Nat.pow_succ]
      rw [Nat.mul_add, Nat.mul_comm (10 ^ j) 10, Nat.mul_assoc]; omega
theorem v10_replicate (n : Nat) : v10 (List.replicate n 0) = 0 := by
  induction n with
  | zero => rfl
  | succ n ih => simp [List.replicate_succ, v10, ih]
theorem nth_replicate (n m : Nat) : nth (List.replicate n 0) m = 0 := by
  unfold nth
  by_cases h : m < n
  · simp [h]
  · simp [h]
/-- The values of a list of ints. -/
def i64s (xs : List Nat) : List Value := xs.map (fun (x : Nat) => Value.int .i64 (x : Int))
def IntV (w : World) (B : Nat) (v : Value) (xs : List Nat) : Prop := w.ownsRow B 3 1 v xs.length (i64s xs)
theorem i64s_at (xs : List Nat) (j : Nat) (h : j < xs.length) : (i64s xs)[j]? = some (.int .i64 ((nth xs j : Nat) : Int)) := by
  simp [i64s, nth, List.getElem?_eq_getElem h, List.getD]
theorem IntV.cap {w : World} {B g cap : Nat} {n : Nat} {xs : List Nat} (h : IntV w B (.slice (some ⟨g, 0, none⟩) n cap) xs) : n = xs.length ∧ xs.length ≤ cap ∧ cap ≤ maxLen ∧ g < w.heap.size ∧ B ≤ g := by
  rcases h.2 with ⟨h1, _⟩ | ⟨g', cap', cur, hv, hg, hh, h1, h2, r⟩
  · cases h1
  · cases hv
    exact ⟨rfl, h1, h2, (Array.getElem?_eq_some_iff.1 hh).1, hg⟩
theorem IntV.cell {w : World} {B g n cap : Nat} {xs : List Nat} (h : IntV w B (.slice (some ⟨g, 0, none⟩) n cap) xs) (j : Nat) (hj : j < xs.length) :
    w.cell? ⟨g, j, none⟩ = some (.int .i64 ((nth xs j : Nat) : Int)) := by
  obtain ⟨rfl, _⟩ := h.cap
  rw [World.ownsRow.cellAt h j (by omega)]; exact i64s_at xs j hj
theorem IntV.frozen {w : World} {B g n cap : Nat} {os : List Nat} (h : IntV w B (.slice (some ⟨g, 0, none⟩) n cap) os) (j : Nat) : w.frozen? ⟨g, j, none⟩ = false := by
  obtain ⟨rfl, _⟩ := h.cap
  exact World.ownsRow.frozenAt h j
theorem IntV.set {w : World} {B g n cap : Nat} {os : List Nat} (h : IntV w B (.slice (some ⟨g, 0, none⟩) n cap) os) (j y : Nat) (yi : Int) (hy : yi = (y : Int)) :
    IntV (w.setCell ⟨g, j, none⟩ (.int .i64 yi)) B (.slice (some ⟨g, 0, none⟩) n cap) (os.set j y) := by
  subst hy
  obtain ⟨rfl, _⟩ := h.cap
  have := (World.ownsRow.stored h j (.int .i64 (y : Int))).1
  unfold IntV
  rw [show i64s (os.set j y) = (i64s os).set j (.int .i64 (y : Int)) by simp [i64s, List.map_set], List.length_set]
  exact this
theorem IntV.set_other {w : World} {B g : Nat} {v : Value} {xs : List Nat} (hx : IntV w B v xs) (hne : v.ownBlock ≠ some g) (j : Nat) (u : Value) :
    IntV (w.setCell ⟨g, j, none⟩ u) B v xs := ownsRow_setCell_other hx hne u
theorem IntV.below {w w' : World} {B : Nat} {v : Value} {xs : List Nat} (h : IntV w B v xs) (hb : Below w.heap.size w w') : IntV w' B v xs := by
  refine ⟨h.1, ?_⟩
  rcases h.2 with h2 | ⟨g, cap, cur, hv, hg, hh, r⟩
  · exact .inl h2
  · exact .inr ⟨g, cap, cur, hv, hg, by rw [hb.block g (Array.getElem?_eq_some_iff.1 hh).1]; exact hh, r⟩
theorem Tryz.info3 : (Tryz.prog.info? 3).map (fun i => (i.zero, i.size, i.bytes)) = some (some (.int .i64 0), 1, 8) := by kernel_rfl
theorem wpList_make_ints {w : World} {ops : Array Oper} {rest : List Oper} {o : Oper} {a : Act} {Q : Exit → Act → World → Prop}
    (hg : o.guard = none) (l c : Operand) (hop : o.op = Op.makeSlice 94 l c)
    (L C : Int) (n : Nat) (hl : a.eval l = .int .i64 L) (hc : a.eval c = .int .i64 C) (hL : L = (n : Int)) (hC : C = (n : Int)) (b2 : n ≤ 1000000000000)
    (hK : ∀ w', IntV w' w.heap.size (.slice (some ⟨w.heap.size, 0, none⟩) n n) (List.replicate n 0) → Below w.heap.size w w' → wpList Tryz.prog ops Q rest (a.put o.dst (.slice (some ⟨w.heap.size, 0, none⟩) n n)) w') :
    wpList Tryz.prog ops Q (o :: rest) a w := by
  obtain ⟨i0, hi, hz0, hz1, hz2⟩ := info_parts Tryz.info3
  refine wpList_make_full w hg l c 94 hop w.heap.size 3 i0 (.int .i64 0) 1 Tryz.underlying94 hi hz0 hz1 .i64 .i64 L C n hl hc hL hC (by rw [hz2]; omega) (by unfold maxLen; omega) (Nat.le_refl _) ?_
  intro w' h1 h2
  refine hK w' ?_ ((Below.refl _ _).grown h2 (Nat.le_refl _) (fun k hk => by cases hk))
  unfold IntV
  rw [show (madeCells (Value.int IntKind.i64 0).cells (n * 1)).toList = i64s (List.replicate n 0) from ?_] at h1
  · rw [List.length_replicate]; exact h1
  · show (madeCells #[Value.int .i64 0] (n * 1)).toList = _
    rw [toList_madeCells_one, Nat.mul_one]; simp [i64s]
/-- One product of two digits. -/
theorem mul_cell (V V' A b p o da db i k : Nat) (hp : p = i + k) (h : V = A * b + 10 ^ i * (da * (b % 10 ^ k))) (hs : V' + 10 ^ p * o = V + 10 ^ p * (o + da * db)) (hd : db = dgt b k) :
    V' = A * b + 10 ^ i * (da * (b % 10 ^ (k + 1))) := by
  rw [mod_succ, ← hd]
  have e1 : 10 ^ p * (o + da * db) = 10 ^ p * o + 10 ^ i * (da * (10 ^ k * db)) := by
    rw [Nat.mul_add, hp, Nat.pow_add]
    congr 1
    rw [Nat.mul_assoc]; congr 1
    rw [← Nat.mul_assoc, ← Nat.mul_assoc, Nat.mul_comm (10 ^ k) da]
  rw [e1] at hs
  rw [Nat.mul_add, Nat.mul_add]
  omega
theorem mul_row (a b i : Nat) (A da : Nat) (hA : A = a % 10 ^ i) (hda : da = dgt a i) : A * b + 10 ^ i * (da * b) = a % 10 ^ (i + 1) * b := by
  rw [mod_succ, ← hA, ← hda, Nat.add_mul, Nat.mul_assoc]

set_option maxHeartbeats 2000000 in
set_option maxRecDepth 100000 in
theorem mulR_calls (w : World) (a b : List UInt8) (ha : Dig a) (hb : Dig b) (la : a.length ≤ 1000000) (lb : b.length ≤ 1000000) :
    Calls Tryz.prog 39 #[.string ⟨a.toArray⟩, .string ⟨b.toArray⟩] w fun e w' => e = .returned (.string ⟨(digS (dval a * dval b)).toArray⟩) ∧ Below w.heap.size w w' := by
  obtain ⟨n, hn⟩ : ∃ n : Nat, n = a.length + b.length := ⟨_, rfl⟩
  have hni : (a.length : Int) + (b.length : Int) = (n : Int) := by omega
  have hn9 : n ≤ 2000000 := by omega
  have Hn := Lib.hid hn
  have Hni := Lib.hid hni
  clear hn hni
  go_enter Tryz.func39, Tryz.ntmps39
  go_wp2_with (at_make; go_must (refine wpList_make_ints rfl _ _ rfl _ _ n rfl rfl (by have := Hni.out; omega) (by have := Hni.out; omega) (by omega) ?_))
  intro w0 hv0 hb0
  go_wp2_with fail
  go_loopg [6] a.length (fun k c wr => ∃ (i : Nat) (os : List Nat), k = a.length - i ∧ i ≤ a.length ∧ c = .int .i64 (i : Int) ∧ IntV wr w.heap.size (.slice (some ⟨w.heap.size, 0, none⟩) n n) os ∧ os.length = n ∧
    v10 os = dval a % 10 ^ i * dval b ∧ (∀ m, nth os m ≤ 81 * i) ∧ Below w.heap.size w wr)
  case atStart => exact ⟨0, List.replicate n 0, rfl, by omega, rfl, hv0, by simp, by rw [v10_replicate]; simp [Nat.mod_one], fun m => by rw [nth_replicate]; omega, hb0⟩
  case round =>
    obtain ⟨i, os, hk, hi, rfl, hos, hlos, hval, hbd, hbel⟩ := hrel
    have Hk := Lib.hid hk
    have Hval := Lib.hid hval
    have Hlos := Lib.hid hlos
    have Hbd := Lib.hid hbd
    clear hk hval hlos hbd hv0 hb0
    by_cases hlt : i < a.length
    · have hlt' : (i : Int) < a.length := by omega
      obtain ⟨wo, rfl⟩ : ∃ wo : World, wo = wr := ⟨_, rfl⟩
      go_wp2_with fail
      go_loopg [7] b.length (fun q c wr => ∃ (k : Nat) (ps : List Nat), q = b.length - k ∧ k ≤ b.length ∧ c = .int .i64 (k : Int) ∧ IntV wr w.heap.size (.slice (some ⟨w.heap.size, 0, none⟩) n n) ps ∧ ps.length = n ∧
        v10 ps = dval a % 10 ^ i * dval b + 10 ^ i * (dgt (dval a) i * (dval b % 10 ^ k)) ∧ (∀ m, nth ps m ≤ 81 * i + (if m < i + k then 81 else 0)) ∧ Below w.heap.size w wr)
      case atStart => exact ⟨0, os, rfl, by omega, rfl, hos, Hlos.out, by rw [Hval.out]; simp [Nat.mod_one], fun m => by have := Hbd.out m; omega, hbel⟩
      case round =>
        obtain ⟨k, ps, hq, hkb, rfl, hps, hlps, hval2, hbd2, hbelr⟩ := hrel
        have Hq := Lib.hid hq
        have Hval2 := Lib.hid hval2
        have Hlps := Lib.hid hlps
        have Hbd2 := Lib.hid hbd2
        clear hq hval2 hlps hbd2
        by_cases hlt2 : k < b.length
        · have hlt2' : (k : Int) < b.length := by omega
          obtain ⟨p, hp⟩ : ∃ p, p = i + k := ⟨_, rfl⟩
          have hpn : p < n := by have := Hn.out; omega
          have hp1 : p < ps.length := by have := Hlps.out; omega
          have c2 := hps.cell p hp1
          have f2 := hps.frozen p
          have hob := Hbd2.out p
          have hob2 : nth ps p ≤ 81 * i := by rw [hp] at hob ⊢; rw [if_neg (by omega)] at hob; omega
          have h1 := dgt_lt (dval a) i
          have h2 := dgt_lt (dval b) k
          have hmc := fun V' hs => mul_cell (v10 ps) V' (dval a % 10 ^ i) (dval b) p (nth ps p) (dgt (dval a) i) (dgt (dval b) k) i k hp Hval2.out hs rfl
          have hvs := fun y => v10_set ps p y hp1
          have Hmc := Lib.hid hmc
          have Hvs := Lib.hid hvs
          have Hp := Lib.hid hp
          have da_c := fun W => dgtR_calls W a i ha (by omega) (by omega)
          have db_c := fun W => dgtR_calls W b k hb (by omega) (by omega)
          have Da := Lib.hid da_c
          have Db := Lib.hid db_c
          clear hmc hvs hob da_c db_c
          generalize dgt (dval a) i = da at *
          generalize dgt (dval b) k = db at *
          generalize nth ps p = ov at *
          have hdd : da * db ≤ 81 := by have := Nat.mul_le_mul (show da ≤ 9 by omega) (show db ≤ 9 by omega); omega
          have hw1 : IntKind.i64.wrap ((i : Int) + (k : Int)) = (p : Int) := by rw [IntWalk.i64_in _ (by omega)]; omega
          have hw2 : IntKind.i64.wrap ((da : Int) * (db : Int)) = ((da * db : Nat) : Int) := by rw [← Int.natCast_mul]; exact IntWalk.i64_in _ (by omega)
          have hw3 : IntKind.i64.wrap ((ov : Int) + ((da * db : Nat) : Int)) = ((ov + da * db : Nat) : Int) := by rw [← Int.natCast_add]; exact IntWalk.i64_in _ (by omega)
          have hpz : (0 : Int) ≤ (p : Int) := by omega
          have hpn' : (p : Int) < (n : Int) := by omega
          have hpt : ((p : Int)).toNat = p := by omega
          clear hp
          go_upto_region 8 with fail
          refine wp_region_still_tail 19 (by kernel_rfl) (by kernel_rfl) ?_
          simp only [List.take_succ_cons, List.take_zero, List.drop_succ_cons, List.drop_zero]
          repeat still_step
          still_call ((Da.out _).mono fun _ _ ⟨h1, h2⟩ => ⟨h1, h2.symm⟩)
          repeat still_step
          still_call ((Db.out _).mono fun _ _ ⟨h1, h2⟩ => ⟨h1, h2.symm⟩)
          repeat still_step
          refine wpStill_nil ?_
          clear hw1 hw2 hw3
          go_wp2_with fail
          go_roundg (b.length - (k + 1))
          case measure => have := Hq.out; omega
          case rel =>
            have hpsd : IntV wr.drew w.heap.size (.slice (some ⟨w.heap.size, 0, none⟩) n n) ps := hps
            refine ⟨k + 1, ps.set p (ov + da * db), rfl, by omega, by go_num, hpsd.set p _ _ rfl, by rw [List.length_set]; exact Hlps.out, Hmc.out _ (Hvs.out _), fun m => ?_, hbelr.drew.setCell (Nat.le_refl _) _⟩
            by_cases hm : m = p
            · subst hm
              rw [show nth (ps.set m (ov + da * db)) m = ov + da * db by simp [nth, hp1]]
              rw [if_pos (by have := Hp.out; omega)]
              omega
            · rw [nth_set_other _ _ _ _ (Ne.symm hm)]
              have h7 := Hbd2.out m
              have h8 := Hp.out
              by_cases hm2 : m < i + k
              · rw [if_pos hm2] at h7
                rw [if_pos (by omega)]; exact h7
              · rw [if_neg hm2] at h7
                rw [if_neg (by omega)]; exact h7
        · have hlt2' : ¬ (k : Int) < b.length := by omega
          obtain rfl : k = b.length := by omega
          have hrow := mul_row (dval a) (dval b) i _ _ rfl rfl
          have hmall := mod_all b hb b.length (Nat.le_refl _)
          have hv3 := Hval2.out
          rw [hmall, hrow] at hv3
          have Hv3 := Lib.hid hv3
          clear hv3 hrow hmall Hval2 Hval
          go_wp2_with fail
          go_roundg (a.length - (i + 1))
          case measure => have := Hk.out; omega
          case rel =>
            refine ⟨i + 1, ps, rfl, by omega, by go_num, hps, Hlps.out, Hv3.out, fun m => ?_, hbelr⟩
            have := Hbd2.out m
            split at this <;> omega
    · have hlt' : ¬ (i : Int) < a.length := by omega
      obtain rfl : i = a.length := by omega
      have hv3 := Hval.out
      rw [mod_all a ha a.length (Nat.le_refl _)] at hv3
      have hab : dval a * dval b < 10 ^ n := by
        rw [Hn.out, Nat.pow_add]
        have g1 := dval_lt ha
        have g2 := dval_lt hb
        rcases Nat.eq_zero_or_pos (dval b) with h0 | h0
        · rw [h0, Nat.mul_zero]; exact Nat.mul_pos (Nat.pow_pos (by omega)) (Nat.pow_pos (by omega))
        · exact Nat.lt_of_lt_of_le (Nat.mul_lt_mul_of_pos_right g1 h0) (Nat.mul_le_mul_left _ (Nat.le_of_lt g2))
      rw [← hv3] at hab
      have Hab := Lib.hid hab
      have Hv3 := Lib.hid hv3
      have hbd3 : ∀ m, nth os m ≤ 81000000 := fun m => by have := Hbd.out m; omega
      have Hbd3 := Lib.hid hbd3
      clear hv3 hab hbd3 Hbd Hval Hk hlt
      have hsz := hbel.size
      go_wp2_with (at_make; go_must (refine wpList_make_bytes rfl _ _ rfl _ _ n rfl rfl (by omega) (by omega) (by omega) ?_))
      intro wt hvt hbt
      have hos1 := hos.below hbt
      have hbelt := hbel.trans (hbt.mono hsz)
      have hne : (w.heap.size : Nat) ≠ wr.heap.size := by have := hos.cap.2.2.2.1; omega
      have hsw : w.heap.size ≤ wr.heap.size := hsz
      clear hbt hos hbel
      go_wp2_with fail
      go_loopg [9, 10] n (fun k c i wx => ∃ (j cy : Nat) (ts : List UInt8), k = n - j ∧ j ≤ n ∧ i = .int .i64 (j : Int) ∧ c = .int .i64 (cy : Int) ∧ cy ≤ 10000000 ∧ IntV wx w.heap.size (.slice (some ⟨w.heap.size, 0, none⟩) n n) os ∧
        BytV wx wr.heap.size (.slice (some ⟨wr.heap.size, 0, none⟩) n n) ts ∧ ts.length = n ∧ Dig (ts.drop (n - j)) ∧ dval (ts.drop (n - j)) + cy * 10 ^ j = v10 (os.take j) ∧ Below w.heap.size w wx)
      case atStart => exact ⟨0, 0, List.replicate n 0, rfl, by omega, rfl, rfl, by omega, hos1, hvt, by simp, by rw [Nat.sub_zero, List.drop_of_length_le (by simp)]; exact Dig_nil, by rw [Nat.sub_zero, List.drop_of_length_le (by simp)]; simp [dval_nil, v10], hbelt⟩
      case round =>
        obtain ⟨j, cy, ts, hk, hj, rfl, rfl, hcy, hos, hts, hlts, hdo, hval, hbel⟩ := hrel
        have Hk := Lib.hid hk
        have Hval := Lib.hid hval
        have Hlts := Lib.hid hlts
        clear hk hval hlts hos1 hvt hbelt
        by_cases hlt : j < n
        · have hlt' : (j : Int) < n := by omega
          have hp1 : j < os.length := by have := Hlos.out; omega
          have c1 := hos.cell j hp1
          have hob := Hbd3.out j
          have htk := v10_take os j
          have Htk := Lib.hid htk
          clear htk
          generalize nth os j = ov at *
          obtain ⟨x, hx⟩ : ∃ x, x = ov + cy := ⟨_, rfl⟩
          have hxi : ((ov : Int) + cy) = (x : Int) := by omega
          have hxb : x ≤ 91000000 := by omega
          have hxd : 10 * (x / 10) + x % 10 = x := Nat.div_add_mod x 10
          have Hxd := Lib.hid hxd
          have Hxi := Lib.hid hxi
          have Hx := Lib.hid hx
          clear hx hxi hxd
          go_upto_region 15 with fail
          rw [Hxi.out]
          clear Hxi c1
          obtain ⟨q, hq⟩ : ∃ q, q = n - 1 - j := ⟨_, rfl⟩
          have hqi : (n : Int) - 1 - j = (q : Int) := by omega
          have hq1 : q < ts.length := by have := Hlts.out; omega
          have hq2 : q < n := by omega
          have c2 := hts.cell q hq1
          have f2 := hts.frozen q
          have Hq := Lib.hid hq
          clear hq
          go_wp2_with fail
          go_roundg (n - (j + 1))
          case measure => have := Hk.out; omega
          case rel =>
            have h10 : x % 10 < 10 := Nat.mod_lt _ (by omega)
            have e : n - (j + 1) = q := by have := Hq.out; omega
            have e2 : q + 1 = n - j := by have := Hq.out; omega
            have hdr : (ts.set q (UInt8.ofNat (48 + x % 10))).drop q = UInt8.ofNat (48 + x % 10) :: ts.drop (n - j) := by rw [drop_set8 _ _ _ hq1, e2]
            have hdl : (ts.drop (n - j)).length = j := by rw [List.length_drop, Hlts.out]; omega
            refine ⟨j + 1, x / 10, ts.set q (UInt8.ofNat (48 + x % 10)), rfl, by omega, by go_num, by go_num, by omega, hos.set_other (by simp [Value.ownBlock]; exact hne) _ _, hts.set _ _ _ ?_, by rw [List.length_set]; exact Hlts.out, ?_, ?_, hbel.setCell (by simpa using hsw) _⟩
            · rw [ofNat_digit _ h10]; omega
            · rw [e, hdr]
              intro c hc
              rcases List.mem_cons.1 hc with rfl | hc
              · rw [ofNat_digit _ h10]; omega
              · exact hdo c hc
            · rw [e, hdr, dval_head _ _ j hdl, ofNat_digit _ h10, Nat.add_sub_cancel_left, Htk.out, ← Hval.out, Nat.pow_succ]
              have h8 := Hxd.out
              have h9 := Hx.out
              have key : x % 10 * 10 ^ j + x / 10 * (10 ^ j * 10) = 10 ^ j * ov + cy * 10 ^ j := by
                rw [Nat.mul_comm (10 ^ j) 10, ← Nat.mul_assoc, ← Nat.add_mul, Nat.mul_comm (10 ^ j) ov, ← Nat.add_mul]
                congr 1; omega
              omega
        · have hlt' : ¬ (j : Int) < n := by omega
          obtain rfl : j = n := by omega
          have hconv := hts.string
          rw [Nat.sub_self, List.drop_zero] at hdo
          have hv1 := Hval.out
          rw [Nat.sub_self, List.drop_zero, List.take_of_length_le (by rw [Hlos.out]; exact Nat.le_refl _)] at hv1
          have hfin : trim0 ts = digS (dval a * dval b) := by
            apply trim0_digS ts hdo
            rw [← Hv3.out]
            have h8 := Hab.out
            cases cy with
            | zero => omega
            | succ cy =>
              have : 1 * 10 ^ j ≤ (cy + 1) * 10 ^ j := Nat.mul_le_mul_right _ (by omega)
              omega
          have Hfin := Lib.hid hfin
          have htl : ts.length ≤ 1000000000 := by have := Hlts.out; omega
          clear hfin hv1 Hval Hlts hdo
          go_wp2_with fail
          refine (plainR_calls _ ts (by omega)).mono ?_
          rintro e w1 ⟨rfl, rfl⟩
          rw [Hfin.out]
          go_wp2_with fail
          go_ret
          exact ⟨rfl, hbel⟩
end Go.Proofs.YtkakmjdfecbhaaaGreatDoor
