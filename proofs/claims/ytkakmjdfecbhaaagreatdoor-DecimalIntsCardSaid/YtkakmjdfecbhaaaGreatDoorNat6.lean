/- The walks of natural and nat.digits: a number read off decimal digits, and told in them, over any world; lengths up to 10^9. -/
import Derived.Test.YtkakmjdfecbhaaaGreatDoorNat5
import Derived.Test.YtkakmjdfecbhaaaGreatDoorDig
import Derived.Lib.ConvBytes
namespace Go.Proofs.YtkakmjdfecbhaaaGreatDoor
open Go.RowKit

theorem bytesWorld_below (w : World) (e : TypeId) (s : ByteArray) : Below w.heap.size w (Lib.bytesWorld w e s) :=
  ⟨rfl, rfl, rfl, by rw [Lib.bytesWorld_size]; omega, fun k hk => Lib.bytesWorld_at_old w e s k hk⟩

set_option maxRecDepth 100000 in
theorem natural_calls (w : World) (l : List UInt8) (hd : Dig l) (hl : l.length ≤ 1000000000) :
    Calls Tryz.prog 37 #[.string ⟨l.toArray⟩] w fun e w' => ∃ v' zs, e = .returned v' ∧ NatV w' w.heap.size v' zs ∧ Norm zs ∧ val zs = dval l ∧ zs.length ≤ l.length + 1 ∧ Below w.heap.size w w' := by
  have kc : ∀ (w : World) (s : ByteArray), (convert 9 89 (.string s)).run Tryz.prog w = .ok (.slice (some ⟨w.heap.size, 0, none⟩) s.size (grownCap w s.size 0 5)) (Lib.bytesWorld w 5 s) :=
    fun w s => Lib.run_convert_string_bytes w 9 89 5 s Tryz.underlying9 Tryz.underlying89 Tryz.underlying5
  go_enter Tryz.func37, Tryz.ntmps37
  go_wp2
  go_loopg [0, 3] l.length (fun k s a wr => ∃ (m : Nat) (os : List Nat), k = m ∧ m ≤ l.length ∧ s = .string ⟨(l.take m).toArray⟩ ∧ NatV wr w.heap.size a os ∧ Ok os ∧ val os + base ^ os.length * dval (l.take m) = dval l ∧ os.length + m ≤ l.length + 1 ∧ Below w.heap.size w wr)
  case atStart => exact ⟨l.length, [], rfl, Nat.le_refl _, by rw [List.take_of_length_le (Nat.le_refl _)], NatV.nil _ _, Ok_nil, by simp [val], by simp, Below.refl _ _⟩
  case round =>
    obtain ⟨_, os, rfl, hm, rfl, hos, oko, hval, hlen, hbel⟩ := hrel
    have Hval := Lib.hid hval
    clear hval
    obtain ⟨m, rfl⟩ : ∃ m, m = gk := ⟨_, rfl⟩
    by_cases h0 : m = 0
    · subst h0
      go_wp2_with fail
      refine (plain_calls wr w.heap.size _ os hos).mono ?_
      rintro e w1 ⟨⟨v', rfl, hv'⟩, rfl⟩
      go_wp2
      go_ret
      have := Hval.out
      rw [List.take_zero, dval_nil] at this
      exact ⟨_, _, rfl, hv', Norm_plain oko, by rw [val_plain]; omega, by have := len_plain os; omega, hbel⟩
    · have hpos : (0 : Int) < m := by omega
      have hmax : max (0 : Int) ((m : Int) - 9) = ((m - 9 : Nat) : Int) := by omega
      have hsub : m - (m - 9) ≤ 9 := by omega
      have hsub2 : m - 9 ≤ m := by omega
      go_wp2_with fail
      generalize hs : (⟨(List.take m l).toArray⟩ : ByteArray).extract (m - 9) m = s at *
      have hs2 : s.data.toList = (l.take m).drop (m - 9) := by
        rw [← hs, Lib.extract_data, List.take_of_length_le (by simp; omega)]
      clear hs kc hmax
      have hbc := bytesWorld_below wr 5 s
      have hl9 : (s.data.toList).length ≤ 9 := by rw [hs2]; simp; omega
      have hlen9 : (s.data.toList).length = m - (m - 9) := by rw [hs2]; simp; omega
      have hcell : ∀ j, j < m - (m - 9) → (Lib.bytesWorld wr 5 s).cell? ⟨wr.heap.size, j, none⟩ = some (.int .u8 ((s.data.toList.getD j 0).toNat : Int)) :=
        fun j hj => Lib.bytesWorld_cell wr 5 s j (by rw [← hlen9] at hj; exact hj)
      have hdg : Dig s.data.toList := by rw [hs2]; exact Dig_drop (Dig_take hd _) _
      have Hcell := Lib.hid hcell
      have Hlen9 := Lib.hid hlen9
      have Hs2 := Lib.hid hs2
      clear hcell hlen9 hs2
      have hszr := hbel.size
      generalize Lib.bytesWorld wr 5 s = wb at *
      obtain ⟨wx, rfl⟩ : ∃ wx : World, wx = wr := ⟨_, rfl⟩
      go_loopg [5, 20] (m - (m - 9)) (fun k x i wr => ∃ j : Nat, k = m - (m - 9) - j ∧ j ≤ m - (m - 9) ∧ i = .int .i64 j ∧ x = .int .u64 (dval (s.data.toList.take j) : Nat) ∧ wb = wr)
      case atStart => exact ⟨0, rfl, by omega, rfl, by simp [dval], rfl⟩
      case round =>
        obtain ⟨j, hk, hj, rfl, rfl, rfl⟩ := hrel
        have Hk := Lib.hid hk
        clear hk
        have hx := dval_take_lt hdg hl9 j
        by_cases hlt : j < m - (m - 9)
        · have hlt' : (j : Int) < ((m - (m - 9) : Nat) : Int) := by omega
          have hcj := Hcell.out j hlt
          have hdj := Dig_getD hdg j (by rw [Hlen9.out]; exact hlt)
          have hnx := dval_snoc (s.data.toList.take j) (s.data.toList.getD j 0)
          rw [← take_snoc8 _ j (by rw [Hlen9.out]; exact hlt)] at hnx
          have Hnx := Lib.hid hnx
          clear hnx
          generalize s.data.toList.getD j 0 = c at *
          go_wp2_with fail
          go_roundg (m - (m - 9) - (j + 1))
          case measure => have := Hk.out; omega
          case rel => exact ⟨j + 1, rfl, by omega, by go_num, by rw [Hnx.out]; congr 1; omega, rfl⟩
        · have hlt' : ¬ (j : Int) < ((m - (m - 9) : Nat) : Int) := by omega
          obtain rfl : j = m - (m - 9) := by omega
          have hxe : dval (s.data.toList.take (m - (m - 9))) = dval ((l.take m).drop (m - 9)) := by rw [List.take_of_length_le (by rw [Hlen9.out]; omega), Hs2.out]
          have hxl := dval_piece_lt l m hd
          go_wp2_with (at_builtin; go_must (refine wpList_append_word rfl _ _ rfl w.heap.size _ os rfl (hos.below hbc) _ rfl rfl ?hlen ?hbase ?_))
          case hlen => omega
          case hbase => have := hbc.size; omega
          intro v' w1 hv' hg
          have hb1 := below_append (hbel.trans (hbc.mono hszr)) (by have := hbc.size; omega) (hos.below hbc) hg
          go_wp2_with fail
          go_roundg (m - 9)
          case measure => omega
          case rel =>
            refine ⟨m - 9, _, rfl, by omega, ?_, hv', Ok_snoc oko hxl, ?_, ?_, hb1⟩
            · rw [Lib.extract_upto]; simp only [List.take_take]; rw [Nat.min_eq_left (by omega)]
            · have h1 := Hval.out
              have h2 := dval_piece l m hm
              rw [val_snoc, ← h1, h2, List.length_append, List.length_singleton, Nat.pow_succ, Nat.mul_add, Nat.mul_assoc]; omega
            · simp; omega

/-- The values of a list of bytes. -/
def u8s (l : List UInt8) : List Value := l.map (fun c => Value.int .u8 (c.toNat : Int))
/-- v is a slice of bytes from block B on, that reads as l. -/
def BytV (w : World) (B : Nat) (v : Value) (l : List UInt8) : Prop := w.ownsRow B 5 1 v l.length (u8s l)
theorem u8s_set (os : List UInt8) (j : Nat) (y : UInt8) : u8s (os.set j y) = (u8s os).set j (.int .u8 (y.toNat : Int)) := by simp [u8s, List.map_set]
theorem u8s_at (xs : List UInt8) (j : Nat) (h : j < xs.length) : (u8s xs)[j]? = some (.int .u8 ((xs.getD j 0).toNat : Int)) := by
  simp [u8s, List.getElem?_eq_getElem h]
theorem BytV.cap {w : World} {B g cap : Nat} {n : Nat} {xs : List UInt8} (h : BytV w B (.slice (some ⟨g, 0, none⟩) n cap) xs) : n = xs.length ∧ xs.length ≤ cap ∧ cap ≤ maxLen ∧ g < w.heap.size ∧ B ≤ g := by
  rcases h.2 with ⟨h1, _⟩ | ⟨g', cap', cur, hv, hg, hh, h1, h2, r⟩
  · cases h1
  · cases hv
    exact ⟨rfl, h1, h2, (Array.getElem?_eq_some_iff.1 hh).1, hg⟩
theorem BytV.cell {w : World} {B g n cap : Nat} {xs : List UInt8} (h : BytV w B (.slice (some ⟨g, 0, none⟩) n cap) xs) (j : Nat) (hj : j < xs.length) :
    w.cell? ⟨g, j, none⟩ = some (.int .u8 ((xs.getD j 0).toNat : Int)) := by
  obtain ⟨rfl, _⟩ := h.cap
  rw [World.ownsRow.cellAt h j (by omega)]; exact u8s_at xs j hj
theorem BytV.frozen {w : World} {B g n cap : Nat} {os : List UInt8} (h : BytV w B (.slice (some ⟨g, 0, none⟩) n cap) os) (j : Nat) : w.frozen? ⟨g, j, none⟩ = false := by
  obtain ⟨rfl, _⟩ := h.cap
  exact World.ownsRow.frozenAt h j
theorem BytV.set {w : World} {B g n cap : Nat} {os : List UInt8} (h : BytV w B (.slice (some ⟨g, 0, none⟩) n cap) os) (j : Nat) (y : UInt8) (yi : Int) (hy : yi = (y.toNat : Int)) :
    BytV (w.setCell ⟨g, j, none⟩ (.int .u8 yi)) B (.slice (some ⟨g, 0, none⟩) n cap) (os.set j y) := by
  subst hy
  obtain ⟨rfl, _⟩ := h.cap
  have := (World.ownsRow.stored h j (.int .u8 (y.toNat : Int))).1
  unfold BytV
  rw [u8s_set, List.length_set]
  exact this
theorem Tryz.info5 : (Tryz.prog.info? 5).map (fun i => (i.zero, i.size, i.bytes)) = some (some (.int .u8 0), 1, 1) := by kernel_rfl
theorem wpList_make_bytes {w : World} {ops : Array Oper} {rest : List Oper} {o : Oper} {a : Act} {Q : Exit → Act → World → Prop}
    (hg : o.guard = none) (l c : Operand) (hop : o.op = Op.makeSlice 89 l c)
    (L C : Int) (n : Nat) (hl : a.eval l = .int .i64 L) (hc : a.eval c = .int .i64 C) (hL : L = (n : Int)) (hC : C = (n : Int)) (b2 : n ≤ 1000000000000)
    (hK : ∀ w', BytV w' w.heap.size (.slice (some ⟨w.heap.size, 0, none⟩) n n) (List.replicate n 0) → Below w.heap.size w w' → wpList Tryz.prog ops Q rest (a.put o.dst (.slice (some ⟨w.heap.size, 0, none⟩) n n)) w') :
    wpList Tryz.prog ops Q (o :: rest) a w := by
  obtain ⟨i0, hi, hz0, hz1, hz2⟩ := info_parts Tryz.info5
  refine wpList_make_full w hg l c 89 hop w.heap.size 5 i0 (.int .u8 0) 1 Tryz.underlying89 hi hz0 hz1 .i64 .i64 L C n hl hc hL hC (by rw [hz2]; omega) (by unfold maxLen; omega) (Nat.le_refl _) ?_
  intro w' h1 h2
  refine hK w' ?_ ((Below.refl _ _).grown h2 (Nat.le_refl _) (fun k hk => by cases hk))
  unfold BytV
  rw [show (madeCells (Value.int IntKind.u8 0).cells (n * 1)).toList = u8s (List.replicate n 0) from ?_] at h1
  · rw [List.length_replicate]; exact h1
  · show (madeCells #[Value.int .u8 0] (n * 1)).toList = _
    rw [toList_madeCells_one, Nat.mul_one]; simp [u8s]
/-- 'string(b)' of bytes. -/
theorem BytV.string {w : World} {B g n cap : Nat} {l : List UInt8} (h : BytV w B (.slice (some ⟨g, 0, none⟩) n cap) l) :
    (convert 89 9 (.slice (some ⟨g, 0, none⟩) n cap)).run Tryz.prog w = .ok (.string ⟨l.toArray⟩) w := by
  obtain ⟨rfl, _⟩ := h.cap
  refine run_convert_bytes_back w 89 9 5 ⟨g, 0, none⟩ cap l Tryz.underlying89 Tryz.underlying5 Tryz.underlying9 (fun j hj => ?_)
  have := h.cell j hj
  have e : l.getD j 0 = l[j] := by simp [hj]
  rw [e] at this
  cases j with
  | zero => simpa [Addr.add] using this
  | succ j => simpa [Addr.add] using this

set_option maxRecDepth 100000 in
theorem digits_calls (w : World) (B1 : Nat) (va : Value) (xs : List Nat) (ha : NatV w B1 va xs) (oka : Ok xs) (la : xs.length ≤ 1000000000) :
    Calls Tryz.prog 31 #[va] w fun e w' => ∃ ds : List UInt8, e = .returned (.string ⟨ds.toArray⟩) ∧ Dig ds ∧ trim0 ds = ds ∧ dval ds = val xs ∧ Below w.heap.size w w' := by
  obtain ⟨pa, capa, rfl⟩ := ha.form
  go_enter Tryz.func31, Tryz.ntmps31
  go_wp2_with (at_make; go_must (refine wpList_make_bytes rfl _ _ rfl _ _ (9 * xs.length) rfl rfl (by omega) (by omega) (by omega) ?_))
  intro w0 hv0 hb0
  go_wp2_with fail
  go_loopg [13] xs.length (fun k i wr => ∃ (j : Nat) (os : List UInt8), k = xs.length - j ∧ j ≤ xs.length ∧ i = .int .i64 j ∧ BytV wr w.heap.size (.slice (some ⟨w.heap.size, 0, none⟩) (9 * xs.length) (9 * xs.length)) os ∧ os.length = 9 * xs.length ∧
    Dig (os.drop (9 * (xs.length - j))) ∧ dval (os.drop (9 * (xs.length - j))) = val (xs.take j) ∧ Below w.heap.size w wr)
  case atStart => exact ⟨0, List.replicate (9 * xs.length) 0, rfl, by omega, rfl, hv0, by simp, by rw [Nat.sub_zero, List.drop_of_length_le (by simp)]; exact Dig_nil, by rw [Nat.sub_zero, List.drop_of_length_le (by simp)]; rfl, hb0⟩
  case round =>
    obtain ⟨j, os, hk, hj, rfl, hos, hlos, hdo, hval, hbel⟩ := hrel
    have Hk := Lib.hid hk
    have Hval := Lib.hid hval
    have Hlos := Lib.hid hlos
    clear hk hval hlos hv0 hb0
    by_cases hlt : j < xs.length
    · rcases ha.forms with ⟨_, h⟩ | ⟨g, cap, h⟩
      · rw [h] at hlt; simp at hlt
      cases h
      have c1 := (ha.below hbel).cell j hlt
      have hjx : (j : Int) < xs.length := by omega
      have hn1 := Ok_nth oka j
      obtain ⟨wo, rfl⟩ : ∃ wo : World, wo = wr := ⟨_, rfl⟩
      go_wp2_with fail
      clear c1
      go_loopg [5, 18] 9 (fun k x i wr => ∃ (m : Nat) (ps : List UInt8), k = 9 - m ∧ m ≤ 9 ∧ i = .int .i64 m ∧ x = .int .u64 (nth xs j / 10 ^ m : Nat) ∧ BytV wr w.heap.size (.slice (some ⟨w.heap.size, 0, none⟩) (9 * xs.length) (9 * xs.length)) ps ∧ ps.length = 9 * xs.length ∧
        Dig (ps.drop (9 * (xs.length - j) - m)) ∧ dval (ps.drop (9 * (xs.length - j) - m)) = val (xs.take j) + base ^ j * (nth xs j % 10 ^ m) ∧ Below w.heap.size w wr)
      case atStart => exact ⟨0, os, rfl, by omega, rfl, by simp, hos, Hlos.out, hdo, by simp [Hval.out, Nat.mod_one], hbel⟩
      case round =>
        obtain ⟨m, ps, hk, hm, rfl, rfl, hps, hlps, hdp, hval, hbelr⟩ := hrel
        have Hk2 := Lib.hid hk
        have Hval2 := Lib.hid hval
        have Hlps := Lib.hid hlps
        clear hk hval hlps
        by_cases hlt2 : m < 9
        · have hlt2' : (m : Int) < 9 := by omega
          obtain ⟨q, hq⟩ : ∃ q, q = 9 * (xs.length - j) - 1 - m := ⟨_, rfl⟩
          have hqi : 9 * ((xs.length : Int) - j) - 1 - m = (q : Int) := by omega
          have hq1 : q < ps.length := by have := Hlps.out; omega
          have hq2 : q < 9 * xs.length := by omega
          have c2 := hps.cell q hq1
          have f2 := hps.frozen q
          have hxl : nth xs j / 10 ^ m < 1000000000 := Nat.lt_of_le_of_lt (Nat.div_le_self _ _) (by rw [base_eq] at hn1; exact hn1)
          have hxe : ∃ y, y = nth xs j / 10 ^ m := ⟨_, rfl⟩
          obtain ⟨y, hy⟩ := hxe
          rw [← hy] at hxl
          rw [← hy]
          have Hy := Lib.hid hy
          have Hq := Lib.hid hq
          clear hy hq
          go_wp2_with fail
          go_roundg (9 - (m + 1))
          case measure => have := Hk2.out; omega
          case rel =>
            have h10 : y % 10 < 10 := Nat.mod_lt _ (by omega)
            have hw := dig_word ps (9 * (xs.length - j) - m) q j m (nth xs j) _ (by have := Hq.out; omega) hq1 (by rw [List.length_drop, Hlps.out]; omega) hdp Hval2.out
            rw [← Hy.out] at hw
            have e : 9 * (xs.length - j) - (m + 1) = q := by have := Hq.out; omega
            refine ⟨m + 1, ps.set q (UInt8.ofNat (48 + y % 10)), rfl, by omega, by go_num, ?_, hps.set _ _ _ ?_, by rw [List.length_set]; exact Hlps.out, by rw [e]; exact hw.1, by rw [e]; exact hw.2, hbelr.setCell (Nat.le_refl _) _⟩
            · rw [Nat.pow_succ, ← Nat.div_div_eq_div_mul, ← Hy.out]; go_num
            · rw [ofNat_digit _ h10]; omega
        · have hlt2' : ¬ (m : Int) < 9 := by omega
          go_wp2_with fail
          go_roundg (xs.length - (j + 1))
          case measure => have := Hk.out; omega
          case rel =>
            obtain rfl : m = 9 := by omega
            have h1 := Hval2.out
            rw [dig_word_end _ hn1, ← val_take] at h1
            have e : 9 * (xs.length - (j + 1)) = 9 * (xs.length - j) - 9 := by omega
            exact ⟨j + 1, ps, rfl, by omega, by go_num, hps, Hlps.out, by rw [e]; exact hdp, by rw [e]; exact h1, hbelr⟩
    · obtain rfl : j = xs.length := by omega
      have hconv := hos.string
      have h1 := Hval.out
      rw [Nat.sub_self, Nat.mul_zero, List.drop_zero] at h1 hdo
      have H1 := Lib.hid h1
      clear h1
      go_wp2_with fail
      refine (same (Tryz.strings_TrimLeft_one ⟨os.toArray⟩ 48 (by decide) _)).mono ?_
      rintro e w1 ⟨rfl, rfl⟩
      go_wp2
      go_ret
      have h1 := H1.out
      rw [List.take_of_length_le (Nat.le_refl _)] at h1
      exact ⟨trim0 os, rfl, Dig_trim0 hdo, trim0_trim0 _, by rw [dval_trim0]; exact h1, hbel⟩
end Go.Proofs.YtkakmjdfecbhaaaGreatDoor
