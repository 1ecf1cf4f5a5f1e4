/- The walks of the reference's Div and gcd: over any world. -/
import Derived.Test.YtkakmjdfecbhaaaGreatDoorRef6
namespace Go.Proofs.YtkakmjdfecbhaaaGreatDoor
open Go.RowKit

theorem u8s_app (xs ys : List UInt8) : u8s (xs ++ ys) = u8s xs ++ u8s ys := by simp [u8s]
/-- 'append(out, c)' of one byte onto a row of the call's own. -/
theorem wpList_append_byte {w : World} {ops : Array Oper} {rest : List Oper} {o : Oper} {a : Act} {Q : Exit → Act → World → Prop} {yi : Int} (hgd : o.guard = none) (s x : Operand)
    (ho : o.op = .call { callee := .builtin .append, args := #[s, x], argTypes := #[89, 89] })
    (B : Nat) (v : Value) (xs : List UInt8) (hs : a.eval s = v) (hown : BytV w B v xs) (y : UInt8)
    (hx : a.eval x = .slice (some ⟨w.heap.size, 0, none⟩) 1 1) (hy : yi = (y.toNat : Int)) (hlen : xs.length ≤ 1000000000000) (hbase : B ≤ w.heap.size)
    (h : ∀ v' w', BytV w' B v' (xs ++ [y]) → (w.alloc (.cells #[.int .u8 yi] 5)).grownBy w' v.ownBlock → wpList Tryz.prog ops Q rest (a.put o.dst v') w') :
    wpList Tryz.prog ops Q (o :: rest) a (w.alloc (.cells #[.int .u8 yi] 5)) := by
  obtain ⟨i0, hi, hz0, hz1, hz2⟩ := info_parts Tryz.info5
  subst hy
  refine wpList_append_own _ hgd s x 89 ho B 5 i0 (.int .u8 0) 1 1 Tryz.underlying89 hi hz0 hz1 hz2 rfl (by decide) v xs.length (u8s xs) hs (World.ownsRow.alloc hown _) ⟨w.heap.size, 0, none⟩ 1 1 [.int .u8 (y.toNat : Int)] hx rfl ?_ ?_ ?_ ?_ ?_ ?_
  · intro j u hj
    match j, hj with
    | 0, hj => simp at hj; subst hj; exact World.cell?_alloc_at _ _ _ _ rfl
  · intro u hu; simp at hu; subst hu; rfl
  · unfold maxLen; omega
  · omega
  · simp; omega
  · intro v' w' h1 h2 _
    refine h v' w' ?_ h2
    unfold BytV
    rw [u8s_app, List.length_append]
    exact h1
theorem BytV.forms {w : World} {B : Nat} {v : Value} {xs : List UInt8} (h : BytV w B v xs) :
    (v = .slice none 0 0 ∧ xs = []) ∨ ∃ g cap, v = .slice (some ⟨g, 0, none⟩) xs.length cap := by
  rcases Joins.ownsRow_forms h with ⟨h1, h2⟩ | h
  · exact .inl ⟨h1, List.length_eq_zero_iff.1 h2⟩
  · exact .inr h
theorem BytV.form {w : World} {B : Nat} {v : Value} {xs : List UInt8} (h : BytV w B v xs) : ∃ p cap, v = .slice p xs.length cap := by
  rcases h.forms with ⟨rfl, rfl⟩ | ⟨g, cap, rfl⟩
  · exact ⟨none, 0, rfl⟩
  · exact ⟨_, _, rfl⟩
theorem BytV.below8 {w w' : World} {B : Nat} {v : Value} {xs : List UInt8} (h : BytV w B v xs) (hb : Below w.heap.size w w') : BytV w' B v xs := by
  refine ⟨h.1, ?_⟩
  rcases h.2 with h2 | ⟨g, cap, cur, hv, hg, hh, r⟩
  · exact .inl h2
  · exact .inr ⟨g, cap, cur, hv, hg, by rw [hb.block g (Array.getElem?_eq_some_iff.1 hh).1]; exact hh, r⟩
theorem below_append8 {B : Nat} {w wr w1 : World} {v : Value} {os : List UInt8} {o : Obj} (hb : Below B w wr) (hB : B ≤ wr.heap.size) (hv : BytV wr B v os)
    (hg : (wr.alloc o).grownBy w1 v.ownBlock) : Below B w w1 := (hb.alloc hB o).grown hg (by simp; omega) (fun k hk => (World.ownsRow.lt hv k hk).1)
/-- The 'make' of an empty row with room. -/
theorem wpList_make_room {w : World} {ops : Array Oper} {rest : List Oper} {o : Oper} {a : Act} {Q : Exit → Act → World → Prop}
    (hg : o.guard = none) (l c : Operand) (hop : o.op = Op.makeSlice 89 l c)
    (C : Int) (n : Nat) (hl : a.eval l = .int .i64 0) (hc : a.eval c = .int .i64 C) (hC : C = (n : Int)) (b2 : n ≤ 1000000000000)
    (hK : ∀ w', BytV w' w.heap.size (.slice (some ⟨w.heap.size, 0, none⟩) 0 n) [] → Below w.heap.size w w' → wpList Tryz.prog ops Q rest (a.put o.dst (.slice (some ⟨w.heap.size, 0, none⟩) 0 n)) w') :
    wpList Tryz.prog ops Q (o :: rest) a w := by
  obtain ⟨i0, hi, hz0, hz1, hz2⟩ := info_parts Tryz.info5
  refine wpList_make_own w hg l c 89 hop w.heap.size 5 i0 (.int .u8 0) 1 Tryz.underlying89 hi hz0 hz1 .i64 .i64 C n hl hc hC (by rw [hz2]; omega) (by unfold maxLen; omega) (Nat.le_refl _) ?_
  intro w' h1 h2
  exact hK w' h1 ((Below.refl _ _).grown h2 (Nat.le_refl _) (fun k hk => by cases hk))
theorem div_next (V B d q r : Nat) (hB : 0 < B) (hq : V / B = q) (hr : V % B = r) : (10 * V + d) / B = 10 * q + (10 * r + d) / B ∧ (10 * V + d) % B = (10 * r + d) % B := by
  have h := Nat.div_add_mod V B
  rw [hq, hr] at h
  have e : 10 * V + d = (10 * r + d) + B * (10 * q) := by rw [← h, Nat.mul_add, Nat.mul_left_comm]; omega
  rw [e, Nat.add_mul_div_left _ _ hB, Nat.add_mul_mod_self_left]
  omega
theorem digS_rest (r d : Nat) (c : UInt8) (hc : c.toNat = 48 + d) (hd : d < 10) : trim0 (digS r ++ [c]) = digS (10 * r + d) := by
  obtain ⟨h1, h2, h3⟩ := digS_dig r
  apply trim0_digS
  · exact Dig_append.2 ⟨h1, fun x hx => by simp at hx; subst hx; omega⟩
  · rw [dval_snoc, h2, hc]; omega
theorem cmpN_ge (x y : Nat) : (0 ≤ cmpN x y) ↔ y ≤ x := by unfold cmpN; split <;> (try split) <;> omega

set_option maxHeartbeats 2000000 in
set_option maxRecDepth 100000 in
theorem divR_calls (w : World) (a b : List UInt8) (ha : Dig a) (hb : Dig b) (tb : trim0 b = b) (hB : 0 < dval b) (la : a.length ≤ 1000000) (lb : b.length ≤ 1000000) :
    Calls Tryz.prog 46 #[.string ⟨a.toArray⟩, .string ⟨b.toArray⟩] w fun e w' => e = .returned (.tuple #[.string ⟨(digS (dval a / dval b)).toArray⟩, .string ⟨(digS (dval a % dval b)).toArray⟩]) ∧ Below w.heap.size w w' := by
  have Tb := Lib.hid tb
  have Hlt := Lib.hid (dval_lt hb)
  clear tb
  go_enter Tryz.func46, Tryz.ntmps46
  go_wp2_with (at_make; go_must (refine wpList_make_room rfl _ _ rfl _ a.length rfl rfl (by omega) (by omega) ?_))
  intro w0 hv0 hb0
  go_wp2_with fail
  go_loopg [6, 7, 8] a.length (fun k v s c wr => ∃ (i : Nat) (ts : List UInt8), k = a.length - i ∧ i ≤ a.length ∧ c = .int .i64 (i : Int) ∧ s = .string ⟨(digS (dval (a.take i) % dval b)).toArray⟩ ∧ BytV wr w.heap.size v ts ∧ ts.length = i ∧
    Dig ts ∧ dval ts = dval (a.take i) / dval b ∧ Below w.heap.size w wr)
  case atStart => exact ⟨0, [], rfl, by omega, rfl, by simp [dval_nil, digS], hv0, rfl, Dig_nil, by simp [dval_nil], hb0⟩
  case round =>
    obtain ⟨i, ts, hk, hi, rfl, rfl, hts, hlts, hdt, hval, hbel⟩ := hrel
    have Hk := Lib.hid hk
    have Hval := Lib.hid hval
    have Hlts := Lib.hid hlts
    clear hk hval hlts hv0 hb0
    by_cases hlt : i < a.length
    · have hlt' : (i : Int) < a.length := by omega
      have hdi := Dig_getD ha i hlt
      have hone : (⟨a.toArray⟩ : ByteArray).extract i (i + 1) = ⟨[a.getD i 0].toArray⟩ := by
        rw [Lib.extract_eq]
        show (⟨((a.drop i).take (i + 1 - i)).toArray⟩ : ByteArray) = _
        have h9 : (a.drop i).take 1 = [a.getD i 0] := by
          rw [List.drop_eq_getElem_cons hlt]
          show [a[i]] = _
          simp [hlt]
        rw [Nat.add_sub_cancel_left, h9]
      have hdv : dval (a.take (i + 1)) = 10 * dval (a.take i) + ((a.getD i 0).toNat - 48) := by rw [take_snoc8 a i hlt, dval_snoc]
      have hnx := div_next (dval (a.take i)) (dval b) ((a.getD i 0).toNat - 48) _ _ hB rfl rfl
      rw [← hdv] at hnx
      have hrs := digS_rest (dval (a.take i) % dval b) ((a.getD i 0).toNat - 48) (a.getD i 0) (by omega) (by omega)
      have hrl : dval (a.take i) % dval b < dval b := Nat.mod_lt _ hB
      have hrlen : (digS (dval (a.take i) % dval b)).length ≤ 1000001 := by
        have := digS_len_le (n := dval (a.take i) % dval b) (k := b.length) (Nat.lt_trans hrl Hlt.out)
        omega
      have Hnx := Lib.hid hnx
      have Hrs := Lib.hid hrs
      have Hone := Lib.hid hone
      rw [← Hval.out] at Hnx
      clear hnx hrs hdv Hval hone
      generalize dval (a.take i) % dval b = r at *
      generalize a.getD i 0 = ch at *
      obtain ⟨d, hd⟩ : ∃ d, d = ch.toNat - 48 := ⟨_, rfl⟩
      rw [← hd] at Hnx Hrs
      have hd9 : d < 10 := by omega
      clear hd
      have hone := Hone.out
      have hs1 : ¬ 9223372036854775807 < (digS r).length + 1 := by omega
      obtain ⟨pv, cv, rfl⟩ := hts.form
      go_wp2_with fail
      rw [show ((⟨(digS r).toArray⟩ : ByteArray) ++ ⟨[ch].toArray⟩) = ⟨(digS r ++ [ch]).toArray⟩ from bytes_eq (by simp [ByteArray.data_append])]
      refine (plainR_calls wr (digS r ++ [ch]) (by simp; omega)).mono ?_
      rintro e w1 ⟨rfl, rfl⟩
      rw [Hrs.out]
      clear hone hs1 Hone Hrs
      obtain ⟨R, hR⟩ : ∃ R, R = 10 * r + d := ⟨_, rfl⟩
      rw [← hR] at Hnx ⊢
      have hRB : R < 10 * dval b := by omega
      clear hR
      have hB9 : 1 ≤ dval b := hB
      go_wp2_with fail
      obtain ⟨wo, rfl⟩ : ∃ wo : World, wo = wr := ⟨_, rfl⟩
      have hrx := Below.refl wo.heap.size wo
      go_loopg [7, 9] 10 (fun q s c wx => ∃ m : Nat, q = 10 - m ∧ m * dval b ≤ R ∧ s = .string ⟨(digS (R - m * dval b)).toArray⟩ ∧ c = .int .u8 ((48 + m : Nat) : Int) ∧ Below wo.heap.size wo wx)
      case atStart => exact ⟨0, rfl, by omega, by rw [Nat.zero_mul, Nat.sub_zero], rfl, hrx⟩
      case round =>
        obtain ⟨m, hq, hmB, rfl, rfl, hwx⟩ := hrel
        have Hq := Lib.hid hq
        clear hq hrx
        have hm9 : m ≤ 9 := by
          apply Nat.le_of_lt_succ
          apply Nat.lt_of_not_le; intro h10
          have := Nat.mul_le_mul_right (dval b) h10
          omega
        obtain ⟨X, hX⟩ : ∃ X, X = R - m * dval b := ⟨_, rfl⟩
        rw [← hX]
        have HX : Hid (R = m * dval b + X) := by show R = _; omega
        have hXB : X < 10 * dval b := by omega
        have hXl : (digS X).length ≤ 1000002 := by
          have := digS_len_le (n := X) (k := b.length + 1) (by rw [Nat.pow_succ]; have := Hlt.out; omega)
          omega
        have hdg := digS_dig X
        clear hX
        by_cases hge : dval b ≤ X
        · have hcv : 0 ≤ cmpN (dval (digS X)) (dval b) := by rw [hdg.2.1]; exact (cmpN_ge _ _).2 hge
          have Hdg := Lib.hid hdg
          have Hcv := Lib.hid hcv
          clear hdg hcv
          go_wp2_with fail
          refine (cmpR_calls wr (digS X) b Hdg.out.1 hb Hdg.out.2.2 Tb.out).mono ?_
          rintro e w1 ⟨rfl, rfl⟩
          have hcv := Hcv.out
          generalize cmpN (dval (digS X)) (dval b) = cv at *
          clear Hcv
          go_wp2_with fail
          refine (subR_calls wr (digS X) b Hdg.out.1 hb (by omega) (by omega) (by rw [Hdg.out.2.1]; exact hge)).mono ?_
          rintro e wy ⟨rfl, hby⟩
          rw [Hdg.out.2.1]
          go_wp2_with fail
          go_roundg (10 - (m + 1))
          case measure => have := Hq.out; omega
          case rel =>
            have h8 := HX.out
            have h9 : (m + 1) * dval b = m * dval b + dval b := by rw [Nat.add_mul, Nat.one_mul]
            refine ⟨m + 1, rfl, by omega, ?_, by go_num, hwx.trans (hby.mono hwx.size)⟩
            rw [show R - (m + 1) * dval b = X - dval b by omega]
        · have hcv : ¬ 0 ≤ cmpN (dval (digS X)) (dval b) := by rw [hdg.2.1]; exact fun h => hge ((cmpN_ge _ _).1 h)
          have Hdg := Lib.hid hdg
          have Hcv := Lib.hid hcv
          clear hdg hcv
          go_wp2_with fail
          refine (cmpR_calls wr (digS X) b Hdg.out.1 hb Hdg.out.2.2 Tb.out).mono ?_
          rintro e w1 ⟨rfl, rfl⟩
          have hcv := Hcv.out
          generalize cmpN (dval (digS X)) (dval b) = cv at *
          clear Hcv Hdg hXl
          have hRd : R / dval b = m ∧ R % dval b = X := by
            have h8 := HX.out
            rw [h8, Nat.mul_comm, Nat.mul_add_div hB, Nat.div_eq_of_lt (by omega), Nat.mul_add_mod, Nat.mod_eq_of_lt (by omega)]
            exact ⟨rfl, rfl⟩
          rw [hRd.1, hRd.2] at Hnx
          have hts2 := hts.below8 hwx
          have hbel2 := hbel.trans (hwx.mono hbel.size)
          obtain ⟨dc, hdc⟩ : ∃ dc : UInt8, dc.toNat = 48 + m := ⟨UInt8.ofNat (48 + m), ofNat_digit _ (by omega)⟩
          have hyi : ((48 + m : Nat) : Int) = (dc.toNat : Int) := by rw [hdc]
          have Hyi := Lib.hid hyi
          have hmd : 48 ≤ dc.toNat ∧ dc.toNat ≤ 57 := by omega
          have hmv : dc.toNat - 48 = m := by omega
          have Hmv := Lib.hid hmv
          have Hmd := Lib.hid hmd
          clear hRd hyi hmv hmd hdc
          have htl : ts.length ≤ 1000000 := by have := Hlts.out; omega
          have hsx := hbel2.size
          go_wp2_with (at_builtin; go_must (refine wpList_append_byte rfl _ _ rfl w.heap.size _ ts rfl hts2 dc rfl Hyi.out ?hlen ?hbase ?_))
          case hlen => omega
          case hbase => exact hsx
          intro v' w1 hv' hg
          have hb1 := below_append8 hbel2 hsx hts2 hg
          clear hg hts2 hts hbel hbel2 hwx
          go_wp2_with fail
          go_roundg (a.length - (i + 1))
          case measure => have := Hk.out; omega
          case rel =>
            refine ⟨i + 1, ts ++ [dc], rfl, by omega, by go_num, by rw [Hnx.out.2], hv', by simp; exact Hlts.out, ?_, ?_, hb1⟩
            · exact Dig_append.2 ⟨hdt, fun c hc => by simp at hc; subst hc; exact Hmd.out⟩
            · rw [dval_snoc, Hmv.out, Hnx.out.1]
    · have hlt' : ¬ (i : Int) < a.length := by omega
      obtain rfl : i = a.length := by omega
      have hv1 := Hval.out
      rw [List.take_of_length_le (Nat.le_refl _)] at hv1
      have htl : ts.length ≤ 1000000 := by have := Hlts.out; omega
      have hfin : trim0 ts = digS (dval a / dval b) := trim0_digS ts hdt _ hv1
      have Hfin := Lib.hid hfin
      rw [List.take_of_length_le (Nat.le_refl _)]
      clear hfin hv1 Hval
      rcases hts.forms with ⟨rfl, rfl⟩ | ⟨g, cap, rfl⟩
      · have hconv : (convert 89 9 (.slice none 0 0)).run Tryz.prog wr = .ok (.string ⟨#[]⟩) wr := by kernel_rfl
        go_wp2_with fail
        refine (plainR_calls _ [] (by simp)).mono ?_
        rintro e w1 ⟨rfl, rfl⟩
        rw [Hfin.out]
        go_wp2_with fail
        go_ret2
        exact ⟨rfl, hbel⟩
      · have hconv := hts.string
        go_wp2_with fail
        refine (plainR_calls _ ts (by omega)).mono ?_
        rintro e w1 ⟨rfl, rfl⟩
        rw [Hfin.out]
        go_wp2_with fail
        go_ret2
        exact ⟨rfl, hbel⟩
end Go.Proofs.YtkakmjdfecbhaaaGreatDoor
