/- Texts of this claim, joined: JN. -/
import Derived.Test.YtfclfaidmipjpaaGreatDoorVl05
namespace Go.Proofs.YtfclfaidmipjpaaGreatDoor
set_option maxRecDepth 100000
set_option maxHeartbeats 20000000
open Go.Lib (hid)
open Go.RowKit
/-! ### DecM -/
def mag (d : Dec) (e : Int) : Nat := dval d.digits * 10 ^ (d.exp - e).toNat
theorem dval_inj_len : ∀ {a b : List UInt8}, Dig a → Dig b → a.length = b.length → dval a = dval b → a = b := by
 intro a
 induction a with
 | nil => intro b _ _ h _; exact (List.length_eq_zero_iff.1 h.symm).symm
 | cons c t ih =>
  intro b ha hb hl hv
  cases b with
  | nil => simp at hl
  | cons c' t' =>
   have hl' : t.length = t'.length := by simpa using hl
   rw [dval_cons, dval_cons, hl'] at hv
   have h1 := dval_lt (fun x hx => ha x (by simp [hx]) : Dig t)
   have h2 := dval_lt (fun x hx => hb x (by simp [hx]) : Dig t')
   rw [hl'] at h1
   have hc1 := ha c (by simp)
   have hc2 := hb c' (by simp)
   have e1 : c.toNat - 48 = c'.toNat - 48 := by
    have a := congrArg (· / 10 ^ t'.length) hv
    simp only [Nat.mul_comm _ (10 ^ t'.length), Nat.mul_add_div (Nat.pow_pos (by omega : 0 < 10)), Nat.div_eq_of_lt h1, Nat.div_eq_of_lt h2, Nat.add_zero] at a
    exact a
   have e2 : dval t = dval t' := by rw [e1] at hv; omega
   have e3 : c = c' := UInt8.toNat_inj.1 (by omega)
   rw [e3, ih (fun x hx => ha x (by simp [hx])) (fun x hx => hb x (by simp [hx])) hl' e2]
theorem dval_inj {a b : List UInt8} (ha : Dig a) (hb : Dig b) (ta : trim0 a = a) (tb : trim0 b = b) (h : dval a = dval b) : a = b := by
 have key : ∀ {a b : List UInt8}, Dig a → Dig b → trim0 b = b → dval a = dval b → ¬ a.length < b.length := by
  intro a b ha hb tb h hl
  cases b with
  | nil => simp at hl
  | cons c t =>
   have h1 := dval_low hb (trim0_head tb)
   have h2 := dval_lt ha
   have h3 : 10 ^ a.length ≤ 10 ^ t.length := Nat.pow_le_pow_right (by omega) (by simp at hl; omega)
   omega
 have h1 := key ha hb tb h
 have h2 := key hb ha ta h.symm
 exact dval_inj_len ha hb (by omega) h
/-! ### Dec6 -/
theorem whole_calls (w : World) (d : Dec) (hd : d.digits.length ≤ 10000000000) :
  Calls Tryz.prog 107 #[.agg #[.bool d.neg, .string ⟨d.digits.toArray⟩, .int .i64 d.exp]] w fun e w' => e = .returned (.bool (mayB d && decide (0 ≤ d.exp))) ∧ Below w.heap.size w w' := by
 have h1 := hid (DecAt.at w d _ rfl)
 have hbel : Below w.heap.size w (w.alloc (Obj.cells #[Value.bool d.neg, Value.string { data := d.digits.toArray }, Value.int IntKind.i64 d.exp] 26)) := (Below.refl _ _).alloc (Nat.le_refl _) _
 go_enter Tryz.func107, Tryz.ntmps107
 go_wp2_with fail
 refine (check_calls _ d (by omega)).mono ?_
 rintro e w2 ⟨rfl, hb2⟩
 have c2 := (h1.out.under hb2).c2
 have hb3 := hbel.trans (hb2.mono hbel.size)
 cases hm : mayB d with
 | false =>
  have hk : chk d = 2 := by simp [chk, hm]
  rw [hk]
  have Hm := hid hm
  clear hk hm hb2 hbel
  go_wp2_with fail
  go_ret
  exact ⟨by rw [Hm.out]; rfl, hb3⟩
 | true =>
  have hk : chk d = 0 := by simp [chk, hm]
  rw [hk]
  have Hm := hid hm
  clear hk hm hb2 hbel
  go_wp2_with fail
  go_ret
  exact ⟨by rw [Hm.out, Bool.true_and]; rfl, hb3⟩
/-! ### Pla3 -/
def ival (d : Dec) (e : Int) : Int := if d.neg then -(mag d e : Int) else (mag d e : Int)
theorem dval_zeros (l : List UInt8) (k : Nat) : dval (l ++ List.replicate k 48) = dval l * 10 ^ k := by
 induction k with
 | zero => simp
 | succ k ih =>
  rw [List.replicate_succ', ← List.append_assoc, dval_snoc, ih, Nat.pow_succ]
  show 10 * (dval l * 10 ^ k) + (48 - 48) = _
  rw [← Nat.mul_assoc, Nat.mul_comm 10, Nat.mul_right_comm, Nat.mul_assoc]; omega
/-! ### Ref5 -/
theorem bytesLess_dval : ∀ {a b : List UInt8}, Dig a → Dig b → a.length = b.length → Op.bytesLess a b = decide (dval a < dval b) := by
 intro a
 induction a with
 | nil => intro b _ _ h; obtain rfl := List.length_eq_zero_iff.1 h.symm; rfl
 | cons c t ih =>
  intro b ha hb hl
  cases b with
  | nil => simp at hl
  | cons c' t' =>
   have hl' : t.length = t'.length := by simpa using hl
   have ht : Dig t := fun x hx => ha x (by simp [hx])
   have ht' : Dig t' := fun x hx => hb x (by simp [hx])
   have h1 := dval_lt ht
   have h2 := dval_lt ht'
   have hc1 := ha c (by simp)
   have hc2 := hb c' (by simp)
   rw [dval_cons, dval_cons]
   show (decide (c < c') || (c == c' && Op.bytesLess t t')) = _
   rw [ih ht ht' hl']
   rw [hl'] at h1 ⊢
   have hlt : (c < c') ↔ c.toNat < c'.toNat := UInt8.lt_iff_toNat_lt
   have heq : (c == c') = decide (c.toNat = c'.toNat) := by rw [Bool.eq_iff_iff, beq_iff_eq, decide_eq_true_eq, UInt8.toNat_inj]
   rw [heq, Bool.eq_iff_iff]
   simp only [Bool.or_eq_true, Bool.and_eq_true, decide_eq_true_eq, hlt]
   generalize 10 ^ t'.length = p at *
   rcases Nat.lt_trichotomy c.toNat c'.toNat with h | h | h
   ·have : (c.toNat - 48 + 1) * p ≤ (c'.toNat - 48) * p := Nat.mul_le_mul_right _ (by omega)
    rw [Nat.add_mul] at this
    exact ⟨fun _ => by omega, fun _ => .inl h⟩
   ·rw [h]
    exact ⟨fun h3 => by rcases h3 with h3 | h3 <;> omega, fun h3 => .inr ⟨rfl, by omega⟩⟩
   have : (c'.toNat - 48 + 1) * p ≤ (c.toNat - 48) * p := Nat.mul_le_mul_right _ (by omega)
   rw [Nat.add_mul] at this
   exact ⟨fun h3 => by rcases h3 with h3 | h3 <;> omega, fun h3 => by omega⟩
theorem dval_longer {a b : List UInt8} (ha : Dig a) (hb : Dig b) (tb : trim0 b = b) (h : a.length < b.length) : dval a < dval b := by
 cases b with
 | nil => simp at h
 | cons c t =>
  have h1 := dval_low hb (trim0_head tb)
  have h2 := dval_lt ha
  have h3 : 10 ^ a.length ≤ 10 ^ t.length := Nat.pow_le_pow_right (by omega) (by simp at h; omega)
  omega
def cmpN (a b : Nat) : Int := if a < b then -1 else if b < a then 1 else 0
theorem cmpR_calls (w : World) (a b : List UInt8) (ha : Dig a) (hb : Dig b) (ta : trim0 a = a) (tb : trim0 b = b) :
  Calls Tryz.prog 111 #[.string ⟨a.toArray⟩, .string ⟨b.toArray⟩] w fun e w' => e = .returned (.int .i64 (cmpN (dval a) (dval b))) ∧ w = w' := by
 by_cases hl : a.length = b.length
 ·have h1 := bytesLess_dval ha hb hl
  have h2 := bytesLess_dval hb ha hl.symm
  have hl' : ((a.length : Int) != (b.length : Int)) = false := by simp [hl]
  have hc : Hid (cmpN (dval a) (dval b) = if dval a < dval b then -1 else if dval b < dval a then 1 else 0) := rfl
  have heq : dval a = dval b → (a == b) = true := fun h => by rw [beq_iff_eq]; exact dval_inj ha hb ta tb h
  have hne : dval a ≠ dval b → (a == b) = false := fun h => by rw [beq_eq_false_iff_ne]; rintro rfl; exact h rfl
  have Heq := hid heq
  have Hne := hid hne
  clear heq hne hl ha hb ta tb h2
  generalize dval a = x at *
  generalize dval b = y at *
  have H1 := hid h1
  clear h1
  rcases Nat.lt_trichotomy x y with h | h | h
  ·have h1 : Op.bytesLess a b = true := by rw [H1.out, decide_eq_true h]
   have Hf : Hid (cmpN x y = -1) := by show _ = _; rw [hc.out, if_pos h]
   clear H1 Heq Hne hc h
   go_enter Tryz.func111, Tryz.ntmps111
   go_wp2_with fail
   go_ret
   rw [Hf.out]
   exact ⟨rfl, rfl⟩
  ·have h1 : Op.bytesLess a b = false := by rw [H1.out, decide_eq_false (by omega)]
   have h2 := Heq.out h
   have Hf : Hid (cmpN x y = 0) := by show _ = _; rw [hc.out, if_neg (by omega), if_neg (by omega)]
   clear H1 Heq Hne hc h
   go_enter Tryz.func111, Tryz.ntmps111
   go_wp2_with fail
   go_ret
   rw [Hf.out]
   exact ⟨rfl, rfl⟩
  have h1 : Op.bytesLess a b = false := by rw [H1.out, decide_eq_false (by omega)]
  have h2 := Hne.out (by omega)
  have Hf : Hid (cmpN x y = 1) := by show _ = _; rw [hc.out, if_neg (by omega), if_pos h]
  clear H1 Heq Hne hc h
  go_enter Tryz.func111, Tryz.ntmps111
  go_wp2_with fail
  go_ret
  rw [Hf.out]
  exact ⟨rfl, rfl⟩
 ·have hl' : ((a.length : Int) != (b.length : Int)) = true := by rw [bne_iff_ne]; omega
  have hx := dval_longer ha hb tb
  have hy := dval_longer hb ha ta
  have Hx := hid hx
  have Hy := hid hy
  have hc : Hid (cmpN (dval a) (dval b) = if dval a < dval b then -1 else if dval b < dval a then 1 else 0) := rfl
  clear hx hy ha hb ta tb
  by_cases h : a.length < b.length
  ·have h' : (a.length : Int) < b.length := by omega
   have Hf : Hid (cmpN (dval a) (dval b) = -1) := by show _ = _; rw [hc.out, if_pos (Hx.out h)]
   clear Hx Hy hc hl h
   go_enter Tryz.func111, Tryz.ntmps111
   go_wp2_with fail
   go_ret
   rw [Hf.out]
   exact ⟨rfl, rfl⟩
  have h' : ¬ (a.length : Int) < b.length := by omega
  have h9 := Hy.out (by omega)
  have Hf : Hid (cmpN (dval a) (dval b) = 1) := by show _ = _; rw [hc.out, if_neg (by omega), if_pos h9]
  clear Hx Hy hc hl h h9
  go_enter Tryz.func111, Tryz.ntmps111
  go_wp2_with fail
  go_ret
  rw [Hf.out]
  exact ⟨rfl, rfl⟩
/-! ### IntL -/
def intR (d : Dec) : Int × Bool :=
 if mayB d = true ∧ 0 ≤ d.exp ∧ -9223372036854775808 ≤ ival d 0 ∧ ival d 0 ≤ 9223372036854775807 then (ival d 0, true) else (0, false)
theorem intR_no {d : Dec} (h : mayB d = false) : intR d = (0, false) := by unfold intR; rw [if_neg]; simp [h]
theorem intR_below {d : Dec} (h : d.exp < 0) : intR d = (0, false) := by unfold intR; rw [if_neg]; omega
theorem may_dval {d : Dec} (h : mayB d = true) (hne : d.digits ≠ []) : 10 ^ (d.digits.length - 1) ≤ dval d.digits := by
 obtain ⟨c, t, hd, hda, _, hc, _⟩ := may_cons h hne
 rw [hd]
 have h0 := hda c (by simp)
 have hc2 : c.toNat ≠ 48 := fun e => hc (UInt8.toNat_inj.1 e)
 rw [dval_cons]
 have h1 : 1 * 10 ^ t.length ≤ (c.toNat - 48) * 10 ^ t.length := Nat.mul_le_mul_right _ (by omega)
 simp
 omega
theorem pow19_le (a : Nat) (h : 19 ≤ a) : 10000000000000000000 ≤ 10 ^ a := by
 have : (10000000000000000000 : Nat) = 10 ^ 19 := by decide
 rw [this]
 exact Nat.pow_le_pow_right (by omega) h
theorem intR_big {d : Dec} (h : mayB d = true) (h0 : 0 ≤ d.exp) (h1 : 19 < d.digits.length + d.exp) : intR d = (0, false) := by
 have hne : d.digits ≠ [] := by
  intro e
  have := may_nil h e
  rw [this] at h1
  simp [Dec.zero] at h1
 have hv := may_dval h hne
 have hl : 0 < d.digits.length := List.length_pos_iff.2 hne
 have hm : 10 ^ (d.digits.length - 1 + d.exp.toNat) ≤ mag d 0 := by
  unfold mag
  rw [Nat.pow_add, Int.sub_zero]
  exact Nat.mul_le_mul_right _ hv
 have h2 := Nat.le_trans (pow19_le (d.digits.length - 1 + d.exp.toNat) (by omega)) hm
 unfold intR
 rw [if_neg]
 unfold ival
 split <;> omega
theorem intR_nil {d : Dec} (h : mayB d = true) (he : d.digits = []) : intR d = (0, true) ∧ d.exp = 0 := by
 rw [may_nil h he]
 exact ⟨rfl, rfl⟩
def tenS (d : Dec) : List UInt8 := d.digits ++ List.replicate d.exp.toNat 48
theorem tenS_dig {d : Dec} (h : mayB d = true) : Dig (tenS d) ∧ dval (tenS d) = mag d 0 ∧ trim0 (tenS d) = tenS d := by
 unfold tenS
 refine ⟨?_, ?_, ?_⟩
 ·rw [Dig_append]
  refine ⟨?_, Dig_zeros _⟩
  by_cases he : d.digits = []
  ·rw [he]; exact Dig_nil
  obtain ⟨c, t, hd, hda, _⟩ := may_cons h he
  rw [hd]; exact hda
 ·rw [dval_zeros]
  unfold mag
  rw [Int.sub_zero]
 by_cases he : d.digits = []
 ·rw [may_nil h he]; rfl
 obtain ⟨c, t, hd, _, _, hc, _⟩ := may_cons h he
 rw [hd]; exact trim0_same c _ hc
theorem parse_few : ∀ (l : List UInt8) (acc : Nat), Dig l → (acc + 1) * 10 ^ l.length ≤ 10000000000000000000 → Lib.parseUintM 18446744073709551615 acc l = .ok (acc * 10 ^ l.length + dval l) := by
 intro l
 induction l with
 | nil => intro acc _ _; simp [Lib.parseUintM, dval]
 | cons c t ih =>
  intro acc hd hb
  have hc := hd c (by simp)
  have hp : 0 < 10 ^ t.length := Nat.pow_pos (by omega)
  rw [List.length_cons, Nat.pow_succ] at hb
  have hb2 : (acc * 10 + 10) * 10 ^ t.length ≤ 10000000000000000000 := by
   rw [show (acc * 10 + 10) * 10 ^ t.length = (acc + 1) * (10 ^ t.length * 10) by rw [Nat.mul_comm (10 ^ t.length) 10, ← Nat.mul_assoc]; congr 1; omega]
   exact hb
  have hb3 : acc * 10 + 10 ≤ (acc * 10 + 10) * 10 ^ t.length := Nat.le_mul_of_pos_right _ (by omega)
  unfold Lib.parseUintM
  rw [if_pos hc, if_neg (by omega), if_neg (by omega), ih _ (fun x hx => hd x (by simp [hx]))]
  ·rw [dval_cons, List.length_cons, Nat.pow_succ]
   congr 1
   rw [Nat.add_mul, Nat.mul_assoc, Nat.mul_comm 10, Nat.add_assoc]
  refine Nat.le_trans (Nat.mul_le_mul_right _ ?_) hb2
  omega
theorem parse_fits {d : Dec} (h : mayB d = true) (h0 : 0 ≤ d.exp) (h1 : d.digits.length + d.exp ≤ 19) (hne : d.digits ≠ []) :
  Lib.parseIntB 64 ((if d.neg then [45] else []) ++ tenS d) = if (intR d).2 = true then .ok (intR d).1 else .range := by
 obtain ⟨t1, t2, t3⟩ := tenS_dig h
 have hl : (tenS d).length ≤ 19 := by unfold tenS; simp; omega
 have hp : Lib.parseUintB 64 (tenS d) = .ok (mag d 0) := by
  unfold Lib.parseUintB
  rw [if_neg (by unfold tenS; simp [hne])]
  rw [show (2 : Nat) ^ 64 - 1 = 18446744073709551615 from by decide, parse_few _ 0 t1 (by
   have : (10000000000000000000 : Nat) = 10 ^ 19 := by decide
   rw [this, Nat.zero_add, Nat.one_mul]
   exact Nat.pow_le_pow_right (by omega) hl), t2]
  simp
 have e63 : (2 : Nat) ^ (64 - 1) = 9223372036854775808 := by decide
 cases hn : d.neg with
 | true =>
  show Lib.parseIntB 64 (45 :: tenS d) = _
  rw [Lib.parseIntB_minus, hp, e63]
  unfold Lib.signedC intR
  have hi : ival d 0 = -(mag d 0 : Int) := by unfold ival; rw [hn]; rfl
  rw [hi]
  by_cases hb : 9223372036854775808 < mag d 0
  ·rw [if_neg (show ¬ (mayB d = true ∧ _) from by omega)]
   simp [hb]
  have hc : mayB d = true ∧ 0 ≤ d.exp ∧ -9223372036854775808 ≤ -(mag d 0 : Int) ∧ -(mag d 0 : Int) ≤ 9223372036854775807 := ⟨h, h0, by omega, by omega⟩
  rw [if_pos hc]
  simp [hb]
 | false =>
  cases ht : tenS d with
  | nil => exact absurd ht (by unfold tenS; simp [hne])
  | cons c t =>
   have hc := t1 c (by rw [ht]; simp)
   show Lib.parseIntB 64 (c :: t) = _
   rw [Lib.parseIntB_plain _ _ _ (by omega) (by omega), ← ht, hp, e63]
   unfold Lib.signlessC intR
   have hi : ival d 0 = (mag d 0 : Int) := by unfold ival; rw [hn]; rfl
   rw [hi]
   by_cases hb : 9223372036854775808 ≤ mag d 0
   ·rw [if_neg (show ¬ (mayB d = true ∧ _) from by omega)]
    simp [hb]
   have hc : mayB d = true ∧ 0 ≤ d.exp ∧ -9223372036854775808 ≤ (mag d 0 : Int) ∧ (mag d 0 : Int) ≤ 9223372036854775807 := ⟨h, h0, by omega, by omega⟩
   rw [if_pos hc]
   simp [hb]
/-! ### Int1 -/
theorem var_below {P : Program} {B g : Nat} {W W' : World} {n : String} {cs : Array Value} (h : Below B W W') (hg : P.globalNamed n = some g) (hgB : g < B) (hv : W.var? P n = some cs) : W'.var? P n = some cs := by
 unfold World.var? at hv ⊢
 simp only [hg, Option.bind_some] at hv ⊢
 rw [h.block g hgB]
 exact hv
theorem gRange : Tryz.prog.globalNamed "strconv.ErrRange" = some 4 := by kernel_rfl
def RangeV (w : World) : Prop := 4 < w.heap.size ∧ ∃ tp p, w.var? Tryz.prog "strconv.ErrRange" = some #[.iface tp p]
theorem RangeV.below {w w' : World} (h : RangeV w) (hb : Below w.heap.size w w') : RangeV w' := by
 obtain ⟨h1, tp, p, h2⟩ := h
 exact ⟨Nat.lt_of_lt_of_le h1 hb.size, tp, p, var_below hb gRange h1 h2⟩
theorem intR_false {d : Dec} (h : (intR d).2 = false) : (intR d).1 = 0 := by
 unfold intR at h ⊢
 split at h
 ·cases h
 rename_i hn; rw [if_neg hn]
theorem tenS_nil {d : Dec} (h : mayB d = true) (hn : tenS d = []) : intR d = (0, true) := (intR_nil h (by unfold tenS at hn; simpa using (List.append_eq_nil_iff.1 hn).1)).1
theorem tenS_cons {d : Dec} (h : mayB d = true) {c : UInt8} {t : List UInt8} (hn : tenS d = c :: t) : d.digits ≠ [] := by
 intro he
 have := (intR_nil h he).2
 unfold tenS at hn
 rw [he, this] at hn
 cases hn
theorem tenS_neg {d : Dec} (h : mayB d = true) (hn : d.neg = true) : d.digits ≠ [] := fun he => by rw [may_nil h he] at hn; cases hn
theorem tenS_len {d : Dec} : (tenS d).length = d.digits.length + d.exp.toNat := by simp [tenS]
theorem int_calls (w : World) (d : Dec) (hd : d.digits.length ≤ 10000000000) (hv : RangeV w) :
  Calls Tryz.prog 73 #[.agg #[.bool d.neg, .string ⟨d.digits.toArray⟩, .int .i64 d.exp]] w fun e w' => e = .returned (.tuple #[.int .i64 (intR d).1, .bool (intR d).2]) ∧ Below w.heap.size w w' := by
 have h1 := DecAt.at w d _ rfl
 have hbel : Below w.heap.size w (w.alloc (Obj.cells #[Value.bool d.neg, Value.string { data := d.digits.toArray }, Value.int IntKind.i64 d.exp] 26)) := (Below.refl _ _).alloc (Nat.le_refl _) _
 have H1 := hid h1
 have Hv1 := hid (hv.below hbel)
 have c0 := h1.c0
 have c1 := h1.c1
 have c2 := h1.c2
 clear h1 hv
 go_enter Tryz.func73, Tryz.ntmps73
 go_wp2_with fail
 generalize w.alloc (Obj.cells #[Value.bool d.neg, Value.string { data := d.digits.toArray }, Value.int IntKind.i64 d.exp] 26) = w1 at *
 clear c0 c1 c2
 refine (whole_calls _ d hd).mono ?_
 rintro e w2 ⟨rfl, hb2⟩
 have H2 := hid (H1.out.under hb2)
 have Hv2 := hid (Hv1.out.below hb2)
 have hbel2 := hbel.trans (hb2.mono hbel.size)
 clear hb2 hbel H1 Hv1
 have c0 := H2.out.c0
 have c1 := H2.out.c1
 have c2 := H2.out.c2
 by_cases hw : mayB d = true ∧ 0 ≤ d.exp
 ·obtain ⟨hm, he⟩ := hw
  have hwb : (mayB d && decide (0 ≤ d.exp)) = true := by rw [hm, decide_eq_true he]; rfl
  rw [hwb]
  clear hwb
  obtain ⟨hdg, hdl, he1, he2⟩ := may_bounds hm
  by_cases h19 : 19 < (d.digits.length : Int) + d.exp
  ·have HR := hid (intR_big hm he h19)
   clear hm hdg
   go_wp2_with fail
   go_ret2
   exact ⟨by rw [HR.out]; rfl, hbel2⟩
  have hen : d.exp = (d.exp.toNat : Int) := by omega
  have Hen := hid hen
  have htl := tenS_len (d := d)
  have Htl := hid htl
  have Hm := hid hm
  have hen21 : d.exp.toNat ≤ 19 := by omega
  have hlen : (tenS d).length ≤ 19 := by omega
  have hst : ¬ 9223372036854775807 < d.digits.length + d.exp.toNat := by omega
  have hst2 : ¬ 9223372036854775807 < 1 + (tenS d).length := by omega
  have Hp : Hid (d.digits ≠ [] → Lib.parseIntB 64 ((if d.neg then [45] else []) ++ tenS d) = if (intR d).2 = true then .ok (intR d).1 else .range) := parse_fits hm he (by omega)
  have Hnil : Hid (tenS d = [] → intR d = (0, true)) := tenS_nil hm
  have Hcons : Hid (∀ c t, tenS d = c :: t → d.digits ≠ []) := fun c t => tenS_cons hm
  have Hneg : Hid (d.neg = true → d.digits ≠ []) := tenS_neg hm
  have Hrf : Hid ((intR d).2 = false → (intR d).1 = 0) := intR_false
  clear hm hen htl hdg
  go_upto_region 3 with fail
  have hS0 : (fun w' => w'.cell? ⟨w.heap.size, 0, none⟩ = some (.bool d.neg) ∧ w'.cell? ⟨w.heap.size, 1, none⟩ = some (.string ⟨d.digits.toArray⟩) ∧ w'.cell? ⟨w.heap.size, 2, none⟩ = some (.int .i64 d.exp)) w2.drew := ⟨H2.out.drew.c0, H2.out.drew.c1, H2.out.drew.c2⟩
  refine wp_region_held_drew (S := (fun w' => w'.cell? ⟨w.heap.size, 0, none⟩ = some (.bool d.neg) ∧ w'.cell? ⟨w.heap.size, 1, none⟩ = some (.string ⟨d.digits.toArray⟩) ∧ w'.cell? ⟨w.heap.size, 2, none⟩ = some (.int .i64 d.exp))) (by kernel_rfl) hS0 (fun hHeld0 => ?_)
  refine held_ta 0 hHeld0 ?_
  refine held_ta 1 hHeld0 ?_
  refine held_ta 2 hHeld0 ?_
  refine held_ta 3 hHeld0 ?_
  refine held_st 4 rfl (fun K hK => ?_)
  go_simp
  rw [Hen.out]
  refine (Tryz.strings_Repeat ⟨#[48]⟩ d.exp.toNat _ (by omega) (by rw [show (⟨#[48]⟩ : ByteArray).size = 1 from rfl]; omega)).mono ?_
  rintro e w4 ⟨rfl, hb4⟩
  dsimp only
  rw [repeat_eq]
  have H4 := hid (DecAt.under (d := d) (b := w.heap.size) H2.out.drew hb4)
  have Hv4 := hid (RangeV.below (Hv2.out.below (Below.refl _ _).drew) hb4)
  have hbel4 := hbel2.drew.trans (hb4.mono hbel2.size)
  clear hb4
  refine hK.out _ _ ⟨H4.out.c0, H4.out.c1, H4.out.c2⟩ (fun hHeld1 => ?_)
  clear hK K hHeld0
  refine held_ta 5 hHeld1 ?_
  refine held_ta 6 hHeld1 ?_
  refine wpAnyH_done (by kernel_rfl) ?_ _
  clear hHeld1
  clear c0 c1 c2 hS0 H2 Hv2 hbel2
  rw [bytes_app, Array.toList_replicate, show d.digits ++ List.replicate d.exp.toNat 48 = tenS d from rfl]
  have c0 := H4.out.c0
  clear H4 Hen Htl hst hen21
  generalize tenS d = s at *
  generalize hr : intR d = r at *
  have HR := hid hr
  clear hr
  obtain ⟨z, ok⟩ := r
  simp only at *
  obtain ⟨tp, pv, hvar⟩ := Hv4.out.2
  have Hvar := hid hvar
  clear hvar Hv4
  by_cases hn : d.neg = true
  ·have hp2 := Hp.out (Hneg.out hn)
   rw [hn] at hp2 c0
   have Hpp : Hid (Lib.parseIntB 64 (45 :: s) = if ok = true then .ok z else .range) := hp2
   clear hp2 hn Hp Hnil Hcons Hneg
   go_upto_region 6 with fail
   rw [show ((⟨#[45]⟩ : ByteArray) ++ ⟨s.toArray⟩) = ⟨(45 :: s).toArray⟩ from bytes_app [45] s]
   go_wp2_with fail
   cases ok with
   | true =>
    refine (Tryz.strconv_ParseInt_10_at64_ok ⟨(45 :: s).toArray⟩ (by simp [ByteArray.size]; omega) z Hpp.out _).mono ?_
    rintro e w5 ⟨rfl, hw5⟩
    have hb5 : Below w4.heap.size w4 w5 := by
     rcases hw5 with rfl | ⟨t5, rfl⟩
     ·exact Below.refl _ _
     exact Joins.below_bytesWorld _ _ _ _ (Nat.le_refl _)
    have hbf := hbel4.trans (hb5.mono hbel4.size)
    clear hw5 hb5 hbel4
    go_wp2_with fail
    go_ret2
    exact ⟨by rw [HR.out]; rfl, hbf⟩
   | false =>
    have hz := Hrf.out rfl
    subst hz
    refine (Tryz.strconv_ParseInt_10_at64_range_var ⟨(45 :: s).toArray⟩ (by simp [ByteArray.size]; omega) Hpp.out tp pv _ Hvar.out).mono ?_
    rintro e w5 ⟨N5, rfl, -, -, hb5⟩
    have hbf := hbel4.trans (hb5.mono hbel4.size)
    clear hb5 hbel4
    go_wp2_with fail
    go_ret2
    exact ⟨by rw [HR.out]; rfl, hbf⟩
  have hn2 : d.neg = false := by simpa using hn
  clear hn
  rw [hn2] at c0
  cases s with
  | nil =>
   obtain ⟨rfl, rfl⟩ := Prod.mk.inj (Hnil.out rfl)
   clear Hp Hnil Hcons Hneg Hrf
   go_wp2_with fail
   go_ret2
   exact ⟨by rw [HR.out]; rfl, hbel4⟩
  | cons c t =>
   simp only [List.length_cons] at hlen hst2
   have hp2 := Hp.out (Hcons.out c t rfl)
   rw [hn2] at hp2
   have Hpp : Hid (Lib.parseIntB 64 (c :: t) = if ok = true then .ok z else .range) := hp2
   clear hp2 hn2 Hp Hnil Hcons Hneg
   go_wp2_with fail
   cases ok with
   | true =>
    refine (Tryz.strconv_ParseInt_10_at64_ok ⟨(c :: t).toArray⟩ (by simp [ByteArray.size]; omega) z Hpp.out _).mono ?_
    rintro e w5 ⟨rfl, hw5⟩
    have hb5 : Below w4.heap.size w4 w5 := by
     rcases hw5 with rfl | ⟨t5, rfl⟩
     ·exact Below.refl _ _
     exact Joins.below_bytesWorld _ _ _ _ (Nat.le_refl _)
    have hbf := hbel4.trans (hb5.mono hbel4.size)
    clear hw5 hb5 hbel4
    go_wp2_with fail
    go_ret2
    exact ⟨by rw [HR.out]; rfl, hbf⟩
   | false =>
    have hz := Hrf.out rfl
    subst hz
    refine (Tryz.strconv_ParseInt_10_at64_range_var ⟨(c :: t).toArray⟩ (by simp [ByteArray.size]; omega) Hpp.out tp pv _ Hvar.out).mono ?_
    rintro e w5 ⟨N5, rfl, -, -, hb5⟩
    have hbf := hbel4.trans (hb5.mono hbel4.size)
    clear hb5 hbel4
    go_wp2_with fail
    go_ret2
    exact ⟨by rw [HR.out]; rfl, hbf⟩
 ·have hwb : (mayB d && decide (0 ≤ d.exp)) = false := by
   rw [Bool.and_eq_false_iff]
   by_cases hm : mayB d = true
   ·exact .inr (decide_eq_false (fun h => hw ⟨hm, h⟩))
   ·exact .inl (by simpa using hm)
  have hr : intR d = (0, false) := by
   unfold intR
   rw [if_neg (fun h => hw ⟨h.1, h.2.1⟩)]
  rw [hwb]
  have HR := hid hr
  clear hwb hw hr
  go_wp2_with fail
  go_ret2
  exact ⟨by rw [HR.out]; rfl, hbel2⟩
/-! ### Int2 -/
theorem dval_take_le (l : List UInt8) (j : Nat) : dval (l.take j) ≤ dval l := by
 have h := dval_append (l.take j) (l.drop j)
 rw [List.take_append_drop] at h
 have h2 : dval (l.take j) * 1 ≤ dval (l.take j) * 10 ^ (l.drop j).length := Nat.mul_le_mul_left _ (Nat.pow_pos (by omega))
 omega
theorem intR_neg {d : Dec} (hm : mayB d = true) (he : 0 ≤ d.exp) (hn : d.neg = true) : intR d = if mag d 0 ≤ 9223372036854775808 then (-(mag d 0 : Int), true) else (0, false) := by
 have hi : ival d 0 = -(mag d 0 : Int) := by unfold ival; rw [hn]; rfl
 unfold intR
 rw [hi]
 by_cases hb : mag d 0 ≤ 9223372036854775808
 ·have hc : mayB d = true ∧ 0 ≤ d.exp ∧ -9223372036854775808 ≤ -(mag d 0 : Int) ∧ -(mag d 0 : Int) ≤ 9223372036854775807 := ⟨hm, he, by omega, by omega⟩
  rw [if_pos hc, if_pos hb]
 rw [if_neg hb, if_neg (by omega)]
theorem intR_pos {d : Dec} (hm : mayB d = true) (he : 0 ≤ d.exp) (hn : d.neg = false) : intR d = if mag d 0 ≤ 9223372036854775807 then ((mag d 0 : Int), true) else (0, false) := by
 have hi : ival d 0 = (mag d 0 : Int) := by unfold ival; rw [hn]; rfl
 unfold intR
 rw [hi]
 by_cases hb : mag d 0 ≤ 9223372036854775807
 ·have hc : mayB d = true ∧ 0 ≤ d.exp ∧ -9223372036854775808 ≤ (mag d 0 : Int) ∧ (mag d 0 : Int) ≤ 9223372036854775807 := ⟨hm, he, by omega, by omega⟩
  rw [if_pos hc, if_pos hb]
 rw [if_neg hb, if_neg (by omega)]
def most7 : List UInt8 := [57, 50, 50, 51, 51, 55, 50, 48, 51, 54, 56, 53, 52, 55, 55, 53, 56, 48, 55]
def most8 : List UInt8 := [57, 50, 50, 51, 51, 55, 50, 48, 51, 54, 56, 53, 52, 55, 55, 53, 56, 48, 56]
theorem most7_dig : Dig most7 ∧ trim0 most7 = most7 ∧ dval most7 = 9223372036854775807 := ⟨(digAll_iff _).1 (by kernel_rfl), by kernel_rfl, by kernel_rfl⟩
theorem most8_dig : Dig most8 ∧ trim0 most8 = most8 ∧ dval most8 = 9223372036854775808 := ⟨(digAll_iff _).1 (by kernel_rfl), by kernel_rfl, by kernel_rfl⟩
theorem cmpN_le {a b : Nat} (h : a ≤ b) : cmpN a b ≤ 0 := by unfold cmpN; split <;> (try split) <;> omega
theorem cmpN_gt {a b : Nat} (h : ¬ a ≤ b) : 0 < cmpN a b := by unfold cmpN; split <;> (try split) <;> omega
theorem intR_calls (w : World) (d : Dec) (hd : d.digits.length ≤ 10000000000) :
  Calls Tryz.prog 75 #[.agg #[.bool d.neg, .string ⟨d.digits.toArray⟩, .int .i64 d.exp]] w fun e w' => e = .returned (.tuple #[.int .i64 (intR d).1, .bool (intR d).2]) ∧ Below w.heap.size w w' := by
 have h1 := DecAt.at w d _ rfl
 have hbel : Below w.heap.size w (w.alloc (Obj.cells #[Value.bool d.neg, Value.string { data := d.digits.toArray }, Value.int IntKind.i64 d.exp] 26)) := (Below.refl _ _).alloc (Nat.le_refl _) _
 have H1 := hid h1
 have c0 := h1.c0
 have c1 := h1.c1
 have c2 := h1.c2
 clear h1
 go_enter Tryz.func75, Tryz.ntmps75
 go_wp2_with fail
 generalize w.alloc (Obj.cells #[Value.bool d.neg, Value.string { data := d.digits.toArray }, Value.int IntKind.i64 d.exp] 26) = w1 at *
 clear c0 c1 c2
 refine (mayR_calls _ d (by omega)).mono ?_
 rintro e w2 ⟨rfl, hb2⟩
 have H2 := hid (H1.out.under hb2)
 have hbel2 := hbel.trans (hb2.mono hbel.size)
 clear hb2 hbel H1
 have c0 := H2.out.c0
 have c1 := H2.out.c1
 have c2 := H2.out.c2
 cases hm : mayB d with
 | false =>
  have HR := hid (intR_no hm)
  clear hm
  go_wp2_with fail
  go_ret2
  exact ⟨by rw [HR.out]; rfl, hbel2⟩
 | true =>
  by_cases he0 : d.exp < 0
  ·have HR := hid (intR_below he0)
   clear hm
   go_wp2_with fail
   go_ret2
   exact ⟨by rw [HR.out]; rfl, hbel2⟩
  have he : 0 ≤ d.exp := by omega
  by_cases h20 : 20 < d.exp
  ·have HR := hid (intR_big hm he (by omega))
   clear hm
   go_wp2_with fail
   go_ret2
   exact ⟨by rw [HR.out]; rfl, hbel2⟩
  obtain ⟨hdg, hdl, he1, he2⟩ := may_bounds hm
  obtain ⟨t1, t2, t3⟩ := tenS_dig hm
  have T1 := hid t1
  have T2 := hid t2
  have T3 := hid t3
  have htl := tenS_len (d := d)
  have hlen : (tenS d).length ≤ 120 := by omega
  have hst : ¬ 9223372036854775807 < d.digits.length + d.exp.toNat := by omega
  have Hneg : Hid (d.neg = true → intR d = if mag d 0 ≤ 9223372036854775808 then (-(mag d 0 : Int), true) else (0, false)) := intR_neg hm he
  have Hpos : Hid (d.neg = false → intR d = if mag d 0 ≤ 9223372036854775807 then ((mag d 0 : Int), true) else (0, false)) := intR_pos hm he
  clear hm htl t1 t2 t3 hdg
  go_upto_region 3 with fail
  have hS0 : (fun w' => w'.cell? ⟨w.heap.size, 0, none⟩ = some (.bool d.neg) ∧ w'.cell? ⟨w.heap.size, 1, none⟩ = some (.string ⟨d.digits.toArray⟩) ∧ w'.cell? ⟨w.heap.size, 2, none⟩ = some (.int .i64 d.exp)) w2.drew := ⟨H2.out.drew.c0, H2.out.drew.c1, H2.out.drew.c2⟩
  refine wp_region_held_drew (S := (fun w' => w'.cell? ⟨w.heap.size, 0, none⟩ = some (.bool d.neg) ∧ w'.cell? ⟨w.heap.size, 1, none⟩ = some (.string ⟨d.digits.toArray⟩) ∧ w'.cell? ⟨w.heap.size, 2, none⟩ = some (.int .i64 d.exp))) (by kernel_rfl) hS0 (fun hHeld0 => ?_)
  refine held_ta 0 hHeld0 ?_
  refine held_ta 1 hHeld0 ?_
  refine held_ta 2 hHeld0 ?_
  refine held_ta 3 hHeld0 ?_
  refine held_st 4 rfl (fun K hK => ?_)
  go_simp
  refine (noughtsR_calls _ d.exp (by omega) (by omega)).mono ?_
  rintro e w4 ⟨rfl, hb4⟩
  dsimp only
  have H4 := hid (DecAt.under (d := d) (b := w.heap.size) H2.out.drew hb4)
  have hbel4 := hbel2.drew.trans (hb4.mono hbel2.size)
  clear hb4
  refine hK.out _ _ ⟨H4.out.c0, H4.out.c1, H4.out.c2⟩ (fun hHeld1 => ?_)
  clear hK K hHeld0
  refine held_ta 5 hHeld1 ?_
  refine held_ta 6 hHeld1 ?_
  refine wpAnyH_done (by kernel_rfl) ?_ _
  clear hHeld1
  clear c0 c1 c2 hS0 H2 hbel2
  rw [bytes_app, Array.toList_replicate, show d.digits ++ List.replicate d.exp.toNat 48 = tenS d from rfl]
  have c0 := H4.out.c0
  clear H4 hst
  generalize tenS d = s at *
  generalize mag d 0 = mg at *
  have hnn : d.neg = true ∨ d.neg = false := by cases d.neg <;> simp
  rcases hnn with hn | hn
  ·
   have Hin := hid (Hneg.out hn)
   rw [hn] at c0
   clear Hneg Hpos hn
   go_wp2_with fail
   obtain ⟨m1, m2, m3⟩ := most8_dig
   have M3 := hid m3
   refine (cmpR_calls w4 s most8 T1.out m1 T3.out m2).mono ?_
   rintro e w5 ⟨rfl, rfl⟩
   rw [T2.out, M3.out]
   clear m1 m2 m3 M3 T3
   by_cases hb : mg ≤ 9223372036854775808
   ·
    have hcz := cmpN_le hb
    have HR : Hid (intR d = (-(mg : Int), true)) := by show _ = _; rw [Hin.out, if_pos hb]
    clear Hin
    generalize cmpN mg 9223372036854775808 = cz at *
    have hcz2 : ¬ 0 < cz := by omega
    have hcz3 : decide (0 < cz) = false := by simp; omega
    clear hcz
    go_wp2_with fail
    clear hcz2 hcz3
    go_loopg [6, 7] s.length (fun k n i wr => ∃ j : Nat, k = s.length - j ∧ j ≤ s.length ∧ i = .int .i64 j ∧ n = .int .i64 (-(dval (s.take j) : Int)) ∧ w4 = wr)
    case atStart => exact ⟨0, rfl, by omega, rfl, rfl, rfl⟩
    obtain ⟨j, hk, hj, rfl, rfl, rfl⟩ := hrel
    have Hk := hid hk
    clear hk
    by_cases hlt : j < s.length
    ·
     have hlt2 : (j : Int) < s.length := by omega
     have hij := may_at s j hlt
     have hts := congrArg dval (take_snoc8 s j hlt)
     rw [dval_snoc] at hts
     have hle := dval_take_le s (j + 1)
     rw [T2.out, hts] at hle
     have hdc := Dig_getD T1.out j hlt
     have Hts := hid hts
     clear hts
     generalize s.getD j 0 = c at *
     generalize dval (s.take j) = v at *
     obtain ⟨hd1, hd2⟩ := hdc
     have hv1 : (10 * v + c.toNat : Int) ≤ 9223372036854775808 + 48 := by omega
     have hv2 : (v : Int) ≤ 922337203685477580 := by omega
     clear hle
     go_wp2_with fail
     go_roundg (s.length - (j + 1))
     case measure => have := Hk.out; omega
     exact ⟨j + 1, rfl, by omega, by go_num, by rw [Hts.out]; congr 1; omega, rfl⟩
    obtain rfl : j = s.length := by omega
    rw [List.take_of_length_le (Nat.le_refl _), T2.out]
    clear hlt hj Hk
    have hmb : (mg : Int) ≤ 9223372036854775808 := by omega
    clear hb
    go_wp2_with fail
    go_ret2
    exact ⟨by rw [HR.out]; first | rfl | (simp; done), hbel4⟩
   have hcz := cmpN_gt hb
   have HR : Hid (intR d = (0, false)) := by show _ = _; rw [Hin.out, if_neg hb]
   clear Hin
   generalize cmpN mg 9223372036854775808 = cz at *
   have hcz3 : decide (0 < cz) = true := by simp; omega
   go_wp2_with fail
   go_ret2
   exact ⟨by rw [HR.out]; rfl, hbel4⟩
  have Hin := hid (Hpos.out hn)
  rw [hn] at c0
  clear Hneg Hpos hn
  go_wp2_with fail
  obtain ⟨m1, m2, m3⟩ := most7_dig
  have M3 := hid m3
  refine (cmpR_calls w4 s most7 T1.out m1 T3.out m2).mono ?_
  rintro e w5 ⟨rfl, rfl⟩
  rw [T2.out, M3.out]
  clear m1 m2 m3 M3 T3
  by_cases hb : mg ≤ 9223372036854775807
  ·
   have hcz := cmpN_le hb
   have HR : Hid (intR d = ((mg : Int), true)) := by show _ = _; rw [Hin.out, if_pos hb]
   clear Hin
   generalize cmpN mg 9223372036854775807 = cz at *
   have hcz2 : ¬ 0 < cz := by omega
   have hcz3 : decide (0 < cz) = false := by simp; omega
   clear hcz
   go_wp2_with fail
   clear hcz2 hcz3
   go_loopg [6, 7] s.length (fun k n i wr => ∃ j : Nat, k = s.length - j ∧ j ≤ s.length ∧ i = .int .i64 j ∧ n = .int .i64 (-(dval (s.take j) : Int)) ∧ w4 = wr)
   case atStart => exact ⟨0, rfl, by omega, rfl, rfl, rfl⟩
   obtain ⟨j, hk, hj, rfl, rfl, rfl⟩ := hrel
   have Hk := hid hk
   clear hk
   by_cases hlt : j < s.length
   ·
    have hlt2 : (j : Int) < s.length := by omega
    have hij := may_at s j hlt
    have hts := congrArg dval (take_snoc8 s j hlt)
    rw [dval_snoc] at hts
    have hle := dval_take_le s (j + 1)
    rw [T2.out, hts] at hle
    have hdc := Dig_getD T1.out j hlt
    have Hts := hid hts
    clear hts
    generalize s.getD j 0 = c at *
    generalize dval (s.take j) = v at *
    obtain ⟨hd1, hd2⟩ := hdc
    have hv1 : (10 * v + c.toNat : Int) ≤ 9223372036854775808 + 48 := by omega
    have hv2 : (v : Int) ≤ 922337203685477580 := by omega
    clear hle
    go_wp2_with fail
    go_roundg (s.length - (j + 1))
    case measure => have := Hk.out; omega
    exact ⟨j + 1, rfl, by omega, by go_num, by rw [Hts.out]; congr 1; omega, rfl⟩
   obtain rfl : j = s.length := by omega
   rw [List.take_of_length_le (Nat.le_refl _), T2.out]
   clear hlt hj Hk
   have hmb : (mg : Int) ≤ 9223372036854775807 := by omega
   clear hb
   go_wp2_with fail
   go_ret2
   exact ⟨by rw [HR.out]; first | rfl | (simp; done), hbel4⟩
  have hcz := cmpN_gt hb
  have HR : Hid (intR d = (0, false)) := by show _ = _; rw [Hin.out, if_neg hb]
  clear Hin
  generalize cmpN mg 9223372036854775807 = cz at *
  have hcz3 : decide (0 < cz) = true := by simp; omega
  go_wp2_with fail
  go_ret2
  exact ⟨by rw [HR.out]; rfl, hbel4⟩
end Go.Proofs.YtfclfaidmipjpaaGreatDoor
