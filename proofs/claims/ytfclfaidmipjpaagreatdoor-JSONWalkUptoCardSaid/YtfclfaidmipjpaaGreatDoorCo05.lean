/- Texts of this claim, joined: JD. -/
import Derived.Test.YtfclfaidmipjpaaGreatDoorCo01
import Derived.Test.YtfclfaidmipjpaaGreatDoorCo02
namespace Go.Proofs.YtfclfaidmipjpaaGreatDoor
set_option maxRecDepth 100000
set_option maxHeartbeats 20000000
open Go.Lib (hid)
open Go.RowKit
/-! ### Nat6 -/
theorem bytesWorld_below (w : World) (e : TypeId) (s : ByteArray) : Below w.heap.size w (Lib.bytesWorld w e s) :=
 ⟨rfl, rfl, rfl, by rw [Lib.bytesWorld_size]; omega, fun k hk => Lib.bytesWorld_at_old w e s k hk⟩
/-! ### Dec1 -/
theorem digit_calls (w : World) (c : UInt8) :
  Calls Tryz.prog 141 #[.int .u8 (c.toNat : Int)] w fun e w' => e = .returned (.bool (digB c)) ∧ w = w' := by
 have hc : (c.toNat : Int) ≤ 255 := by have := c.toNat_lt; omega
 by_cases h1 : 48 ≤ c.toNat
 ·have h1' : decide ((48 : Int) ≤ (c.toNat : Int)) = true := by simp; omega
  by_cases h2 : c.toNat ≤ 57
  ·have h3 : digB c = true := (digB_iff c).2 ⟨h1, h2⟩
   rw [h3]
   have h2' : decide ((c.toNat : Int) ≤ 57) = true := by simp; omega
   clear h3
   go_enter Tryz.func141, Tryz.ntmps141
   go_wp2
   go_ret
   exact ⟨rfl, rfl⟩
  have h3 : digB c = false := by simp [digB, h2]
  rw [h3]
  have h2' : decide ((c.toNat : Int) ≤ 57) = false := by simp; omega
  clear h3
  go_enter Tryz.func141, Tryz.ntmps141
  go_wp2
  go_ret
  exact ⟨rfl, rfl⟩
 ·have h3 : digB c = false := by simp [digB, h1]
  rw [h3]
  have h1' : decide ((48 : Int) ≤ (c.toNat : Int)) = false := by simp; omega
  clear h3
  go_enter Tryz.func141, Tryz.ntmps141
  go_wp2
  go_ret
  exact ⟨rfl, rfl⟩
theorem nodigit_calls (w : World) (c : UInt8) :
  Calls Tryz.prog 140 #[.int .u8 (c.toNat : Int)] w fun e w' => e = .returned (.bool (!digB c)) ∧ w = w' := by
 go_enter Tryz.func140, Tryz.ntmps140
 go_wp2_with fail
 refine (digit_calls w c).mono ?_
 rintro e w1 ⟨rfl, rfl⟩
 go_wp2
 go_ret
 exact ⟨rfl, rfl⟩
theorem indexFunc_calls (w : World) (g cap : Nat) (l : List UInt8) (hl : l.length ≤ 1000000000000) (hc : ∀ j, j < l.length → w.cell? ⟨g, j, none⟩ = some (.int .u8 ((l.getD j 0).toNat : Int))) :
  Calls Tryz.prog 189 #[.slice (some ⟨g, 0, none⟩) l.length cap, .func (.func 140) #[] #[]] w fun e w' => ∃ r : Int, e = .returned (.int .i64 r) ∧ decide (0 ≤ r) = !digAll l ∧ w = w' := by
 have Hc := hid hc
 clear hc
 go_enter Tryz.func189, Tryz.ntmps189
 go_wp2
 go_loopg [8] l.length (fun k i wr => ∃ j : Nat, k = l.length - j ∧ j ≤ l.length ∧ i = .int .i64 j ∧ digAll (l.take j) = true ∧ w = wr)
 case atStart => exact ⟨0, rfl, by omega, rfl, rfl, rfl⟩
 case round =>
  obtain ⟨j, hk, hj, rfl, hd, rfl⟩ := hrel
  have Hk := hid hk
  have Hd := hid hd
  clear hk hd
  by_cases hlt : j < l.length
  ·have c1 := Hc.out j hlt
   have hlt' : (j : Int) < l.length := by omega
   have hts := take_snoc8 l j hlt
   have Hts := hid hts
   clear hts
   cases hb : digB (l.getD j 0) with
   | true =>
    have Hb := hid hb
    clear hb
    generalize l.getD j 0 = c at *
    go_wp2_with fail
    refine (nodigit_calls w c).mono ?_
    rintro e w1 ⟨rfl, rfl⟩
    rw [Hb.out]
    go_wp2_with fail
    go_roundg (l.length - (j + 1))
    case measure => have := Hk.out; omega
    have h1 := Hd.out
    refine ⟨j + 1, rfl, by omega, by go_num, ?_, rfl⟩
    rw [Hts.out]
    simp only [digAll, List.all_append] at h1 ⊢
    rw [h1]; simp [Hb.out]
   | false =>
    have hall : digAll l = false := by
     simp only [digAll, List.all_eq_false]
     exact ⟨_, List.getElem_mem hlt, by have e : l.getD j 0 = l[j] := by simp [hlt]
                                        rw [← e, hb]; simp⟩
    have Hb := hid hb
    have Hall := hid hall
    clear hb hall
    generalize l.getD j 0 = c at *
    go_wp2_with fail
    refine (nodigit_calls w c).mono ?_
    rintro e w1 ⟨rfl, rfl⟩
    rw [Hb.out]
    go_wp2_with fail
    go_ret
    exact ⟨j, rfl, by rw [Hall.out]; simp, rfl⟩
  obtain rfl : j = l.length := by omega
  go_wp2
  go_ret
  have := Hd.out
  rw [List.take_of_length_le (Nat.le_refl _)] at this
  exact ⟨-1, rfl, by rw [this]; rfl, rfl⟩
theorem containsFunc_calls (w : World) (g cap : Nat) (l : List UInt8) (hl : l.length ≤ 1000000000000) (hc : ∀ j, j < l.length → w.cell? ⟨g, j, none⟩ = some (.int .u8 ((l.getD j 0).toNat : Int))) :
  Calls Tryz.prog 139 #[.slice (some ⟨g, 0, none⟩) l.length cap, .func (.func 140) #[] #[]] w fun e w' => e = .returned (.bool (!digAll l)) ∧ w = w' := by
 have Hc := hid hc
 clear hc
 go_enter Tryz.func139, Tryz.ntmps139
 go_wp2_with fail
 refine (indexFunc_calls w g cap l hl Hc.out).mono ?_
 rintro e w1 ⟨r, rfl, hr, rfl⟩
 have Hr := hid hr
 clear hr
 go_wp2
 go_ret
 exact ⟨by rw [← Hr.out]; rfl, rfl⟩
def DecV (d : Dec) : Value := .agg #[.bool d.neg, .string ⟨d.digits.toArray⟩, .int .i64 d.exp]
theorem check_zero (w : World) :
  Calls Tryz.prog 100 #[.agg #[.bool false, .string ⟨#[]⟩, .int .i64 0]] w fun e w' => e = .returned (.int .i64 0) ∧ Below w.heap.size w w' := by
 go_enter Tryz.func100, Tryz.ntmps100
 go_wp2
 go_ret
 exact ⟨rfl, by go_grown⟩
theorem check_neg (w : World) (exp : Int) :
  Calls Tryz.prog 100 #[.agg #[.bool true, .string ⟨#[]⟩, .int .i64 exp]] w fun e w' => e = .returned (.int .i64 2) ∧ Below w.heap.size w w' := by
 go_enter Tryz.func100, Tryz.ntmps100
 go_wp2
 go_ret
 exact ⟨rfl, by go_grown⟩
theorem check_exp (w : World) (exp : Int) (h : exp ≠ 0) :
  Calls Tryz.prog 100 #[.agg #[.bool false, .string ⟨#[]⟩, .int .i64 exp]] w fun e w' => e = .returned (.int .i64 2) ∧ Below w.heap.size w w' := by
 have h1 : (exp == 0) = false := by simp [h]
 go_enter Tryz.func100, Tryz.ntmps100
 go_wp2
 go_ret
 exact ⟨rfl, by go_grown⟩
theorem check_cons (w : World) (neg : Bool) (c : UInt8) (t : List UInt8) (exp r : Int) (hsz : t.length ≤ 100000000000)
  (h : (r = 0 ∧ digAll (c :: t) = true ∧ t.length + 1 ≤ 100 ∧ c.toNat ≠ 48 ∧ ((c :: t).getD t.length 0).toNat ≠ 48 ∧ -1000 ≤ exp ∧ exp ≤ 1000) ∨
   (r = 2 ∧ (digAll (c :: t) = false ∨ 100 < t.length + 1 ∨ c.toNat = 48 ∨ ((c :: t).getD t.length 0).toNat = 48 ∨ exp < -1000 ∨ 1000 < exp))) :
  Calls Tryz.prog 100 #[.agg #[.bool neg, .string ⟨(c :: t).toArray⟩, .int .i64 exp]] w fun e w' => e = .returned (.int .i64 r) ∧ Below w.heap.size w w' := by
 have kc : ∀ (w : World) (s : ByteArray), (convert 9 22 (.string s)).run Tryz.prog w = .ok (.slice (some ⟨w.heap.size, 0, none⟩) s.size (grownCap w s.size 0 5)) (Lib.bytesWorld w 5 s) :=
  fun w s => Lib.run_convert_string_bytes w 9 22 5 s Tryz.underlying9 Tryz.underlying22 Tryz.underlying5
 obtain ⟨x, hx⟩ : ∃ x, x = (c :: t).getD t.length 0 := ⟨_, rfl⟩
 rw [← hx] at h
 have hi0 : (⟨(c :: t).toArray⟩ : ByteArray)[0]'(by simp [ByteArray.size]) = c := rfl
 have hiL : (⟨(c :: t).toArray⟩ : ByteArray)[t.length]'(by simp [ByteArray.size]) = x := by
  rw [hx]; show (c :: t).toArray[t.length]'(by simp) = _; simp
 have H := hid h
 clear h hx
 go_enter Tryz.func100, Tryz.ntmps100
 go_wp2_with fail
 refine (containsFunc_calls _ _ _ (c :: t) (by simp; omega) (fun j hj => by
  have := Lib.bytesWorld_cell (w.alloc (Obj.cells #[Value.bool neg, Value.string { data := (c :: t).toArray }, Value.int IntKind.i64 exp] 26)) 5 ⟨(c :: t).toArray⟩ j (by simpa [ByteArray.size] using hj)
  simpa using this)).mono ?_
 rintro e w1 ⟨rfl, rfl⟩
 have hb1 := bytesWorld_below (w.alloc (Obj.cells #[Value.bool neg, Value.string { data := (c :: t).toArray }, Value.int IntKind.i64 exp] 26)) 5 ⟨(c :: t).toArray⟩
 have hb : Below w.heap.size w (Lib.bytesWorld (w.alloc (Obj.cells #[Value.bool neg, Value.string { data := (c :: t).toArray }, Value.int IntKind.i64 exp] 26)) 5 ⟨(c :: t).toArray⟩) :=
  ((Below.refl _ _).alloc (Nat.le_refl _) _).trans (hb1.mono (by simp))
 have c1 := hb1.cell (p := ⟨w.heap.size, 1, none⟩) (by simp)
 have c2 := hb1.cell (p := ⟨w.heap.size, 2, none⟩) (by simp)
 rw [World.cell?_alloc_at _ _ _ _ rfl] at c1 c2
 clear hb1
 generalize Lib.bytesWorld (w.alloc (Obj.cells #[Value.bool neg, Value.string { data := (c :: t).toArray }, Value.int IntKind.i64 exp] 26)) 5 ⟨(c :: t).toArray⟩ = wb at *
 clear kc
 go_wp2_with fail
 all_goals
  go_ret
  refine ⟨?_, hb⟩
  rcases H.out with ⟨h0, h1, h2, h3, h4, h5, h6⟩ | ⟨h0, h1⟩
 all_goals first
  | (rw [h0]; rfl)
  | (exfalso; simp_all; done)
  | (exfalso; omega)
  | (exfalso; simp_all; omega)
theorem toNat_ne (c : UInt8) : c.toNat ≠ 48 ↔ (!(c == 48)) = true := by
 simp only [Bool.not_eq_true', beq_eq_false_iff_ne, ne_eq, ← UInt8.toNat_inj]; rfl
theorem check_calls (w : World) (d : Dec) (hsz : d.digits.length ≤ 100000000000) :
  Calls Tryz.prog 100 #[.agg #[.bool d.neg, .string ⟨d.digits.toArray⟩, .int .i64 d.exp]] w fun e w' => e = .returned (.int .i64 (chk d)) ∧ Below w.heap.size w w' := by
 obtain ⟨neg, digits, exp⟩ := d
 cases digits with
 | nil =>
  cases neg with
  | true => exact check_neg w exp
  | false =>
   by_cases h : exp = 0
   ·subst h; exact check_zero w
   have : chk ⟨false, [], exp⟩ = 2 := by simp [chk, mayB, h]
   rw [this]; exact check_exp w exp h
 | cons c t =>
  refine check_cons w neg c t exp _ (by simp at hsz; omega) ?_
  cases h : mayB ⟨neg, c :: t, exp⟩ with
  | true =>
   left
   refine ⟨by simp [chk, h], ?_⟩
   simp only [mayB, Bool.and_eq_true, decide_eq_true_eq] at h
   obtain ⟨⟨⟨⟨⟨h1, h2⟩, h3⟩, h4⟩, h5⟩, h6⟩ := h
   exact ⟨h1, h2, (toNat_ne _).2 h3, (toNat_ne _).2 h4, h5, h6⟩
  | false =>
   right
   refine ⟨by simp [chk, h], ?_⟩
   by_cases h1 : digAll (c :: t) = false
   ·exact .inl h1
   by_cases h2 : 100 < t.length + 1
   ·exact .inr (.inl h2)
   by_cases h3 : c.toNat = 48
   ·exact .inr (.inr (.inl h3))
   by_cases h4 : ((c :: t).getD t.length 0).toNat = 48
   ·exact .inr (.inr (.inr (.inl h4)))
   by_cases h5 : exp < -1000
   ·exact .inr (.inr (.inr (.inr (.inl h5))))
   by_cases h6 : 1000 < exp
   ·exact .inr (.inr (.inr (.inr (.inr h6))))
   exfalso
   have : mayB ⟨neg, c :: t, exp⟩ = true := by
    simp only [mayB, Bool.and_eq_true, decide_eq_true_eq]
    exact ⟨⟨⟨⟨⟨by simpa using h1, by omega⟩, (toNat_ne _).1 h3⟩, (toNat_ne _).1 h4⟩, by omega⟩, by omega⟩
   rw [this] at h; cases h
/-! ### Dec2 -/
theorem made_calls (w : World) (neg : Bool) (l : List UInt8) (exp : Int) (hl : l.length ≤ 10000000000) (h1 : -1000000000000 ≤ exp) (h2 : exp ≤ 1000000000000) :
  Calls Tryz.prog 124 #[.bool neg, .string ⟨l.toArray⟩, .int .i64 exp] w fun e w' => e = .returned (.tuple #[DecV (madeS neg l exp).1, .int .i64 (madeS neg l exp).2]) ∧ Below w.heap.size w w' := by
 have hl0 := trim0_len l
 cases h : trim0 l with
 | nil =>
  have hm : madeS neg l exp = (Dec.zero, 0) := by simp [madeS, h]
  rw [hm]
  have H := hid h
  clear h hm
  go_enter Tryz.func124, Tryz.ntmps124
  go_wp2_with fail
  refine (same (Tryz.strings_TrimLeft_one ⟨l.toArray⟩ 48 (by decide) _)).mono ?_
  rintro e w1 ⟨rfl, rfl⟩
  rw [show Lib.trimLeftB l 48 = [] from H.out]
  go_wp2
  go_returns
  exact ⟨rfl, by go_grown⟩
 | cons c t =>
  rw [h] at hl0
  have hlr := trimR_len (c :: t)
  have hm : madeS neg l exp = if mayB (decOf neg (c :: t) exp) then (decOf neg (c :: t) exp, 0) else (Dec.zero, 4) := by simp [madeS, h]
  have H := hid h
  have Hm := hid hm
  clear h hm
  simp only [List.length_cons] at hl0 hlr
  go_enter Tryz.func124, Tryz.ntmps124
  go_wp2_with fail
  refine (same (Tryz.strings_TrimLeft_one ⟨l.toArray⟩ 48 (by decide) _)).mono ?_
  rintro e w1 ⟨rfl, rfl⟩
  rw [show Lib.trimLeftB l 48 = c :: t from H.out]
  go_wp2_with fail
  refine (same (Tryz.strings_TrimRight_one ⟨(c :: t).toArray⟩ 48 (by decide) _ (by simp [ByteArray.size]; omega))).mono ?_
  rintro e w1 ⟨rfl, rfl⟩
  rw [show Lib.trimRightB (c :: t) 48 = trimR (c :: t) from rfl]
  have he : decOf neg (c :: t) exp = ⟨neg, trimR (c :: t), exp + ((t.length : Int) + 1) - ((trimR (c :: t)).length : Int)⟩ := by simp [decOf]
  rw [he] at Hm
  clear he
  have hr9 : (trimR (c :: t)).length ≤ 100000000000 := by omega
  generalize hE : exp + ((t.length : Int) + 1) - ((trimR (c :: t)).length : Int) = E at *
  have HE := hid hE
  clear hE
  go_wp2_with fail
  rw [HE.out]
  generalize hR : trimR (c :: t) = R at *
  clear hR
  refine (check_calls _ ⟨neg, R, E⟩ hr9).mono ?_
  rintro e w2 ⟨rfl, hb2⟩
  simp only [World.size_alloc] at hb2
  have c0 := hb2.cell (p := ⟨w.heap.size + 1, 0, none⟩) (by simp)
  have c1 := hb2.cell (p := ⟨w.heap.size + 1, 1, none⟩) (by simp)
  have c2 := hb2.cell (p := ⟨w.heap.size + 1, 2, none⟩) (by simp)
  have r0 := hb2.cell (p := ⟨w.heap.size, 0, none⟩) (by simp; omega)
  have r1 := hb2.cell (p := ⟨w.heap.size, 1, none⟩) (by simp; omega)
  have r2 := hb2.cell (p := ⟨w.heap.size, 2, none⟩) (by simp; omega)
  have f0 := hb2.frozen (p := ⟨w.heap.size, 0, none⟩) (by simp; omega)
  have f1 := hb2.frozen (p := ⟨w.heap.size, 1, none⟩) (by simp; omega)
  have f2 := hb2.frozen (p := ⟨w.heap.size, 2, none⟩) (by simp; omega)
  have hs2 := hb2.size
  simp at c0 c1 c2 r0 r1 r2 f0 f1 f2 hs2
  have hb : Below w.heap.size w w2 := (((Below.refl _ _).alloc (Nat.le_refl _) _).alloc (by simp) _).trans (hb2.mono (by omega))
  clear hb2
  cases hm : mayB ⟨neg, R, E⟩ with
  | true =>
   have hk : chk ⟨neg, R, E⟩ = 0 := by simp [chk, hm]
   have Hf : Hid (madeS neg l exp = (⟨neg, R, E⟩, 0)) := by show madeS neg l exp = _; rw [Hm.out, hm]; rfl
   rw [hk]
   clear hk hm
   go_wp2
   refine bodyPost_ret (v := .tuple #[.agg #[.bool neg, .string ⟨R.toArray⟩, .int .i64 E], .int .i64 0]) (by simp [results, Tryz.results124, go_sem, r0, r1, r2]) rfl ?_
   rw [Hf.out]
   exact ⟨rfl, by go_grown⟩
  | false =>
   have hk : chk ⟨neg, R, E⟩ = 2 := by simp [chk, hm]
   have Hf : Hid (madeS neg l exp = (Dec.zero, 4)) := by show madeS neg l exp = _; rw [Hm.out, hm]; rfl
   rw [hk]
   clear hk hm
   go_wp2
   refine bodyPost_ret (v := .tuple #[.agg #[.bool false, .string ⟨#[]⟩, .int .i64 0], .int .i64 4]) (by simp [results, Tryz.results124, go_sem, r0, r1, r2]) rfl ?_
   rw [Hf.out]
   exact ⟨rfl, by go_grown⟩
/-! ### Par1 -/
def CutAt (w : World) (b : Nat) (r : List UInt8) : Prop := w.cell? ⟨b, 0, none⟩ = some (.string ⟨r.toArray⟩) ∧ w.frozen? ⟨b, 0, none⟩ = false ∧ b < w.heap.size
theorem CutAt.set {w : World} {b : Nat} {r : List UInt8} (h : CutAt w b r) (r' : List UInt8) : CutAt (w.setCell ⟨b, 0, none⟩ (.string ⟨r'.toArray⟩)) b r' := by
 refine ⟨?_, ?_, by simpa using h.2.2⟩
 ·rw [World.cell?_setCell_same _ _ _ h.1]
 rw [World.frozen?_setCell]; exact h.2.1
theorem grown_set (w : World) (b : Nat) (v : Value) : w.grownBy (w.setCell ⟨b, 0, none⟩ v) (some b) :=
 ⟨rfl, rfl, rfl, by simp, fun k _ hk => Below.heap_setCell _ _ _ _ (by intro e; exact hk (by simp [e]))⟩
theorem grown_same (w : World) (row : Option Nat) : w.grownBy w row := ⟨rfl, rfl, rfl, Nat.le_refl _, fun _ _ _ => rfl⟩
theorem index_low (c : UInt8) : ∀ l : List UInt8, -1 ≤ Lib.indexByte l c := by
 intro l
 induction l with
 | nil => simp [Lib.indexByte]
 | cons a l ih =>
  unfold Lib.indexByte
  split
  ·omega
  split
  ·omega
  omega
theorem index_in (of : List UInt8) (c : UInt8) : decide (Lib.indexByte of c < 0) = !of.contains c := by
 induction of with
 | nil => rfl
 | cons a l ih =>
  unfold Lib.indexByte
  by_cases h : a == c
  ·have h2 : (c == a) = true := by rw [beq_iff_eq] at h ⊢; exact h.symm
   rw [if_pos h, List.contains_cons, h2]; rfl
  have h2 : (c == a) = false := by
   rw [beq_eq_false_iff_ne]; intro e; exact h (by rw [beq_iff_eq]; exact e.symm)
  rw [List.contains_cons, h2, Bool.false_or, ← ih, if_neg h]
  by_cases h3 : Lib.indexByte l c == -1
  ·rw [if_pos h3]; rw [beq_iff_eq] at h3; rw [h3]
  rw [if_neg h3]
  have h4 : Lib.indexByte l c ≠ -1 := by simpa using h3
  have := index_low c l
  have e1 : decide (Lib.indexByte l c + 1 < 0) = false := by simp; omega
  have e2 : decide (Lib.indexByte l c < 0) = false := by simp; omega
  rw [e1, e2]
theorem one_calls (w : World) (b : Nat) (of r : List UInt8) (h : CutAt w b r) (hr : r.length ≤ 1000000000) :
  Calls Tryz.prog 121 #[.pointer (some ⟨b, 0, none⟩), .string ⟨of.toArray⟩] w fun e w' => e = .returned (.int .u8 ((oneS of r).1.toNat : Int)) ∧ CutAt w' b (oneS of r).2 ∧ w.grownBy w' (some b) := by
 have h1 := h.1
 have h2 := h.2.1
 cases r with
 | nil =>
  go_enter Tryz.func121, Tryz.ntmps121
  go_wp2
  go_ret
  exact ⟨rfl, h, grown_same _ _⟩
 | cons c t =>
  have hi0 : (⟨(c :: t).toArray⟩ : ByteArray)[0]'(by simp [ByteArray.size]) = c := rfl
  have hcl : (c.toNat : Int).toNat.toUInt8 = c := by simp
  have hext : (⟨(c :: t).toArray⟩ : ByteArray).extract 1 (t.length + 1) = ⟨t.toArray⟩ := by rw [Lib.extract_eq]; simp
  have hx := index_in of c
  cases hcon : of.contains c with
  | true =>
   have ho : oneS of (c :: t) = (c, t) := by simp [oneS]; simpa using hcon
   rw [ho]
   rw [hcon] at hx
   have h3 := h.set t
   have h4 := grown_set w b (.string ⟨t.toArray⟩)
   have H34 : Hid (CutAt (w.setCell ⟨b, 0, none⟩ (.string ⟨t.toArray⟩)) b t ∧ w.grownBy (w.setCell ⟨b, 0, none⟩ (.string ⟨t.toArray⟩)) (some b)) := ⟨h3, h4⟩
   clear h3 h4 ho hcon h
   go_enter Tryz.func121, Tryz.ntmps121
   go_wp2_with fail
   refine (same (Tryz.strings_IndexByte ⟨of.toArray⟩ _ _)).mono ?_
   rintro e w1 ⟨rfl, rfl⟩
   rw [hcl]
   have hx' : ¬ Lib.indexByte of c < 0 := by simpa using hx
   clear hx
   go_wp2
   go_ret
   exact ⟨rfl, H34.out⟩
  | false =>
   have ho : oneS of (c :: t) = (0, c :: t) := by simp [oneS]; simpa using hcon
   rw [ho]
   rw [hcon] at hx
   clear ho hcon
   have H := hid h
   clear h
   go_enter Tryz.func121, Tryz.ntmps121
   go_wp2_with fail
   refine (same (Tryz.strings_IndexByte ⟨of.toArray⟩ _ _)).mono ?_
   rintro e w1 ⟨rfl, rfl⟩
   rw [hcl]
   have hx' : Lib.indexByte of c < 0 := by simpa using hx
   clear hx
   go_wp2
   go_ret
   exact ⟨rfl, H.out, grown_same _ _⟩
theorem cutDigits_calls (w : World) (b : Nat) (r : List UInt8) (h : CutAt w b r) (hr : r.length ≤ 1000000000) :
  Calls Tryz.prog 122 #[.pointer (some ⟨b, 0, none⟩)] w fun e w' => e = .returned (.string ⟨(digsS r).toArray⟩) ∧ CutAt w' b (restS r) ∧ w.grownBy w' (some b) := by
 have h1 := h.1
 have h2 := h.2.1
 have H := hid h
 clear h
 have hsz : (⟨r.toArray⟩ : ByteArray).size = r.length := by simp [ByteArray.size]
 go_enter Tryz.func122, Tryz.ntmps122
 go_wp2
 go_loopg [3] r.length (fun k i wr => ∃ j : Nat, k = r.length - j ∧ j ≤ r.length ∧ i = .int .i64 j ∧ digAll (r.take j) = true ∧ w = wr)
 case atStart => exact ⟨0, rfl, by omega, rfl, rfl, rfl⟩
 case round =>
  obtain ⟨j, hk, hj, rfl, hd, rfl⟩ := hrel
  have Hk := hid hk
  have Hd := hid hd
  clear hk hd
  by_cases hlt : j < r.length
  ·have hlt' : (j : Int) < r.length := by omega
   have hij : (⟨r.toArray⟩ : ByteArray)[j]'(by simpa [ByteArray.size] using hlt) = r.getD j 0 := by
    show r.toArray[j]'(by simpa using hlt) = _
    simp [hlt]
   have hts := take_snoc8 r j hlt
   have Hts := hid hts
   clear hts
   have hx0 : (⟨r.toArray⟩ : ByteArray).extract 0 j = ⟨(r.take j).toArray⟩ := by rw [Lib.extract_eq]; simp
   have hx1 : (⟨r.toArray⟩ : ByteArray).extract j r.length = ⟨(r.drop j).toArray⟩ := by rw [Lib.extract_eq]; rw [List.take_of_length_le (by simp)]
   have hset := (CutAt.set H.out (r.drop j))
   have Hset := hid hset
   clear hset
   cases hb : digB (r.getD j 0) with
   | true =>
    have Hb := hid hb
    clear hb
    generalize r.getD j 0 = c at *
    go_wp2_with fail
    refine (digit_calls w c).mono ?_
    rintro e w1 ⟨rfl, rfl⟩
    rw [Hb.out]
    go_wp2_with fail
    go_roundg (r.length - (j + 1))
    case measure => have := Hk.out; omega
    have h1 := Hd.out
    refine ⟨j + 1, rfl, by omega, by go_num, ?_, rfl⟩
    rw [Hts.out]
    simp only [digAll, List.all_append] at h1 ⊢
    rw [h1]; simp [Hb.out]
   | false =>
    have hfin := digs_at r j Hd.out (by omega) (.inr hb)
    have Hfin := hid hfin
    have Hb := hid hb
    clear hb hfin
    generalize r.getD j 0 = c at *
    go_wp2_with fail
    refine (digit_calls w c).mono ?_
    rintro e w1 ⟨rfl, rfl⟩
    rw [Hb.out]
    go_wp2
    go_ret
    rw [Hfin.out.1, Hfin.out.2]
    exact ⟨rfl, Hset.out, grown_set _ _ _⟩
  obtain rfl : j = r.length := by omega
  have hx0 : (⟨r.toArray⟩ : ByteArray).extract 0 r.length = ⟨(r.take r.length).toArray⟩ := by rw [Lib.extract_eq]; simp
  have hx1 : (⟨r.toArray⟩ : ByteArray).extract r.length r.length = ⟨(r.drop r.length).toArray⟩ := by rw [Lib.extract_eq]; simp
  have hset := (CutAt.set H.out (r.drop r.length))
  have Hset := hid hset
  have hfin := digs_at r r.length Hd.out (by omega) (.inl rfl)
  have Hfin := hid hfin
  clear hset hfin
  go_wp2
  go_ret
  rw [Hfin.out.1, Hfin.out.2]
  have := Hset.out
  simp only [List.drop_length, List.take_length] at this ⊢
  exact ⟨rfl, this, grown_set _ _ _⟩
theorem power_calls (w : World) (s : List UInt8) (hd : Dig s) (hl : s.length ≤ 1000000000) (hne : s ≠ []) :
  Calls Tryz.prog 123 #[.string ⟨s.toArray⟩] w fun e w' => e = .returned (.tuple #[.int .i64 (powerS s), .bool true]) ∧ Below w.heap.size w w' := by
 have kc : ∀ (w : World) (s : ByteArray), (convert 9 22 (.string s)).run Tryz.prog w = .ok (.slice (some ⟨w.heap.size, 0, none⟩) s.size (grownCap w s.size 0 5)) (Lib.bytesWorld w 5 s) :=
  fun w s => Lib.run_convert_string_bytes w 9 22 5 s Tryz.underlying9 Tryz.underlying22 Tryz.underlying5
 cases s with
 | nil => exact absurd rfl hne
 | cons c0 t0 =>
 have hd0 := Dig_trim0 hd
 have hl0 := trim0_len (c0 :: t0)
 obtain ⟨t, ht⟩ : ∃ t, t = trim0 (c0 :: t0) := ⟨_, rfl⟩
 have hp : powerS (c0 :: t0) = if 7 < t.length then 10000000 else (dval t : Int) := by rw [ht]; rfl
 rw [← ht] at hd0 hl0
 have Ht := hid ht
 clear ht
 by_cases h7 : 7 < t.length
 ·rw [if_pos h7] at hp
  rw [hp]
  clear hp
  go_enter Tryz.func123, Tryz.ntmps123
  go_wp2_with fail
  refine (same (Tryz.strings_TrimLeft_one ⟨(c0 :: t0).toArray⟩ 48 (by decide) _)).mono ?_
  rintro e w1 ⟨rfl, rfl⟩
  rw [show Lib.trimLeftB (c0 :: t0) 48 = t from Ht.out.symm]
  go_wp2
  go_ret2
  exact ⟨rfl, Below.refl _ _⟩
 ·rw [if_neg h7] at hp
  rw [hp]
  clear hp
  go_enter Tryz.func123, Tryz.ntmps123
  go_wp2_with fail
  refine (same (Tryz.strings_TrimLeft_one ⟨(c0 :: t0).toArray⟩ 48 (by decide) _)).mono ?_
  rintro e w1 ⟨rfl, rfl⟩
  rw [show Lib.trimLeftB (c0 :: t0) 48 = t from Ht.out.symm]
  go_wp2_with fail
  have hbc := bytesWorld_below w 5 ⟨t.toArray⟩
  have hcell : ∀ j, j < t.length → (Lib.bytesWorld w 5 ⟨t.toArray⟩).cell? ⟨w.heap.size, j, none⟩ = some (.int .u8 ((t.getD j 0).toNat : Int)) :=
   fun j hj => by have := Lib.bytesWorld_cell w 5 ⟨t.toArray⟩ j (by simpa [ByteArray.size] using hj); simpa using this
  have Hcell := hid hcell
  clear hcell kc
  generalize Lib.bytesWorld w 5 ⟨t.toArray⟩ = wb at *
  go_loopg [4, 17] t.length (fun k x i wr => ∃ j : Nat, k = t.length - j ∧ j ≤ t.length ∧ i = .int .i64 j ∧ x = .int .i64 (dval (t.take j) : Nat) ∧ wb = wr)
  case atStart => exact ⟨0, rfl, by omega, rfl, by simp [dval], rfl⟩
  obtain ⟨j, hk, hj, rfl, rfl, rfl⟩ := hrel
  have Hk := hid hk
  clear hk
  have hx := dval_take_lt hd0 (by omega) j
  by_cases hlt : j < t.length
  ·have hlt' : (j : Int) < t.length := by omega
   have hcj := Hcell.out j hlt
   have hdj := Dig_getD hd0 j hlt
   have hnx := dval_snoc (t.take j) (t.getD j 0)
   rw [← take_snoc8 _ j hlt] at hnx
   have Hnx := hid hnx
   clear hnx
   generalize t.getD j 0 = c at *
   go_wp2_with fail
   go_roundg (t.length - (j + 1))
   case measure => have := Hk.out; omega
   exact ⟨j + 1, rfl, by omega, by go_num, by rw [Hnx.out]; congr 1; omega, rfl⟩
  obtain rfl : j = t.length := by omega
  go_wp2
  go_ret2
  exact ⟨by simp, hbc⟩
theorem power_none (w : World) :
  Calls Tryz.prog 123 #[.string ⟨#[]⟩] w fun e w' => e = .returned (.tuple #[.int .i64 0, .bool false]) ∧ w = w' := by
 go_enter Tryz.func123, Tryz.ntmps123
 go_wp2
 go_ret2
 exact ⟨rfl, rfl⟩
/-! ### Par2 -/
structure ResAt (w : World) (b : Nat) : Prop where
 c0 : w.cell? ⟨b, 0, none⟩ = some (.bool false)
 c1 : w.cell? ⟨b, 1, none⟩ = some (.string ⟨#[]⟩)
 c2 : w.cell? ⟨b, 2, none⟩ = some (.int .i64 0)
 f0 : w.frozen? ⟨b, 0, none⟩ = false
 f1 : w.frozen? ⟨b, 1, none⟩ = false
 f2 : w.frozen? ⟨b, 2, none⟩ = false
 lt : b < w.heap.size
theorem ResAt.of_block {w w' : World} {b : Nat} (h : ResAt w b) (hb : w'.heap[b]? = w.heap[b]?) (hs : w.heap.size ≤ w'.heap.size) : ResAt w' b :=
 ⟨(World.cell?_of_block (w := w) hb).trans h.c0, (World.cell?_of_block (w := w) hb).trans h.c1, (World.cell?_of_block (w := w) hb).trans h.c2,
  (World.frozen?_of_block (w := w) hb).trans h.f0, (World.frozen?_of_block (w := w) hb).trans h.f1, (World.frozen?_of_block (w := w) hb).trans h.f2, Nat.lt_of_lt_of_le h.lt hs⟩
structure Pst (w w' : World) (r : List UInt8) : Prop where
 cut : CutAt w' (w.heap.size + 1) r
 res : ResAt w' w.heap.size
 bel : Below w.heap.size w w'
theorem Pst.step {w w1 w2 : World} {r r' : List UInt8} (h : Pst w w1 r) (hc : CutAt w2 (w.heap.size + 1) r') (hg : w1.grownBy w2 (some (w.heap.size + 1))) : Pst w w2 r' :=
 ⟨hc, h.res.of_block (hg.block _ h.res.lt (by simp)) hg.size, h.bel.grown hg h.bel.size (fun k hk => by cases hk; omega)⟩
theorem Pst.under {w w1 w2 : World} {r : List UInt8} (h : Pst w w1 r) (hb : Below w1.heap.size w1 w2) : Pst w w2 r :=
 ⟨⟨(hb.cell (p := ⟨w.heap.size + 1, 0, none⟩) h.cut.2.2).trans h.cut.1, (hb.frozen (p := ⟨w.heap.size + 1, 0, none⟩) h.cut.2.2).trans h.cut.2.1, Nat.lt_of_lt_of_le h.cut.2.2 hb.size⟩,
  h.res.of_block (hb.block _ h.res.lt) hb.size, h.bel.trans (hb.mono h.bel.size)⟩
theorem cat (a b : List UInt8) : (⟨a.toArray⟩ ++ ⟨b.toArray⟩ : ByteArray) = ⟨(a ++ b).toArray⟩ := by
 apply ByteArray.ext; simp [ByteArray.data_append]
theorem u8_beq (c : UInt8) (n : Nat) (h : n < 256) : ((c.toNat : Int) == (n : Int)) = (c == UInt8.ofNat n) := by
 rw [Bool.eq_iff_iff]
 simp only [beq_iff_eq, ← UInt8.toNat_inj, UInt8.toNat_ofNat']
 omega
def ParseJ (w : World) (l : List UInt8) (a' : Act) (w' : World) : Prop := ∃ (x0 x1 x3 x4 x5 x6 x7 x8 x9 x10 x11 x12 x13 x14 x15 x16 x17 x18 x19 x20 x21 x22 x23 x24 x25 x26 x27 x28 x29 x30 x31 x32 x33 x34 x35 x36 x37 x38 x39 x40 x41 x42 x43 x44 x45 x46 x47 x48 x49 x50 x51 x52 x53 x54 x55 x56 x57 x58 x59 x60 x61 x62 x63 x64 x65 x66 x67 x68 x69 x70 x71 x72 x73 x74 x75 x76 x77 x78 x79 x80 : Value), a' = { tmps := #[x0, x1, .pointer (some ⟨w.heap.size, 0, none⟩), x3, x4, x5, x6, x7, x8, x9, x10, x11, x12, x13, x14, x15, x16, x17, x18, x19, x20, x21, x22, x23, x24, x25, x26, x27, x28, x29, x30, x31, x32, x33, x34, x35, x36, x37, x38, x39, x40, x41, x42, x43, x44, x45, x46, x47, x48, x49, x50, x51, x52, x53, x54, x55, x56, x57, x58, x59, x60, x61, x62, x63, x64, x65, x66, x67, x68, x69, x70, x71, x72, x73, x74, x75, x76, x77, x78, x79, x80], defers := [] } ∧ ResAt w' w.heap.size ∧ Below w.heap.size w w' ∧ parseS l = (Dec.zero, 170)
theorem ParseJ.mk {w w' : World} {l : List UInt8} {x0 x1 x3 x4 x5 x6 x7 x8 x9 x10 x11 x12 x13 x14 x15 x16 x17 x18 x19 x20 x21 x22 x23 x24 x25 x26 x27 x28 x29 x30 x31 x32 x33 x34 x35 x36 x37 x38 x39 x40 x41 x42 x43 x44 x45 x46 x47 x48 x49 x50 x51 x52 x53 x54 x55 x56 x57 x58 x59 x60 x61 x62 x63 x64 x65 x66 x67 x68 x69 x70 x71 x72 x73 x74 x75 x76 x77 x78 x79 x80 : Value} (h : ResAt w' w.heap.size ∧ Below w.heap.size w w' ∧ parseS l = (Dec.zero, 170)) : ParseJ w l { tmps := #[x0, x1, .pointer (some ⟨w.heap.size, 0, none⟩), x3, x4, x5, x6, x7, x8, x9, x10, x11, x12, x13, x14, x15, x16, x17, x18, x19, x20, x21, x22, x23, x24, x25, x26, x27, x28, x29, x30, x31, x32, x33, x34, x35, x36, x37, x38, x39, x40, x41, x42, x43, x44, x45, x46, x47, x48, x49, x50, x51, x52, x53, x54, x55, x56, x57, x58, x59, x60, x61, x62, x63, x64, x65, x66, x67, x68, x69, x70, x71, x72, x73, x74, x75, x76, x77, x78, x79, x80], defers := [] } w' := ⟨_, _, _, _, _, _, _, _, _, _, _, _, _, _, _, _, _, _, _, _, _, _, _, _, _, _, _, _, _, _, _, _, _, _, _, _, _, _, _, _, _, _, _, _, _, _, _, _, _, _, _, _, _, _, _, _, _, _, _, _, _, _, _, _, _, _, _, _, _, _, _, _, _, _, _, _, _, _, _, _, rfl, h⟩
theorem u8_ne (c : UInt8) (n : Nat) (h : n < 256) (hne : c ≠ UInt8.ofNat n) : ((c.toNat : Int) == (n : Int)) = false := by
 rw [u8_beq c n h, beq_eq_false_iff_ne]; exact hne
theorem parse_long (w : World) (l : List UInt8) (hl : l.length ≤ 1000000000) (h : 1000 < l.length) :
  Calls Tryz.prog 85 #[.string ⟨l.toArray⟩] w fun e w' => e = .returned (.tuple #[DecV (parseS l).1, .int .i64 (parseS l).2]) ∧ Below w.heap.size w w' := by
 have hp : parseS l = (Dec.zero, 3) := by simp [parseS, h]
 rw [hp]
 have h' : (1000 : Int) < l.length := by omega
 clear hp
 go_enter Tryz.func85, Tryz.ntmps85
 go_wp2
 go_step3
 go_wp2
 rw [Exit.noGoto_ret]
 refine bodyPost_ret (v := .tuple #[.agg #[.bool false, .string ⟨#[]⟩, .int .i64 0], .int .i64 3]) (by simp [results, Tryz.results85, go_sem]) rfl ?_
 exact ⟨rfl, by go_grown⟩
theorem parse_short (w : World) (l : List UInt8) (hl : l.length ≤ 1000) :
  Calls Tryz.prog 85 #[.string ⟨l.toArray⟩] w fun e w' => e = .returned (.tuple #[DecV (parseS l).1, .int .i64 (parseS l).2]) ∧ Below w.heap.size w w' := by
 have hp : parseS l = parseA ((oneS [45] l).1 == 45) (oneS [45] l).2 := by simp [parseS]; intro h; omega
 have h1 := one_len [45] l
 have Hp := hid hp
 clear hp
 go_enter Tryz.func85, Tryz.ntmps85
 go_wp2
 refine wp_scope_jumps 0 (ParseJ w l) (fun _ _ => 0) rfl ?_ ?_
 ·go_wp2_with fail
  have hpst : Pst w ((w.alloc (Obj.cells #[Value.bool false, Value.string { data := #[] }, Value.int IntKind.i64 0] 26)).alloc (Obj.cells #[Value.string { data := l.toArray }] 165)) l := by
   refine ⟨⟨?_, ?_, by simp⟩, ⟨?_, ?_, ?_, ?_, ?_, ?_, by simp; omega⟩, ((Below.refl _ _).alloc (Nat.le_refl _) _).alloc (by simp) _⟩
   ·rw [World.cell?_alloc_at _ _ _ _ (by simp)]; rfl
   ·exact World.frozen?_alloc_at _ _ _ _ (by simp)
   ·rw [World.cell?_alloc_past _ _ _ (by simp), World.cell?_alloc_at _ _ _ _ rfl]; rfl
   ·rw [World.cell?_alloc_past _ _ _ (by simp), World.cell?_alloc_at _ _ _ _ rfl]; rfl
   ·rw [World.cell?_alloc_past _ _ _ (by simp), World.cell?_alloc_at _ _ _ _ rfl]; rfl
   ·rw [World.frozen?_alloc_past _ _ _ (by simp)]; exact World.frozen?_alloc_at _ _ _ _ rfl
   ·rw [World.frozen?_alloc_past _ _ _ (by simp)]; exact World.frozen?_alloc_at _ _ _ _ rfl
   rw [World.frozen?_alloc_past _ _ _ (by simp)]; exact World.frozen?_alloc_at _ _ _ _ rfl
  generalize (w.alloc (Obj.cells #[Value.bool false, Value.string { data := #[] }, Value.int IntKind.i64 0] 26)).alloc (Obj.cells #[Value.string { data := l.toArray }] 165) = w1 at *
  refine (one_calls w1 _ [45] l hpst.cut (by omega)).mono ?_
  rintro e w2 ⟨rfl, hc, hg⟩
  have hp2 := hpst.step hc hg
  clear hpst hc hg
  have hneg := u8_beq (oneS [45] l).1 45 (by omega)
  generalize (oneS [45] l).2 = r0 at *
  obtain ⟨neg, hng⟩ : ∃ neg, neg = ((oneS [45] l).1 == 45) := ⟨_, rfl⟩
  have hneg2 : (((oneS [45] l).1.toNat : Int) == 45) = neg := by rw [hng]; exact hneg
  rw [← hng] at Hp
  clear hneg hng
  generalize (oneS [45] l).1 = c0 at *
  go_wp2_with fail
  refine (cutDigits_calls w2 _ r0 hp2.cut (by omega)).mono ?_
  rintro e w3 ⟨rfl, hc, hg⟩
  have hp3 := hp2.step hc hg
  clear hp2 hc hg
  have hdl := digs_len r0
  have hdg := Dig_digs r0
  have hpa : parseA neg r0 = if digsS r0 = [] ∨ ((digsS r0).getD 0 0 = 48 ∧ 1 < (digsS r0).length) then (Dec.zero, 170) else parseP neg (digsS r0) (restS r0) := rfl
  generalize digsS r0 = all at *
  generalize restS r0 = r1 at *
  rw [hpa] at Hp
  clear hpa
  have hl1 : all.length + r1.length ≤ 1000 := by omega
  clear hdl
  have Hdg := hid hdg
  clear hdg h1
  cases all with
  | nil =>
   have HP : ResAt w3 w.heap.size ∧ Below w.heap.size w w3 ∧ parseS l = (Dec.zero, 170) := ⟨hp3.res, hp3.bel, by rw [Hp.out]; simp⟩
   go_wp2_with fail
   go_step3
   exact ⟨rfl, ParseJ.mk HP⟩
  | cons d t =>
   have hi0 : (⟨(d :: t).toArray⟩ : ByteArray)[0]'(by simp [ByteArray.size]) = d := rfl
   by_cases hbad : d = 48 ∧ 1 < (d :: t).length
   ·have HP : ResAt w3 w.heap.size ∧ Below w.heap.size w w3 ∧ parseS l = (Dec.zero, 170) := ⟨hp3.res, hp3.bel, by rw [Hp.out]; simp at hbad; simp [hbad]⟩
    obtain ⟨hd48, hl2⟩ := hbad
    subst hd48
    simp only [List.length_cons] at hl2
    go_wp2_with fail
    go_step3
    exact ⟨rfl, ParseJ.mk HP⟩
   have hp4 : parseS l = parseP neg (d :: t) r1 := by rw [Hp.out, if_neg]; simpa using hbad
   have Hp4 := hid hp4
   have Hbad := hid hbad
   clear hp4 hbad Hp
   go_upto_region 7 with fail
   go_cut [35] (fun s wc => s = .bool false ∧ wc = w3)
   case first =>
    by_cases hd48 : d = 48
    ·have ht : t = [] := by
      have := Hbad.out
      cases t with
      | nil => rfl
      | cons a b => exact absurd ⟨hd48, by simp⟩ this
     subst hd48; subst ht
     go_wp2_with fail
     go_meet
     exact ⟨rfl, rfl⟩
    have hd48' : ((d.toNat : Int) == 48) = false := u8_ne d 48 (by omega) hd48
    clear hd48
    go_wp2_with fail
    go_meet
    exact ⟨rfl, rfl⟩
   obtain ⟨rfl, rfl⟩ := hcut
   clear hi0
   generalize (d :: t) = all at *
   go_wp2_with fail
   refine (one_calls _ _ [46] r1 hp3.cut (by omega)).mono ?_
   rintro e w4 ⟨rfl, hc, hg⟩
   have hp4 := hp3.step hc hg
   clear hp3 hc hg
   have hl2 := one_len [46] r1
   have hpp : parseP neg all r1 = if (oneS [46] r1).1 = 46 then
     if digsS (oneS [46] r1).2 = [] then (Dec.zero, 170) else parseE neg (all ++ digsS (oneS [46] r1).2) (-((digsS (oneS [46] r1).2).length : Int)) (restS (oneS [46] r1).2)
     else parseE neg all 0 (oneS [46] r1).2 := rfl
   generalize (oneS [46] r1).2 = r2 at *
   generalize (oneS [46] r1).1 = c1 at *
   rw [hpp] at Hp4
   clear hpp
   go_upto_if 38 with fail
   go_cut [6, 7] (fun s6 s7 wc => ∃ (a' : List UInt8) (exp : Int) (r3 : List UInt8), s6 = .string ⟨a'.toArray⟩ ∧ s7 = .int .i64 exp ∧ Pst w wc r3 ∧ parseS l = parseE neg a' exp r3 ∧ a'.length ≤ 2000 ∧ r3.length ≤ 1000 ∧ -2000 ≤ exp ∧ exp ≤ 0)
   case first =>
    by_cases h46 : c1 = 46
    ·subst h46
     rw [if_pos rfl] at Hp4
     have hdl := digs_len r2
     go_wp2_with fail
     refine (cutDigits_calls _ _ r2 hp4.cut (by omega)).mono ?_
     rintro e w5 ⟨rfl, hc, hg⟩
     have hp5 := hp4.step hc hg
     clear hp4 hc hg
     generalize digsS r2 = part at *
     generalize restS r2 = r3 at *
     cases part with
     | nil =>
      have HP : ResAt w5 w.heap.size ∧ Below w.heap.size w w5 ∧ parseS l = (Dec.zero, 170) := ⟨hp5.res, hp5.bel, by rw [Hp4.out]; simp⟩
      go_wp2_with fail
      go_step3
      exact ⟨rfl, ParseJ.mk HP⟩
     | cons d' t' =>
      have hp6 : parseS l = parseE neg (all ++ d' :: t') (-((t'.length : Int) + 1)) r3 := by rw [Hp4.out, if_neg (by simp)]; simp
      have Hp6 := hid hp6
      clear hp6
      simp only [List.length_cons] at hdl
      go_wp2_with fail
      go_meet
      exact ⟨all ++ d' :: t', _, r3, by rw [cat], rfl, hp5, Hp6.out, by simp; omega, by omega, by omega, by omega⟩
    have h46' : ((c1.toNat : Int) == 46) = false := u8_ne c1 46 (by omega) h46
    rw [if_neg h46] at Hp4
    clear h46
    go_wp2_with fail
    go_meet
    exact ⟨all, 0, r2, rfl, rfl, hp4, Hp4.out, by omega, by omega, by omega, by omega⟩
   obtain ⟨a', exp, r3, rfl, rfl, hp5, hp6, hl5, hl6, he1, he2⟩ := hcut
   have Hp6 := hid hp6
   clear hp6 Hp4 hp4 hl2 hl1 Hbad Hdg
   go_wp2_with fail
   refine (one_calls _ _ [101, 69] r3 hp5.cut (by omega)).mono ?_
   rintro e w6 ⟨rfl, hc, hg⟩
   have hp6 := hp5.step hc hg
   clear hp5 hc hg
   have hl7 := one_len [101, 69] r3
   have hpp : parseE neg a' exp r3 = if (oneS [101, 69] r3).1 = 0 then parseEnd neg a' exp (oneS [101, 69] r3).2 else
    if digsS (oneS [43, 45] (oneS [101, 69] r3).2).2 = [] then (Dec.zero, 170) else
    parseEnd neg a' (exp + (if (oneS [43, 45] (oneS [101, 69] r3).2).1 = 45 then -powerS (digsS (oneS [43, 45] (oneS [101, 69] r3).2).2) else powerS (digsS (oneS [43, 45] (oneS [101, 69] r3).2).2))) (restS (oneS [43, 45] (oneS [101, 69] r3).2).2) := rfl
   generalize (oneS [101, 69] r3).2 = r4 at *
   generalize (oneS [101, 69] r3).1 = c2 at *
   rw [hpp] at Hp6
   clear hpp
   go_upto_if 51 with fail
   go_cut [7] (fun s7 wc => ∃ (exp2 : Int) (r5 : List UInt8), s7 = .int .i64 exp2 ∧ Pst w wc r5 ∧ parseS l = parseEnd neg a' exp2 r5 ∧ -20000000 ≤ exp2 ∧ exp2 ≤ 20000000)
   case first =>
    by_cases h0 : c2 = 0
    ·subst h0
     rw [if_pos rfl] at Hp6
     go_wp2_with fail
     go_meet
     exact ⟨exp, r4, rfl, hp6, Hp6.out, by omega, by omega⟩
    have h0' : ((c2.toNat : Int) != 0) = true := by
     have := u8_ne c2 0 (by omega) h0
     rw [bne, show ((0 : Int)) = ((0 : Nat) : Int) from rfl, this]; rfl
    rw [if_neg h0] at Hp6
    clear h0
    go_wp2_with fail
    refine (one_calls _ _ [43, 45] r4 hp6.cut (by omega)).mono ?_
    rintro e w7 ⟨rfl, hc, hg⟩
    have hp7 := hp6.step hc hg
    clear hp6 hc hg
    have hl8 := one_len [43, 45] r4
    generalize (oneS [43, 45] r4).2 = r6 at *
    generalize (oneS [43, 45] r4).1 = c3 at *
    go_wp2_with fail
    refine (cutDigits_calls _ _ r6 hp7.cut (by omega)).mono ?_
    rintro e w8 ⟨rfl, hc, hg⟩
    have hp8 := hp7.step hc hg
    clear hp7 hc hg
    have hdl := digs_len r6
    have hdg := Dig_digs r6
    generalize digsS r6 = ds at *
    generalize restS r6 = r7 at *
    cases ds with
    | nil =>
     have HP : ResAt w8 w.heap.size ∧ Below w.heap.size w w8 ∧ parseS l = (Dec.zero, 170) := ⟨hp8.res, hp8.bel, by rw [Hp6.out]; simp⟩
     clear hdg
     go_wp2_with fail
     refine (power_none _).mono ?_
     rintro e w9 ⟨rfl, rfl⟩
     go_wp2_with fail
     go_step3
     exact ⟨rfl, ParseJ.mk HP⟩
    | cons d' t' =>
     rw [if_neg (by simp)] at Hp6
     have hpb := power_bd (d' :: t') hdg
     go_wp2_with fail
     refine (power_calls _ (d' :: t') hdg (by omega) (by simp)).mono ?_
     rintro e w9 ⟨rfl, hb9⟩
     have hp9 := hp8.under hb9
     clear hp8 hb9 hdg hdl
     generalize powerS (d' :: t') = pw at *
     by_cases h45 : c3 = 45
     ·subst h45
      rw [if_pos rfl] at Hp6
      go_wp2_with fail
      go_meet
      exact ⟨exp + -pw, r7, by first | rfl | go_num, hp9, Hp6.out, by omega, by omega⟩
     have h45' : ((c3.toNat : Int) == 45) = false := u8_ne c3 45 (by omega) h45
     rw [if_neg h45] at Hp6
     clear h45
     go_wp2_with fail
     go_meet
     exact ⟨exp + pw, r7, by first | rfl | go_num, hp9, Hp6.out, by omega, by omega⟩
   obtain ⟨exp2, r5, rfl, hp7, hp8, he3, he4⟩ := hcut
   have Hp8 := hid hp8
   clear hp8 Hp6 hp6 hl7
   have hcc := hp7.cut.1
   cases r5 with
   | cons x5 t5 =>
    have Hpm : Hid (parseS l = (Dec.zero, 170)) := Hp8.out.trans rfl
    have hf0 := hp7.res.c0
    have hf1 := hp7.res.c1
    have hf2 := hp7.res.c2
    have hf3 := hp7.res.f0
    have hf4 := hp7.res.f1
    have hf5 := hp7.res.f2
    have hbel := hp7.bel
    go_wp2_with fail
    go_step3
    go_wp2
    simp only [Exit.jump]
    refine bodyPost_ret (v := .tuple #[.agg #[.bool false, .string ⟨#[]⟩, .int .i64 0], .int .i64 170]) (by simp [results, Tryz.results85, go_sem, hf0, hf1, hf2]) rfl ?_
    rw [Hpm.out]
    exact ⟨rfl, by go_grown⟩
   | nil =>
    have hpm : parseS l = madeS neg a' exp2 := by rw [Hp8.out]; rfl
    have Hpm := hid hpm
    clear hpm Hp8
    go_wp2_with fail
    refine (made_calls _ neg a' exp2 (by omega) (by omega) (by omega)).mono ?_
    rintro e w9 ⟨rfl, hb9⟩
    have hp9 := hp7.under hb9
    clear hp7 hb9 hcc
    generalize madeS neg a' exp2 = m at *
    obtain ⟨⟨mn, md, me⟩, mc⟩ := m
    simp only [DecV]
    have hf0 := hp9.res.c0
    have hf1 := hp9.res.c1
    have hf2 := hp9.res.c2
    have hf3 := hp9.res.f0
    have hf4 := hp9.res.f1
    have hf5 := hp9.res.f2
    have hbel := hp9.bel
    go_wp2_with fail
    simp only [Exit.jump]
    refine bodyPost_ret (v := .tuple #[.agg #[.bool mn, .string ⟨md.toArray⟩, .int .i64 me], .int .i64 mc]) (by simp [results, Tryz.results85, go_sem, hf0, hf1, hf2]) rfl ?_
    rw [Hpm.out]
    exact ⟨rfl, by go_grown⟩
 ·rintro a' w' ⟨x0, x1, x3, x4, x5, x6, x7, x8, x9, x10, x11, x12, x13, x14, x15, x16, x17, x18, x19, x20, x21, x22, x23, x24, x25, x26, x27, x28, x29, x30, x31, x32, x33, x34, x35, x36, x37, x38, x39, x40, x41, x42, x43, x44, x45, x46, x47, x48, x49, x50, x51, x52, x53, x54, x55, x56, x57, x58, x59, x60, x61, x62, x63, x64, x65, x66, x67, x68, x69, x70, x71, x72, x73, x74, x75, x76, x77, x78, x79, x80, rfl, hres, hbel, hp⟩
  have hf0 := hres.c0
  have hf1 := hres.c1
  have hf2 := hres.c2
  have hf3 := hres.f0
  have hf4 := hres.f1
  have hf5 := hres.f2
  have Hp := hid hp
  clear hres hp
  go_wp2
  simp only [Exit.jump]
  refine bodyPost_ret (v := .tuple #[.agg #[.bool false, .string ⟨#[]⟩, .int .i64 0], .int .i64 170]) (by simp [results, Tryz.results85, go_sem, hf0, hf1, hf2]) rfl ?_
  rw [Hp.out]
  exact ⟨rfl, by go_grown⟩
theorem parse_calls (w : World) (l : List UInt8) (hl : l.length ≤ 1000000000) :
  Calls Tryz.prog 85 #[.string ⟨l.toArray⟩] w fun e w' => e = .returned (.tuple #[DecV (parseS l).1, .int .i64 (parseS l).2]) ∧ Below w.heap.size w w' := by
 by_cases h : 1000 < l.length
 ·exact parse_long w l hl h
 ·exact parse_short w l (by omega)
/-! ### DecM -/
theorem trim0_head {c : UInt8} {t : List UInt8} (h : trim0 (c :: t) = c :: t) : c ≠ 48 := by
 intro hc
 subst hc
 simp only [trim0, List.dropWhile_cons, beq_self_eq_true, if_true] at h
 have h1 := congrArg List.length h
 have := (List.dropWhile_sublist (p := (· == (48 : UInt8))) (l := t)).length_le
 simp at h1; omega
theorem dval_low {c : UInt8} {t : List UInt8} (hd : Dig (c :: t)) (h : c ≠ 48) : 10 ^ t.length ≤ dval (c :: t) := by
 rw [dval_cons]
 have h1 := hd c (by simp)
 have h2 : c.toNat ≠ 48 := fun e => h (UInt8.toNat_inj.1 (by simpa using e))
 have : 1 * 10 ^ t.length ≤ (c.toNat - 48) * 10 ^ t.length := Nat.mul_le_mul_right _ (by omega)
 omega
/-! ### Dec5 -/
structure DecAt (w : World) (b : Nat) (d : Dec) : Prop where
 c0 : w.cell? ⟨b, 0, none⟩ = some (.bool d.neg)
 c1 : w.cell? ⟨b, 1, none⟩ = some (.string ⟨d.digits.toArray⟩)
 c2 : w.cell? ⟨b, 2, none⟩ = some (.int .i64 d.exp)
 f0 : w.frozen? ⟨b, 0, none⟩ = false
 f1 : w.frozen? ⟨b, 1, none⟩ = false
 f2 : w.frozen? ⟨b, 2, none⟩ = false
 lt : b < w.heap.size
theorem DecAt.under {w w' : World} {b : Nat} {d : Dec} (h : DecAt w b d) (hb : Below w.heap.size w w') : DecAt w' b d :=
 have e := hb.block b h.lt
 ⟨(World.cell?_of_block (w := w) e).trans h.c0, (World.cell?_of_block (w := w) e).trans h.c1, (World.cell?_of_block (w := w) e).trans h.c2,
  (World.frozen?_of_block (w := w) e).trans h.f0, (World.frozen?_of_block (w := w) e).trans h.f1, (World.frozen?_of_block (w := w) e).trans h.f2, Nat.lt_of_lt_of_le h.lt hb.size⟩
theorem DecAt.at (w : World) (d : Dec) (b : Nat) (hb : b = w.heap.size) : DecAt (w.alloc (.cells #[.bool d.neg, .string ⟨d.digits.toArray⟩, .int .i64 d.exp] 26)) b d := by
 subst hb
 refine ⟨?_, ?_, ?_, ?_, ?_, ?_, by simp⟩
 ·rw [World.cell?_alloc_at _ _ _ _ rfl]; rfl
 ·rw [World.cell?_alloc_at _ _ _ _ rfl]; rfl
 ·rw [World.cell?_alloc_at _ _ _ _ rfl]; rfl
 ·exact World.frozen?_alloc_at _ _ _ _ rfl
 ·exact World.frozen?_alloc_at _ _ _ _ rfl
 exact World.frozen?_alloc_at _ _ _ _ rfl
/-! ### Ref1 -/
/-! ### Ref2 -/
/-! ### RefL -/
/-! ### RefD -/
/-! ### Ref3 -/
end Go.Proofs.YtfclfaidmipjpaaGreatDoor
