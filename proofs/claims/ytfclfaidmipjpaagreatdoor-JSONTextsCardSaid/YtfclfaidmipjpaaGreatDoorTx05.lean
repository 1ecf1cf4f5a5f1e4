/- Texts of this claim, joined: JD. -/
import Derived.Test.YtfclfaidmipjpaaGreatDoorCo05
import Derived.Test.YtfclfaidmipjpaaGreatDoorTx00
namespace Go.Proofs.YtfclfaidmipjpaaGreatDoor
set_option maxRecDepth 100000
set_option maxHeartbeats 20000000
open Go.RowKit
/-! ### Nat6 -/
/-! ### Dec1 -/
/-! ### Dec2 -/
/-! ### Par1 -/
/-! ### Par2 -/
/-! ### DecM -/
/-! ### Dec5 -/
theorem DecAt.alloc {w : World} {b : Nat} {d : Dec} (h : DecAt w b d) (o : Obj) : DecAt (w.alloc o) b d := h.under ((Below.refl _ _).alloc (Nat.le_refl _) o)
/-! ### Ref1 -/
theorem digAll_snoc (l : List UInt8) (j : Nat) (h : j < l.length) (hd : digAll (l.take j) = true) (hb : digB (l.getD j 0) = true) : digAll (l.take (j + 1)) = true := by
 rw [take_snoc8 l j h]
 simp only [digAll, List.all_append] at hd ⊢
 rw [hd, List.all_cons, hb]; rfl
theorem digAll_not (l : List UInt8) (j : Nat) (h : j < l.length) (hb : digB (l.getD j 0) = false) : digAll l = false := by
 simp only [digAll, List.all_eq_false]
 exact ⟨_, List.getElem_mem h, by have e : l.getD j 0 = l[j] := by simp [h]
                                  rw [← e, hb]; exact Bool.false_ne_true⟩
theorem mayB_not {d : Dec} (h : digAll d.digits = false) : mayB d = false := by
 cases hd : d.digits with
 | nil => rw [hd] at h; simp [digAll] at h
 | cons c t => rw [hd] at h; simp only [mayB, hd, h]; simp
theorem may_at (l : List UInt8) (j : Nat) (h : j < l.length) : (⟨l.toArray⟩ : ByteArray)[j]'(by simpa [ByteArray.size] using h) = l.getD j 0 := by
 show l.toArray[j]'(by simpa using h) = _
 simp [h]
theorem mayR_calls (w : World) (d : Dec) (hsz : d.digits.length ≤ 100000000000) :
  Calls Tryz.prog 99 #[.agg #[.bool d.neg, .string ⟨d.digits.toArray⟩, .int .i64 d.exp]] w fun e w' => e = .returned (.bool (mayB d)) ∧ Below w.heap.size w w' := by
 obtain ⟨neg, l, exp⟩ := d
 simp only at hsz ⊢
 have hb : Below w.heap.size w (w.alloc (Obj.cells #[Value.bool neg, Value.string { data := l.toArray }, Value.int IntKind.i64 exp] 26)) := (Below.refl _ _).alloc (Nat.le_refl _) _
 have hd := DecAt.at w ⟨neg, l, exp⟩ _ rfl
 have c0 := hd.c0
 have c1 := hd.c1
 have c2 := hd.c2
 simp only at c0 c1 c2
 clear hd
 go_enter Tryz.func99, Tryz.ntmps99
 go_wp2_with fail
 generalize w.alloc (Obj.cells #[Value.bool neg, Value.string { data := l.toArray }, Value.int IntKind.i64 exp] 26) = w1 at *
 go_loopg [4] l.length (fun k i wr => ∃ j : Nat, k = l.length - j ∧ j ≤ l.length ∧ i = .int .i64 j ∧ digAll (l.take j) = true ∧ w1 = wr)
 case atStart => exact ⟨0, rfl, by omega, rfl, rfl, rfl⟩
 case round =>
  obtain ⟨j, hk, hj, rfl, hd, rfl⟩ := hrel
  have Hk := Lib.hid hk
  have Hd := Lib.hid hd
  clear hk hd
  by_cases hlt : j < l.length
  ·have hlt' : (j : Int) < l.length := by omega
   have hij := may_at l j hlt
   have Hs := Lib.hid (digAll_snoc l j hlt Hd.out)
   have Hn := Lib.hid (fun h => mayB_not (d := ⟨neg, l, exp⟩) (digAll_not l j hlt h))
   have hc : (l.getD j 0).toNat < 256 := (l.getD j 0).toNat_lt
   have Hb : Hid (digB (l.getD j 0) = (decide (48 ≤ (l.getD j 0).toNat) && decide ((l.getD j 0).toNat ≤ 57))) := rfl
   generalize l.getD j 0 = c at *
   by_cases h1 : c.toNat < 48
   ·have h1' : decide ((c.toNat : Int) < 48) = true := by simp; omega
    have hf := Hn.out (by rw [Hb.out]; simp; omega)
    have Hf := Lib.hid hf
    clear hf
    go_wp2_with fail
    go_ret
    exact ⟨by rw [Hf.out]; rfl, hb⟩
   ·have h1' : decide ((c.toNat : Int) < 48) = false := by simp; omega
    by_cases h2 : 57 < c.toNat
    ·have h2' : decide ((57 : Int) < (c.toNat : Int)) = true := by simp; omega
     have hf := Hn.out (by rw [Hb.out]; simp; omega)
     have Hf := Lib.hid hf
     clear hf
     go_wp2_with fail
     go_ret
     exact ⟨by rw [Hf.out]; rfl, hb⟩
    ·have h2' : decide ((57 : Int) < (c.toNat : Int)) = false := by simp; omega
     go_wp2_with fail
     go_roundg (l.length - (j + 1))
     case measure => have := Hk.out; omega
     case rel => exact ⟨j + 1, rfl, by omega, by go_num, Hs.out (by rw [Hb.out]; simp; omega), rfl⟩
  ·obtain rfl : j = l.length := by omega
   have hall := Hd.out
   rw [List.take_of_length_le (Nat.le_refl _)] at hall
   clear Hk Hd hj hlt
   cases l with
   | nil =>
    have Hf : Hid (mayB ⟨neg, [], exp⟩ = (!neg && decide (exp = 0))) := rfl
    clear hall
    cases neg with
    | true =>
     go_wp2_with fail
     go_ret
     exact ⟨by rw [Hf.out]; rfl, hb⟩
    | false =>
     by_cases h0 : exp = 0
     ·subst h0
      go_wp2_with fail
      go_ret
      exact ⟨by rw [Hf.out]; rfl, hb⟩
     ·have h0' : (exp == 0) = false := by simp [h0]
      have Hf2 : Hid (mayB ⟨false, [], exp⟩ = false) := by show mayB ⟨false, [], exp⟩ = false; rw [Hf.out]; simp [h0]
      go_wp2_with fail
      go_ret
      exact ⟨by rw [Hf2.out]; rfl, hb⟩
   | cons c t =>
    have hi0 := may_at (c :: t) 0 (by simp)
    have hiL := may_at (c :: t) t.length (by simp)
    rw [show (c :: t).getD 0 0 = c from rfl] at hi0
    obtain ⟨x, hx⟩ : ∃ x, x = (c :: t).getD t.length 0 := ⟨_, rfl⟩
    rw [← hx] at hiL
    have hf : mayB ⟨neg, c :: t, exp⟩ = (decide (t.length + 1 ≤ 100) && !(c == 48) && !(x == 48) && decide (-1000 ≤ exp) && decide (exp ≤ 1000)) := by
     simp only [mayB, hall, Bool.true_and, hx]
    have h48 : ∀ y : UInt8, (y == 48) = decide (y.toNat = 48) := fun y => by
     rw [Bool.eq_iff_iff, beq_iff_eq, decide_eq_true_eq, ← UInt8.toNat_inj]; rfl
    rw [h48, h48] at hf
    have Hf := Lib.hid hf
    clear hall hx hf h48
    go_wp2_with fail
    all_goals
     go_ret
     refine ⟨?_, hb⟩
     rw [Hf.out]
     refine congrArg (fun b => Ending.returned (Value.bool b)) ?_
     show (_ : Bool) = _
     rw [Bool.eq_iff_iff]
     simp only [Bool.and_eq_true, Bool.not_eq_true', decide_eq_true_eq, decide_eq_false_iff_not, Bool.false_eq_true, bne_iff_ne, ne_eq]
     refine ⟨fun h => ?_, fun h => ?_⟩
     all_goals first | omega | exact h.elim
/-! ### Ref2 -/
theorem trim0_step (l : List UInt8) (j : Nat) (h : j < l.length) (h1 : trim0 l = trim0 (l.drop j)) (hc : l.getD j 0 = 48) : trim0 l = trim0 (l.drop (j + 1)) := by
 rw [h1, List.drop_eq_getElem_cons h]
 have e : l.getD j 0 = l[j] := by simp [h]
 rw [← e, hc]; rfl
theorem trim0_stop (l : List UInt8) (j : Nat) (h : j < l.length) (h1 : trim0 l = trim0 (l.drop j)) (hc : l.getD j 0 ≠ 48) : trim0 l = l.drop j := by
 rw [h1, List.drop_eq_getElem_cons h]
 have e : l.getD j 0 = l[j] := by simp [h]
 rw [← e]
 unfold trim0
 rw [List.dropWhile_cons, if_neg (by simpa using hc)]
theorem plainR_calls (w : World) (l : List UInt8) (hl : l.length ≤ 1000000000000) :
  Calls Tryz.prog 203 #[.string ⟨l.toArray⟩] w fun e w' => e = .returned (.string ⟨(trim0 l).toArray⟩) ∧ w = w' := by
 go_enter Tryz.func203, Tryz.ntmps203
 go_wp2_with fail
 go_loopg [3] l.length (fun k i wr => ∃ j : Nat, k = l.length - j ∧ j ≤ l.length ∧ i = .int .i64 j ∧ trim0 l = trim0 (l.drop j) ∧ w = wr)
 case atStart => exact ⟨0, rfl, by omega, rfl, by simp, rfl⟩
 case round =>
  obtain ⟨j, hk, hj, rfl, hd, rfl⟩ := hrel
  have Hk := Lib.hid hk
  have Hd := Lib.hid hd
  clear hk hd
  have hx1 : (⟨l.toArray⟩ : ByteArray).extract j l.length = ⟨(l.drop j).toArray⟩ := by rw [Lib.extract_eq]; rw [List.take_of_length_le (by simp)]
  by_cases hlt : j < l.length
  ·have hlt' : (j : Int) < l.length := by omega
   have hij := may_at l j hlt
   have Hs := Lib.hid (trim0_step l j hlt Hd.out)
   have Hn := Lib.hid (trim0_stop l j hlt Hd.out)
   generalize l.getD j 0 = c at *
   by_cases h1 : c = 48
   ·subst h1
    go_wp2_with fail
    go_roundg (l.length - (j + 1))
    case measure => have := Hk.out; omega
    case rel => exact ⟨j + 1, rfl, by omega, by go_num, Hs.out (by first | trivial | rfl), rfl⟩
   ·have h1' : ((c.toNat : Int) == 48) = false := by
     rw [beq_eq_false_iff_ne]; intro h; exact h1 (UInt8.toNat_inj.1 (by show c.toNat = 48; omega))
    have Hf := Lib.hid (Hn.out h1)
    clear Hn Hs h1
    go_wp2_with fail
    go_ret
    exact ⟨by rw [Hf.out]; rfl, rfl⟩
  ·obtain rfl : j = l.length := by omega
   have Hf : Hid (trim0 l = []) := by show _ = _; rw [Hd.out]; simp [trim0]
   go_wp2_with fail
   go_ret
   exact ⟨by rw [Hf.out]; rfl, rfl⟩
theorem trimR_snoc48 (l : List UInt8) : trimR (l ++ [48]) = trimR l := by simp [trimR]
theorem trimR_stop (l : List UInt8) (c : UInt8) (h : c ≠ 48) : trimR (l ++ [c]) = l ++ [c] := by simp [trimR, h]
theorem trimR_take (t : List UInt8) (m : Nat) (h : m < t.length) (h1 : trimR t = trimR (t.take (m + 1))) (hc : t.getD m 0 = 48) : trimR t = trimR (t.take m) := by
 rw [h1, take_snoc8 t m h, hc, trimR_snoc48]
theorem trimR_end (t : List UInt8) (m : Nat) (h : m < t.length) (h1 : trimR t = trimR (t.take (m + 1))) (hc : t.getD m 0 ≠ 48) : trimR t = t.take (m + 1) := by
 rw [h1, take_snoc8 t m h, trimR_stop _ _ hc]
theorem trimR_nil_iff (l : List UInt8) (h : trim0 l = l) : trimR l = [] ↔ l = [] := by
 constructor
 ·intro h1
  cases l with
  | nil => rfl
  | cons c t =>
   exfalso
   have hc := trim0_head h
   have key : ∀ l : List UInt8, l.dropWhile (· == 48) = [] → ∀ y ∈ l, y = 48 := by
    intro l
    induction l with
    | nil => simp
    | cons a l ih =>
     intro h2 y hy
     rw [List.dropWhile_cons] at h2
     by_cases ha : (a == 48) = true
     ·rw [if_pos ha] at h2
      rcases List.mem_cons.1 hy with rfl | hy
      ·simpa using ha
      ·exact ih h2 y hy
     ·rw [if_neg ha] at h2; cases h2
   simp only [trimR, List.reverse_eq_nil_iff] at h1
   exact hc (key _ h1 c (by simp))
 ·rintro rfl; rfl
theorem DecAt.drew {w : World} {b : Nat} {d : Dec} (h : DecAt w b d) : DecAt w.drew b d := ⟨h.c0, h.c1, h.c2, h.f0, h.f1, h.f2, h.lt⟩
def MadeOut (neg : Bool) (l : List UInt8) (exp : Int) (e : Ending) : Prop :=
 ∃ x b, e = .returned (.tuple #[DecV x, .bool b]) ∧ ((b = true ∧ madeS neg l exp = (x, 0)) ∨ (b = false ∧ madeS neg l exp = (Dec.zero, 4)))
theorem madeR_calls (w : World) (neg : Bool) (l : List UInt8) (exp : Int) (hl : l.length ≤ 10000000000) (h1 : -1000000000000 ≤ exp) (h2 : exp ≤ 1000000000000) :
  Calls Tryz.prog 159 #[.bool neg, .string ⟨l.toArray⟩, .int .i64 exp] w fun e w' => MadeOut neg l exp e ∧ Below w.heap.size w w' := by
 have hl0 := trim0_len l
 have htt := trim0_trim0 l
 have hms : madeS neg l exp = if trim0 l = [] then (Dec.zero, 0) else if mayB (decOf neg (trim0 l) exp) then (decOf neg (trim0 l) exp, 0) else (Dec.zero, 4) := rfl
 have Hms := Lib.hid hms
 have Htt := Lib.hid htt
 clear hms htt
 have hrz := DecAt.at w Dec.zero _ rfl
 have Hrz := Lib.hid hrz
 clear hrz
 have hbz : Below w.heap.size w (w.alloc (Obj.cells #[Value.bool false, Value.string { data := #[] }, Value.int IntKind.i64 0] 26)) := (Below.refl _ _).alloc (Nat.le_refl _) _
 go_enter Tryz.func159, Tryz.ntmps159
 go_wp2_with fail
 refine (plainR_calls _ l (by omega)).mono ?_
 rintro e w1 ⟨rfl, rfl⟩
 have Hrz2 : Hid (DecAt (w.alloc (Obj.cells #[Value.bool false, Value.string { data := #[] }, Value.int IntKind.i64 0] 26)) w.heap.size Dec.zero) := Hrz.out
 clear Hrz
 generalize w.alloc (Obj.cells #[Value.bool false, Value.string { data := #[] }, Value.int IntKind.i64 0] 26) = w1 at *
 generalize trim0 l = t at *
 go_wp2_with fail
 go_loopg [2, 8] t.length (fun k x s wr => ∃ m : Nat, k = m ∧ m ≤ t.length ∧ s = .string ⟨(t.take m).toArray⟩ ∧ x = .int .i64 (exp + (t.length - m : Nat)) ∧ trimR t = trimR (t.take m) ∧ w1 = wr)
 case atStart => exact ⟨t.length, rfl, by omega, by rw [List.take_of_length_le (Nat.le_refl _)], by simp, by rw [List.take_of_length_le (Nat.le_refl _)], rfl⟩
 case round =>
  obtain ⟨m, hk, hm, rfl, rfl, htr, rfl⟩ := hrel
  have Hk := Lib.hid hk
  have Htr := Lib.hid htr
  clear hk htr
  by_cases hm0 : m = 0
  ·subst hm0
   have ht0 : t = [] := (trimR_nil_iff t Htt.out).1 (by rw [Htr.out]; rfl)
   subst ht0
   have Hms2 : Hid (madeS neg l exp = (Dec.zero, 0)) := by show madeS neg l exp = _; rw [Hms.out]; rfl
   have c0 := Hrz2.out.c0
   have c1 := Hrz2.out.c1
   have c2 := Hrz2.out.c2
   have f0 := Hrz2.out.f0
   have f1 := Hrz2.out.f1
   have f2 := Hrz2.out.f2
   simp only [Dec.zero] at c0 c1 c2
   go_wp2_with fail
   refine bodyPost_ret (v := .tuple #[.agg #[.bool false, .string ⟨#[]⟩, .int .i64 0], .bool true]) (by simp [results, Tryz.results159, go_sem, c0, c1, c2]) rfl ?_
   refine ⟨⟨Dec.zero, true, rfl, .inl ⟨rfl, Hms2.out⟩⟩, ?_⟩
   exact ((hbz.setCell (Nat.le_refl _) _).setCell (Nat.le_refl _) _).setCell (Nat.le_refl _) _
  ·obtain ⟨k, rfl⟩ : ∃ k, m = k + 1 := ⟨m - 1, by omega⟩
   have hidx : (⟨(t.take (k + 1)).toArray⟩ : ByteArray)[k]'(by simp [ByteArray.size]; omega) = t.getD k 0 := by
    rw [may_at _ _ (by simp; omega)]; simp
   have hsz : (⟨(t.take (k + 1)).toArray⟩ : ByteArray).size = k + 1 := by simp [ByteArray.size]; omega
   have hext : (⟨(t.take (k + 1)).toArray⟩ : ByteArray).extract 0 k = ⟨(t.take k).toArray⟩ := by rw [Lib.extract_eq]; simp [List.take_take]
   have Hs := Lib.hid (trimR_take t k (by omega) Htr.out)
   have Hn := Lib.hid (trimR_end t k (by omega) Htr.out)
   have hlen : (t.take (k + 1)).length = k + 1 := by simp; omega
   have Hlen := Lib.hid hlen
   clear hlen
   have hg : (t.take (k + 1)).getD k 0 = t.getD k 0 := by simp
   have Hg := Lib.hid hg
   clear hg
   generalize t.getD k 0 = c at *
   by_cases h1 : c = 48
   ·subst h1
    clear Hn Hg
    go_wp2_with fail
    go_roundg k
    case measure => have := Hk.out; omega
    case rel => exact ⟨k, rfl, by omega, rfl, by rw [show ((t.length - k : Nat) : Int) = ((t.length - (k + 1) : Nat) : Int) + 1 by omega]; go_num, Hs.out (by first | trivial | rfl), rfl⟩
   ·have h1' : ((c.toNat : Int) == 48) = false := by
     rw [beq_eq_false_iff_ne]; intro h; exact h1 (UInt8.toNat_inj.1 (by show c.toNat = 48; omega))
    have hR := Hn.out h1
    obtain ⟨E, hE⟩ : ∃ E, E = exp + ((t.length - (k + 1) : Nat) : Int) := ⟨_, rfl⟩
    have hE1 : -1000000000000 ≤ E := by omega
    have hE2 : E ≤ 1100000000000 := by omega
    rw [← hE]
    have hdo : decOf neg t exp = ⟨neg, t.take (k + 1), E⟩ := by
     have e1 : exp + (t.length : Int) - ((t.take (k + 1)).length : Int) = E := by have h9 : ((t.take (k + 1)).length : Int) = ((k + 1 : Nat) : Int) := congrArg Nat.cast Hlen.out; rw [hE, h9]; omega
     unfold decOf; rw [hR, e1]
    have hne : t ≠ [] := by intro e; subst e; simp at hm
    have Hms2 : Hid (madeS neg l exp = if mayB ⟨neg, t.take (k + 1), E⟩ then (⟨neg, t.take (k + 1), E⟩, 0) else (Dec.zero, 4)) := by show madeS neg l exp = _; rw [Hms.out, if_neg hne, hdo]
    have hRl : (t.take (k + 1)).length ≤ 100000000000 := by rw [Hlen.out]; omega
    obtain ⟨x, R, hxR⟩ : ∃ x R, t.take (k + 1) = x :: R := by
     cases hq : t.take (k + 1) with
     | nil => have := Hlen.out; rw [hq] at this; simp at this
     | cons x R => exact ⟨x, R, rfl⟩
    obtain rfl : k = R.length := by have h9 := Hlen.out; rw [hxR] at h9; simpa using h9.symm
    have hg2 := Hg.out
    rw [hxR] at hg2
    have hix : (⟨(x :: R).toArray⟩ : ByteArray)[R.length]'(by simp [ByteArray.size]) = c := by rw [may_at (x :: R) R.length (by simp)]; exact hg2
    clear hidx hsz hext hg2 Hg
    rw [hxR] at Hms2 hRl ⊢
    clear hR hdo hne hE Hs Hn Hlen Hms Htt Htr Hk hxR h1
    have hd := DecAt.at w1 ⟨neg, x :: R, E⟩ _ rfl
    have Hd := Lib.hid hd
    clear hd
    have Hz := Lib.hid (Hrz2.out.alloc (Obj.cells #[Value.bool neg, Value.string { data := (x :: R).toArray }, Value.int IntKind.i64 E] 26))
    have hbd := hbz.alloc hbz.size (Obj.cells #[Value.bool neg, Value.string { data := (x :: R).toArray }, Value.int IntKind.i64 E] 26)
    have hne2 : w.heap.size ≠ w1.heap.size := Nat.ne_of_lt Hrz2.out.lt
    clear Hrz2
    go_wp2_with fail
    generalize w1.alloc (Obj.cells #[Value.bool neg, Value.string { data := (x :: R).toArray }, Value.int IntKind.i64 E] 26) = w2 at *
    have hS0 : (fun w' => w'.cell? ⟨w1.heap.size, 0, none⟩ = some (.bool neg) ∧ w'.cell? ⟨w1.heap.size, 1, none⟩ = some (.string ⟨(x :: R).toArray⟩) ∧ w'.cell? ⟨w1.heap.size, 2, none⟩ = some (.int .i64 E)) w2.drew := ⟨Hd.out.c0, Hd.out.c1, Hd.out.c2⟩
    refine wp_region_held_drew (S := (fun w' => w'.cell? ⟨w1.heap.size, 0, none⟩ = some (.bool neg) ∧ w'.cell? ⟨w1.heap.size, 1, none⟩ = some (.string ⟨(x :: R).toArray⟩) ∧ w'.cell? ⟨w1.heap.size, 2, none⟩ = some (.int .i64 E))) (by kernel_rfl) hS0 (fun hHeld0 => ?_)
    refine held_take (i := 0) (v := ?_) rfl (by kernel_rfl) (by kernel_rfl) (by kernel_rfl) (fun _ _ _ h => h) (by rfl) (fun w hSw => ?_) hHeld0 ?_
    rotate_left
    ·(try dsimp only at hSw); go_simp; try with_reducible rfl
    simp only [Act.put, sbA, sbB, sbC]
    refine held_take (i := 1) (v := ?_) rfl (by kernel_rfl) (by kernel_rfl) (by kernel_rfl) (fun _ _ _ h => h) (by rfl) (fun w hSw => ?_) hHeld0 ?_
    rotate_left
    ·(try dsimp only at hSw); go_simp; try with_reducible rfl
    simp only [Act.put, sbA, sbB, sbC]
    refine held_step (i := 2) (by kernel_rfl) rfl (by rfl) (fun K hK => ?_)
    go_simp
    refine (mayR_calls _ ⟨neg, x :: R, E⟩ hRl).mono ?_
    rintro e w3 ⟨rfl, hb3⟩
    dsimp only
    have Hd3 := Lib.hid (Hd.out.drew.under hb3)
    have Hz3 := Lib.hid (Hz.out.drew.under hb3)
    have hb4 := hbd.drew.trans (hb3.mono hbd.size)
    clear Hd Hz hbd hb3
    have z0 := Hz3.out.c0
    have z1 := Hz3.out.c1
    have z2 := Hz3.out.c2
    have g0 := Hz3.out.f0
    have g1 := Hz3.out.f1
    have g2 := Hz3.out.f2
    refine hK.out _ _ ⟨Hd3.out.c0, Hd3.out.c1, Hd3.out.c2⟩ (fun hHeld1 => ?_)
    clear hK K hHeld0
    refine held_step (i := 3) (by kernel_rfl) rfl (by rfl) (fun K hK => ?_)
    go_simp
    refine hK.out _ _ ⟨by rw [World.cell?_setCell_far _ _ _ _ hne2, World.cell?_setCell_far _ _ _ _ hne2, World.cell?_setCell_far _ _ _ _ hne2]; exact Hd3.out.c0, by rw [World.cell?_setCell_far _ _ _ _ hne2, World.cell?_setCell_far _ _ _ _ hne2, World.cell?_setCell_far _ _ _ _ hne2]; exact Hd3.out.c1, by rw [World.cell?_setCell_far _ _ _ _ hne2, World.cell?_setCell_far _ _ _ _ hne2, World.cell?_setCell_far _ _ _ _ hne2]; exact Hd3.out.c2⟩ (fun hHeld2 => ?_)
    clear hK K hHeld1
    refine held_take (i := 4) (v := ?_) rfl (by kernel_rfl) (by kernel_rfl) (by kernel_rfl) (fun _ _ _ h => h) (by rfl) (fun w hSw => ?_) hHeld2 ?_
    rotate_left
    ·(try dsimp only at hSw); go_simp; try with_reducible rfl
    simp only [Act.put, sbA, sbB, sbC]
    refine wpAnyH_done (by kernel_rfl) ?_ _
    clear hHeld2
    clear hS0
    have hbf := ((hb4.setCell (p := ⟨w.heap.size, 0, none⟩) (Nat.le_refl _) (.bool neg)).setCell (p := ⟨w.heap.size, 1, none⟩) (Nat.le_refl _) (.string ⟨(x :: R).toArray⟩)).setCell (p := ⟨w.heap.size, 2, none⟩) (Nat.le_refl _) (.int .i64 E)
    go_wp2_with fail
    refine bodyPost_ret (v := .tuple #[.agg #[.bool neg, .string ⟨(x :: R).toArray⟩, .int .i64 E], .bool (mayB ⟨neg, x :: R, E⟩)]) (by simp [results, Tryz.results159, go_sem, z0, z1, z2]) rfl ?_
    refine ⟨⟨⟨neg, x :: R, E⟩, mayB ⟨neg, x :: R, E⟩, rfl, ?_⟩, hbf⟩
    have := Hms2.out
    cases hm : mayB ⟨neg, x :: R, E⟩ with
    | true => rw [hm] at this; exact .inl ⟨rfl, this⟩
    | false => rw [hm] at this; exact .inr ⟨rfl, this⟩
/-! ### RefL -/
theorem drop_cons {l : List UInt8} {n : Nat} {c : UInt8} {t : List UInt8} (h : l.drop n = c :: t) : n < l.length ∧ l.getD n 0 = c ∧ l.drop (n + 1) = t := by
 have hn : n < l.length := by
  apply Nat.lt_of_not_le; intro h1
  rw [List.drop_of_length_le h1] at h; cases h
 rw [List.drop_eq_getElem_cons hn] at h
 injection h with h1 h2
 refine ⟨hn, ?_, h2⟩
 have e : l.getD n 0 = l[n] := by simp [hn]
 rw [e, h1]
theorem drop_none {l : List UInt8} {n : Nat} (h : l.drop n = []) (hn : n ≤ l.length) : n = l.length := by
 have := congrArg List.length h
 simp at this; omega
theorem drop_digs (l : List UInt8) (n : Nat) (hn : n ≤ l.length) : l.drop (n + (digsS (l.drop n)).length) = restS (l.drop n) ∧ n + (digsS (l.drop n)).length ≤ l.length ∧ (l.drop n).take (digsS (l.drop n)).length = digsS (l.drop n) := by
 have h := digs_rest (l.drop n)
 have hl := digs_len (l.drop n)
 refine ⟨?_, by simp at hl; omega, ?_⟩
 ·rw [← List.drop_drop]
  conv => lhs; arg 2; rw [← h]
  rw [List.drop_left]
 ·conv => lhs; arg 2; rw [← h]
  rw [List.take_left]
def powR (s : List UInt8) : Int := ((min 1000000 (dval s) : Nat) : Int)
theorem powR_snoc (s : List UInt8) (c : UInt8) (h : 48 ≤ c.toNat) : (min 1000000 (10 * powR s + ((c.toNat : Int) - 48)) : Int) = powR (s ++ [c]) := by
 unfold powR
 rw [dval_snoc]
 omega
theorem powR_bd (s : List UInt8) : 0 ≤ powR s ∧ powR s ≤ 1000000 := by unfold powR; omega
theorem mayB_far (neg : Bool) (l : List UInt8) (e : Int) (hl : l ≠ []) (h : 1000 < e ∨ e < -1000) : mayB ⟨neg, l, e⟩ = false := by
 cases l with
 | nil => exact absurd rfl hl
 | cons c t =>
  simp only [mayB]
  rcases h with h | h
  ·rw [decide_eq_false (show ¬ e ≤ 1000 by omega), Bool.and_false]
  ·rw [decide_eq_false (show ¬ -1000 ≤ e by omega), Bool.and_false, Bool.false_and]
theorem trimR_ne {c : UInt8} {t : List UInt8} (h : trim0 (c :: t) = c :: t) : trimR (c :: t) ≠ [] := by
 have hc := trim0_head h
 intro h1
 have key : ∀ l : List UInt8, l.dropWhile (· == 48) = [] → ∀ y ∈ l, y = 48 := by
  intro l
  induction l with
  | nil => simp
  | cons a l ih =>
   intro h2 y hy
   rw [List.dropWhile_cons] at h2
   by_cases ha : (a == 48) = true
   ·rw [if_pos ha] at h2
    rcases List.mem_cons.1 hy with rfl | hy
    ·simpa using ha
    ·exact ih h2 y hy
   ·rw [if_neg ha] at h2; cases h2
 simp only [trimR, List.reverse_eq_nil_iff] at h1
 exact hc (key _ h1 c (by simp))
theorem madeS_far (neg : Bool) (a : List UInt8) (e e' : Int) (ha : a.length ≤ 2000) (h : (100000 < e ∧ 100000 < e') ∨ (e < -100000 ∧ e' < -100000)) : madeS neg a e = madeS neg a e' := by
 have hl := trim0_len a
 cases ht : trim0 a with
 | nil => simp only [madeS, ht, if_true]
 | cons c t =>
  have htt : trim0 (c :: t) = c :: t := by rw [← ht]; exact trim0_trim0 a
  have hne := trimR_ne htt
  have hlr := trimR_len (c :: t)
  rw [ht] at hl
  simp only [List.length_cons] at hl hlr
  have h1 : ∀ x : Int, (100000 < x ∨ x < -100000) → mayB (decOf neg (c :: t) x) = false := fun x hx => by
   unfold decOf
   apply mayB_far _ _ _ hne
   simp only [List.length_cons]
   omega
  unfold madeS
  rw [ht, h1 e (by omega), h1 e' (by omega), if_neg Bool.false_ne_true, if_neg Bool.false_ne_true]
theorem pow_same (neg : Bool) (a : List UInt8) (x : Int) (s : List UInt8) (hs : Dig s) (ha : a.length ≤ 2000) (h1 : -1000 ≤ x) (h2 : x ≤ 0) :
  madeS neg a (x + powerS s) = madeS neg a (x + powR s) ∧ madeS neg a (x + -powerS s) = madeS neg a (x + -powR s) := by
 have hv := dval_trim0 s
 by_cases h7 : 7 < (trim0 s).length
 ·have hp : powerS s = 10000000 := by simp [powerS, h7]
  have hr : powR s = 1000000 := by
   unfold powR
   cases ht : trim0 s with
   | nil => rw [ht] at h7; simp at h7
   | cons c t =>
    have hd := Dig_trim0 hs
    have htt := trim0_trim0 s
    rw [ht] at hd htt h7 hv
    have h3 := dval_low hd (trim0_head htt)
    have h4 : 10 ^ 7 ≤ 10 ^ t.length := Nat.pow_le_pow_right (by omega) (by simp at h7; omega)
    omega
  rw [hp, hr]
  exact ⟨madeS_far _ _ _ _ ha (.inl ⟨by omega, by omega⟩), madeS_far _ _ _ _ ha (.inr ⟨by omega, by omega⟩)⟩
 ·have hp : powerS s = dval s := by simp [powerS, h7, hv]
  by_cases hd : dval s ≤ 1000000
  ·have hr : powR s = dval s := by unfold powR; omega
   rw [hp, hr]; exact ⟨rfl, rfl⟩
  ·have hr : powR s = 1000000 := by unfold powR; omega
   rw [hp, hr]
   exact ⟨madeS_far _ _ _ _ ha (.inl ⟨by omega, by omega⟩), madeS_far _ _ _ _ ha (.inr ⟨by omega, by omega⟩)⟩
/-! ### RefD -/
theorem digitsR_calls (w : World) (l : List UInt8) (at_ : Nat) (hl : l.length ≤ 1000000000000) (ha : at_ ≤ l.length) :
  Calls Tryz.prog 158 #[.string ⟨l.toArray⟩, .int .i64 (at_ : Int)] w fun e w' => e = .returned (.int .i64 ((at_ + (digsS (l.drop at_)).length : Nat) : Int)) ∧ w = w' := by
 go_enter Tryz.func158, Tryz.ntmps158
 go_wp2_with fail
 go_loopg [1] (l.length - at_) (fun k i wr => ∃ j : Nat, k = l.length - j ∧ at_ ≤ j ∧ j ≤ l.length ∧ i = .int .i64 j ∧ digAll ((l.drop at_).take (j - at_)) = true ∧ w = wr)
 case atStart => exact ⟨at_, rfl, by omega, by omega, rfl, by simp [digAll], rfl⟩
 case round =>
  obtain ⟨j, hk, haj, hj, rfl, hd, rfl⟩ := hrel
  have Hk := Lib.hid hk
  have Hd := Lib.hid hd
  clear hk hd
  by_cases hlt : j < l.length
  ·have hlt' : (j : Int) < l.length := by omega
   have hij := may_at l j hlt
   have hg : (l.drop at_).getD (j - at_) 0 = l.getD j 0 := by
    simp only [List.getD_eq_getElem?_getD, List.getElem?_drop]; rw [show at_ + (j - at_) = j by omega]
   have Hs := Lib.hid (digAll_snoc (l.drop at_) (j - at_) (by simp; omega) Hd.out)
   have Hn := Lib.hid (digs_at (l.drop at_) (j - at_) Hd.out (by simp; omega))
   rw [hg] at Hs Hn
   clear hg
   have hc : (l.getD j 0).toNat < 256 := (l.getD j 0).toNat_lt
   have Hb : Hid (digB (l.getD j 0) = (decide (48 ≤ (l.getD j 0).toNat) && decide ((l.getD j 0).toNat ≤ 57))) := rfl
   have Hlen : Hid ((digsS (l.drop at_)) = (l.drop at_).take (j - at_) → at_ + (digsS (l.drop at_)).length = j) := fun h => by rw [h]; simp; omega
   generalize l.getD j 0 = c at *
   by_cases h1 : 48 ≤ c.toNat
   ·have h1' : decide ((48 : Int) ≤ (c.toNat : Int)) = true := by simp; omega
    by_cases h2 : c.toNat ≤ 57
    ·have h2' : decide ((c.toNat : Int) ≤ 57) = true := by simp; omega
     clear Hn Hlen
     go_wp2_with fail
     go_roundg (l.length - (j + 1))
     case measure => have := Hk.out; omega
     case rel =>
      have := Hs.out (by rw [Hb.out]; simp; omega)
      exact ⟨j + 1, rfl, by omega, by omega, by go_num, by rw [show j + 1 - at_ = j - at_ + 1 by omega]; exact this, rfl⟩
    ·have h2' : decide ((c.toNat : Int) ≤ 57) = false := by simp; omega
     have hf := Hlen.out (Hn.out (.inr (by rw [Hb.out]; simp; omega))).1
     have Hf := Lib.hid hf
     clear hf Hlen Hn Hs
     go_wp2_with fail
     go_ret
     exact ⟨by rw [Hf.out]; rfl, rfl⟩
   ·have h1' : decide ((48 : Int) ≤ (c.toNat : Int)) = false := by simp; omega
    have hf := Hlen.out (Hn.out (.inr (by rw [Hb.out]; simp; omega))).1
    have Hf := Lib.hid hf
    clear hf Hlen Hn Hs
    go_wp2_with fail
    go_ret
    exact ⟨by rw [Hf.out]; rfl, rfl⟩
  ·obtain rfl : j = l.length := by omega
   have hn := (digs_at (l.drop at_) (l.length - at_) Hd.out (by simp) (.inl (by simp))).1
   have Hf : Hid (at_ + (digsS (l.drop at_)).length = l.length) := by show _ = _; rw [hn]; simp; omega
   clear hn
   go_wp2_with fail
   go_ret
   exact ⟨by rw [Hf.out]; rfl, rfl⟩
/-! ### Ref3 -/
theorem parseR_calls (w : World) (l : List UInt8) (hl : l.length ≤ 1000000000) :
  Calls Tryz.prog 126 #[.string ⟨l.toArray⟩] w fun e w' => e = .returned (.tuple #[DecV (parseS l).1, .int .i64 (parseS l).2]) ∧ Below w.heap.size w w' := by
 have hrz := DecAt.at w Dec.zero _ rfl
 have c0 := hrz.c0
 have c1 := hrz.c1
 have c2 := hrz.c2
 have f0 := hrz.f0
 have f1 := hrz.f1
 have f2 := hrz.f2
 clear hrz
 simp only [Dec.zero] at c0 c1 c2 f0 f1 f2
 have hbz : Below w.heap.size w (w.alloc (Obj.cells #[Value.bool false, Value.string { data := #[] }, Value.int IntKind.i64 0] 26)) := (Below.refl _ _).alloc (Nat.le_refl _) _
 generalize hw1 : w.alloc (Obj.cells #[Value.bool false, Value.string { data := #[] }, Value.int IntKind.i64 0] 26) = w1 at *
 have Hw1 := Lib.hid hw1
 clear hw1
 have hbe := ((hbz.setCell (p := ⟨w.heap.size, 0, none⟩) (Nat.le_refl _) (.bool false)).setCell (p := ⟨w.heap.size, 1, none⟩) (Nat.le_refl _) (.string ⟨#[]⟩)).setCell (p := ⟨w.heap.size, 2, none⟩) (Nat.le_refl _) (.int .i64 0)
 go_enter Tryz.func126, Tryz.ntmps126
 go_upto_region 1 with fail
 rw [Hw1.out]
 clear Hw1
 by_cases hlong : 1000 < l.length
 ·have hlong' : (1000 : Int) < l.length := by omega
  have HP : Hid (parseS l = (Dec.zero, 3)) := by show parseS l = _; unfold parseS; rw [if_pos hlong]
  go_wp2_with fail
  refine bodyPost_ret (v := .tuple #[.agg #[.bool false, .string ⟨#[]⟩, .int .i64 0], .int .i64 3]) (by simp [results, Tryz.results126, go_sem, c0, c1, c2]) rfl ?_
  rw [HP.out]
  exact ⟨rfl, hbe⟩
 ·have hlong' : ¬ (1000 : Int) < l.length := by omega
  have HP : Hid (parseS l = parseA ((oneS [45] l).1 == 45) (oneS [45] l).2) := by show parseS l = _; unfold parseS; rw [if_neg hlong]
  go_upto_region 4 with fail
  go_cut [5] from 18 to 25 (fun u wc => u = .bool ((oneS [45] l).1 == 45) ∧ w1 = wc)
  case first =>
   as_aux_lemma =>
    cases l with
    | nil =>
     go_wp2_with fail
     go_meet
     exact ⟨rfl, rfl⟩
    | cons c t =>
     have hi := may_at (c :: t) 0 (by simp)
     rw [show (c :: t).getD 0 0 = c from rfl] at hi
     by_cases h1 : c = 45
     ·subst h1
      go_wp2_with fail
      go_meet
      exact ⟨rfl, rfl⟩
     ·have h1' : ((c.toNat : Int) == 45) = false := by
       rw [beq_eq_false_iff_ne]; intro h; exact h1 (UInt8.toNat_inj.1 (by show c.toNat = 45; omega))
      have hb : ((oneS [45] (c :: t)).1 == 45) = false := by simp [oneS, h1]
      have Hb := Lib.hid hb
      clear hb h1
      go_wp2_with fail
      go_meet
      exact ⟨by rw [Hb.out], rfl⟩
  case rest =>
   as_aux_lemma =>
    obtain ⟨rfl, rfl⟩ := hcut
    have hn : ∃ n : Nat, n ≤ l.length ∧ n ≤ 1 ∧ l.drop n = (oneS [45] l).2 ∧ n = if (oneS [45] l).1 == 45 then 1 else 0 := by
     cases l with
     | nil => exact ⟨0, by simp, by omega, rfl, rfl⟩
     | cons c t =>
      by_cases h1 : c = 45
      ·subst h1; exact ⟨1, by simp, by omega, by simp [oneS], by simp [oneS]⟩
      ·exact ⟨0, by simp, by omega, by simp [oneS, h1], by simp [oneS, h1]⟩
    obtain ⟨n, hn, hn1, hdn, hne⟩ := hn
    rw [← hdn] at HP
    have Hne := Lib.hid hne
    clear hdn hne
    generalize ((oneS [45] l).1 == 45) = neg at *
    go_upto_if 26 with fail
    go_cut [4] from 26 to 26 (fun u wc => u = .int .i64 (n : Int) ∧ w1 = wc)
    case first =>
     as_aux_lemma =>
      cases neg with
      | true =>
       obtain rfl : n = 1 := Hne.out
       go_wp2_with fail
       go_meet
       exact ⟨rfl, rfl⟩
      | false =>
       obtain rfl : n = 0 := Hne.out
       go_wp2_with fail
       go_meet
       exact ⟨rfl, rfl⟩
    case rest =>
     as_aux_lemma =>
      obtain ⟨rfl, rfl⟩ := hcut
      clear Hne
      obtain ⟨hr1, he1, htk⟩ := drop_digs l n hn
      have hlen1 := digs_len (l.drop n)
      have HD := Lib.hid (Dig_digs (l.drop n))
      have hpa : parseA neg (l.drop n) = if digsS (l.drop n) = [] ∨ ((digsS (l.drop n)).getD 0 0 = 48 ∧ 1 < (digsS (l.drop n)).length) then (Dec.zero, 170) else parseP neg (digsS (l.drop n)) (restS (l.drop n)) := rfl
      rw [hpa] at HP
      clear hpa
      have hext : (⟨l.toArray⟩ : ByteArray).extract n (n + (digsS (l.drop n)).length) = ⟨(digsS (l.drop n)).toArray⟩ := by rw [Lib.extract_eq]; show (⟨((l.drop n).take _).toArray⟩ : ByteArray) = _; rw [Nat.add_sub_cancel_left, htk]
      have hg0 : ∀ c t, digsS (l.drop n) = c :: t → l.getD n 0 = c ∧ n < l.length := fun c t h => by
       have h9 := digs_rest (l.drop n)
       rw [h] at h9
       exact ⟨(drop_cons h9.symm).2.1, (drop_cons h9.symm).1⟩
      have Hg0 := Lib.hid hg0
      have Hr1 := Lib.hid hr1
      have Hext := Lib.hid hext
      clear hg0 hr1 htk hext
      simp only [List.length_drop] at hlen1
      go_wp2_with fail
      refine (digitsR_calls w1 l n (by omega) hn).mono ?_
      rintro e w2 ⟨rfl, rfl⟩
      generalize hD : digsS (l.drop n) = D at *
      generalize restS (l.drop n) = r at *
      clear hD
      cases D with
      | nil =>
       have HP2 : Hid (parseS l = (Dec.zero, 170)) := by show parseS l = _; rw [HP.out, if_pos (.inl rfl)]
       simp only [List.length_nil, Nat.add_zero]
       go_wp2_with fail
       refine bodyPost_ret (v := .tuple #[.agg #[.bool false, .string ⟨#[]⟩, .int .i64 0], .int .i64 170]) (by simp [results, Tryz.results126, go_sem, c0, c1, c2]) rfl ?_
       rw [HP2.out]
       exact ⟨rfl, hbe⟩
      | cons c t =>
       simp only [List.length_cons] at hlen1 he1
       obtain ⟨hgn, hnl⟩ := Hg0.out c t rfl
       have hix : (⟨l.toArray⟩ : ByteArray)[n]'(by simpa [ByteArray.size] using hnl) = c := by rw [may_at l n hnl]; exact hgn
       have hne0 : ((n : Int) + ((t.length : Int) + 1) == n) = false := by rw [beq_eq_false_iff_ne]; omega
       clear Hg0 hgn
       by_cases hbad : c = 48 ∧ t ≠ []
       ·obtain ⟨rfl, htn⟩ := hbad
        have htl : 0 < t.length := List.length_pos_iff.2 htn
        have HP2 : Hid (parseS l = (Dec.zero, 170)) := by show parseS l = _; rw [HP.out, if_pos (.inr ⟨rfl, by simp; omega⟩)]
        clear htn
        go_wp2_with fail
        refine bodyPost_ret (v := .tuple #[.agg #[.bool false, .string ⟨#[]⟩, .int .i64 0], .int .i64 170]) (by simp [results, Tryz.results126, go_sem, c0, c1, c2]) rfl ?_
        rw [HP2.out]
        exact ⟨rfl, hbe⟩
       ·have HP2 : Hid (parseS l = parseP neg (c :: t) r) := by
         show parseS l = _
         rw [HP.out, if_neg]
         rintro (h | ⟨h1, h2⟩)
         ·cases h
         ·exact hbad ⟨h1, by intro e; subst e; simp at h2⟩
        have hok : ((c.toNat : Int) == 48) = false ∨ t.length = 0 := by
         by_cases h1 : c = 48
         ·right; by_cases h2 : t = []
          ·subst h2; rfl
          ·exact absurd ⟨h1, h2⟩ hbad
         ·left; rw [beq_eq_false_iff_ne]; intro h; exact h1 (UInt8.toNat_inj.1 (by show c.toNat = 48; omega))
        have Hok := Lib.hid hok
        clear hbad HP hok
        obtain ⟨A, hA⟩ : ∃ A, A = c :: t := ⟨_, rfl⟩
        have hAl : A.length = t.length + 1 := by rw [hA]; rfl
        obtain ⟨n1, hn1e⟩ : ∃ n1, n1 = n + (t.length + 1) := ⟨_, rfl⟩
        rw [← hA] at HP2
        have Hext2 : Hid ((⟨l.toArray⟩ : ByteArray).extract n n1 = ⟨A.toArray⟩) := by show _ = _; rw [hn1e, hA]; exact Hext.out
        have Hr2 : Hid (l.drop n1 = r) := by show _ = _; rw [hn1e]; exact Hr1.out
        have HA := Lib.hid hA
        have Hn1e := Lib.hid hn1e
        have HAl := Lib.hid hAl
        clear Hext Hr1 hA hn1e hAl
        go_upto_region 8 with fail
        go_cut [44] from 30 to 43 (fun u wc => u = .bool false ∧ w1 = wc)
        case first =>
         as_aux_lemma =>
          rcases Hok.out with hok | hok
          all_goals clear Hok HD
          ·go_wp2_with fail
           go_meet
           exact ⟨rfl, rfl⟩
          ·have hok2 : ¬ ((n : Int) + 1 < (n : Int) + ((t.length : Int) + 1)) := by omega
           clear hok
           by_cases h48 : ((c.toNat : Int) == 48) = true
           ·go_wp2_with fail
            go_meet
            exact ⟨rfl, rfl⟩
           ·have h48f : ((c.toNat : Int) == 48) = false := by simpa using h48
            clear h48
            go_wp2_with fail
            go_meet
            exact ⟨rfl, rfl⟩
        case rest =>
         as_aux_lemma =>
          obtain ⟨rfl, rfl⟩ := hcut
          clear Hok hix hne0
          have hse : ((n : Int) + ((t.length : Int) + 1)) = (n1 : Int) := by have := Hn1e.out; omega
          have hn1l : n1 ≤ l.length := by have := Hn1e.out; omega
          have hA1 : A.length ≤ 1000 := by have := HAl.out; omega
          have hnn : n ≤ n1 := by have := Hn1e.out; omega
          simp only [hse]
          clear hse
          have hx := Hext2.out
          clear Hext2 HA Hn1e HAl hlen1 he1
          go_upto_region 13 with fail
          clear hx
          have hpp : parseP neg A r = if (oneS [46] r).1 = 46 then if digsS (oneS [46] r).2 = [] then (Dec.zero, 170) else parseE neg (A ++ digsS (oneS [46] r).2) (-((digsS (oneS [46] r).2).length : Int)) (restS (oneS [46] r).2) else parseE neg A 0 (oneS [46] r).2 := rfl
          rw [hpp] at HP2
          clear hpp
          go_cut [60] from 51 to 59 (fun u wc => u = .bool ((oneS [46] r).1 == 46) ∧ w1 = wc)
          case first =>
           as_aux_lemma =>
            cases r with
            | nil =>
             have h9 := drop_none Hr2.out hn1l
             have h9' : ¬ (n1 : Int) < l.length := by omega
             clear h9
             go_wp2_with fail
             go_meet
             exact ⟨rfl, rfl⟩
            | cons c2 t2 =>
             obtain ⟨h8, h9, _⟩ := drop_cons Hr2.out
             have hi2 := may_at l n1 h8
             rw [h9] at hi2
             have h8' : (n1 : Int) < l.length := by omega
             clear h9
             by_cases h1 : c2 = 46
             ·subst h1
              go_wp2_with fail
              go_meet
              exact ⟨rfl, rfl⟩
             ·have h1' : ((c2.toNat : Int) == 46) = false := by rw [beq_eq_false_iff_ne]; intro h; exact h1 (UInt8.toNat_inj.1 (by show c2.toNat = 46; omega))
              have Hb : Hid (((oneS [46] (c2 :: t2)).1 == 46) = false) := by show _ = _; simp [oneS, h1]
              clear h1
              go_wp2_with fail
              go_meet
              exact ⟨by rw [Hb.out], rfl⟩
          case rest =>
           as_aux_lemma =>
            obtain ⟨rfl, rfl⟩ := hcut
            go_upto_if 60 with fail
            go_cut [4, 6, 7, 8] from 60 to 82 (fun a _ al x wc => ∃ (m : Nat) (B : List UInt8) (X : Int), a = .int .i64 (m : Int) ∧ al = .string ⟨B.toArray⟩ ∧ x = .int .i64 X ∧ m ≤ l.length ∧ B.length ≤ 2000 ∧ -1000 ≤ X ∧ X ≤ 0 ∧ Hid (parseS l = parseE neg B X (l.drop m)) ∧ w1 = wc)
            case first =>
             as_aux_lemma =>
              cases hp : ((oneS [46] r).1 == 46) with
              | false =>
               have h1 : ¬ (oneS [46] r).1 = 46 := by simpa using hp
               have h2 : (oneS [46] r).2 = r := by
                cases r with
                | nil => rfl
                | cons c2 t2 =>
                 by_cases h3 : c2 = 46
                 ·subst h3; exact absurd rfl h1
                 ·simp [oneS, h3]
               have HP3 : Hid (parseS l = parseE neg A 0 (l.drop n1)) := by show parseS l = _; rw [HP2.out, if_neg h1, h2, Hr2.out]
               clear HP2 hp h1 h2
               go_wp2_with fail
               go_meet
               exact ⟨n1, A, 0, rfl, rfl, rfl, hn1l, by omega, by omega, by omega, HP3, rfl⟩
              | true =>
               have h1 : (oneS [46] r).1 = 46 := by simpa using hp
               obtain ⟨t2, rfl⟩ : ∃ t2, r = 46 :: t2 := by
                cases r with
                | nil => cases h1
                | cons c2 t2 =>
                 by_cases h3 : c2 = 46
                 ·subst h3; exact ⟨t2, rfl⟩
                 ·simp [oneS, h3] at h1
               have HP3 : Hid (parseS l = if digsS t2 = [] then (Dec.zero, 170) else parseE neg (A ++ digsS t2) (-((digsS t2).length : Int)) (restS t2)) := by show parseS l = _; rw [HP2.out, if_pos h1]; rfl
               obtain ⟨h8, _, h9⟩ := drop_cons Hr2.out
               have Hd2 := Lib.hid h9
               clear HP2 hp h1 h9
               obtain ⟨m, hm⟩ : ∃ m, m = n1 + 1 := ⟨_, rfl⟩
               rw [← hm] at Hd2
               have hml : m ≤ l.length := by omega
               obtain ⟨hr1, he1, htk⟩ := drop_digs l m hml
               have hlen1 := digs_len (l.drop m)
               rw [Hd2.out] at hr1 he1 htk hlen1
               have hext : (⟨l.toArray⟩ : ByteArray).extract m (m + (digsS t2).length) = ⟨(digsS t2).toArray⟩ := by rw [Lib.extract_eq]; show (⟨((l.drop m).take _).toArray⟩ : ByteArray) = _; rw [Nat.add_sub_cancel_left, Hd2.out, htk]
               have hdl := congrArg List.length Hd2.out
               simp only [List.length_drop] at hdl
               have Hr3 := Lib.hid hr1
               have Hext3 := Lib.hid hext
               have Hm := Lib.hid hm
               clear hr1 htk hext
               have hmi : ((n1 : Int) + 1) = (m : Int) := by omega
               have Hmi := Lib.hid hmi
               have Hdl : Hid ((digsS t2).length + (restS t2).length = l.length - m) := by show _ = _; omega
               clear hm hmi hlen1 hdl Hr2
               go_wp2_with fail
               rw [Hmi.out]
               refine (digitsR_calls w1 l m (by omega) hml).mono ?_
               rintro e w2 ⟨rfl, rfl⟩
               rw [Hd2.out]
               obtain ⟨e2, he2⟩ : ∃ e2, e2 = m + (digsS t2).length := ⟨_, rfl⟩
               rw [← he2]
               rw [← he2] at Hext3 Hr3 he1
               have He2 := Lib.hid he2
               have hx3 : (⟨l.toArray⟩ : ByteArray).extract (n1 + 1) e2 = ⟨(digsS t2).toArray⟩ := by rw [show n1 + 1 = m by have := Hmi.out; omega]; exact Hext3.out
               have Hx3 := Lib.hid hx3
               clear hx3 Hext3 he2
               generalize digsS t2 = D2 at *
               generalize restS t2 = r2 at *
               by_cases hD2 : D2 = []
               ·have HP4 : Hid (parseS l = (Dec.zero, 170)) := by show parseS l = _; rw [HP3.out, if_pos hD2]
                have hb : ((e2 : Int) == (n1 : Int) + 1) = true := by rw [beq_iff_eq]; have h7 := He2.out; rw [hD2] at h7; have := Hmi.out; simp at h7; omega
                clear hD2
                go_wp2_with fail
                refine bodyPost_ret (v := .tuple #[.agg #[.bool false, .string ⟨#[]⟩, .int .i64 0], .int .i64 170]) (by simp [results, Tryz.results126, go_sem, c0, c1, c2]) rfl ?_
                rw [HP4.out]
                exact ⟨rfl, hbe⟩
               ·have HP4 : Hid (parseS l = parseE neg (A ++ D2) (-(D2.length : Int)) r2) := by show parseS l = _; rw [HP3.out, if_neg hD2]
                have hdp : 0 < D2.length := List.length_pos_iff.2 hD2
                have hb : ((e2 : Int) == (n1 : Int) + 1) = false := by rw [beq_eq_false_iff_ne]; have := He2.out; have := Hmi.out; omega
                have hn12 : n1 + 1 ≤ e2 := by have := He2.out; have := Hmi.out; omega
                have hx3 := Hx3.out
                have hD2l : D2.length ≤ 1000 := by have := Hdl.out; omega
                have hsum : A.length + D2.length ≤ 9223372036854775807 := by omega
                clear hD2 HP3
                go_wp2_with fail
                go_meet
                refine ⟨e2, A ++ D2, -(D2.length : Int), rfl, ?_, ?_, he1, ?_, ?_, by omega, ?_, rfl⟩
                ·first | rfl | simp | skip
                ·have := He2.out; have := Hmi.out; go_num
                ·have := He2.out; have := Hmi.out; have := Hdl.out; simp; omega
                ·have := He2.out; have := Hmi.out; have := Hdl.out; omega
                ·show parseS l = _; rw [HP4.out, Hr3.out]
            case rest =>
             as_aux_lemma =>
              obtain ⟨m, B, X, rfl, rfl, rfl, hm, hB, hX1, hX2, HP3, rfl⟩ := hcut
              clear HP2 Hr2 hnn hn1l hn hn1
              go_upto_region 20 with fail
              obtain ⟨r, hr⟩ : ∃ r, r = l.drop m := ⟨_, rfl⟩
              have Hr := Lib.hid hr.symm
              have HP4 : Hid (parseS l = parseE neg B X r) := by show parseS l = _; rw [hr]; exact HP3.out
              clear HP3 hr
              go_cut [98] from 83 to 97 (fun u wc => u = .bool ((oneS [101, 69] r).1 != 0) ∧ w1 = wc)
              case first =>
               as_aux_lemma =>
                cases r with
                | nil =>
                 have h9 := drop_none Hr.out hm
                 have h9' : ¬ (m : Int) < l.length := by omega
                 clear h9
                 go_wp2_with fail
                 go_meet
                 exact ⟨rfl, rfl⟩
                | cons c2 t2 =>
                 obtain ⟨h8, h9, _⟩ := drop_cons Hr.out
                 have hi2 := may_at l m h8
                 rw [h9] at hi2
                 have h8' : (m : Int) < l.length := by omega
                 clear h9
                 by_cases he1 : c2 = 101
                 ·subst he1
                  go_wp2_with fail
                  go_meet
                  exact ⟨rfl, rfl⟩
                 ·have e1 : ((c2.toNat : Int) == 101) = false := by rw [beq_eq_false_iff_ne]; intro h; exact he1 (UInt8.toNat_inj.1 (by show c2.toNat = 101; omega))
                  by_cases he2 : c2 = 69
                  ·subst he2
                   go_wp2_with fail
                   go_meet
                   exact ⟨rfl, rfl⟩
                  ·have e2 : ((c2.toNat : Int) == 69) = false := by rw [beq_eq_false_iff_ne]; intro h; exact he2 (UInt8.toNat_inj.1 (by show c2.toNat = 69; omega))
                   have Hb : Hid (((oneS [101, 69] (c2 :: t2)).1 != 0) = false) := by show _ = _; simp [oneS, he1, he2]
                   clear he1 he2
                   go_wp2_with fail
                   go_meet
                   exact ⟨by rw [Hb.out], rfl⟩
              case rest =>
               as_aux_lemma =>
                obtain ⟨rfl, rfl⟩ := hcut
                go_upto_if 98 with fail
                go_cut [4, 6, 8, 9, 10, 11] from 98 to 157 (fun a _ x _ _ _ wc => ∃ (m : Nat) (X : Int), a = .int .i64 (m : Int) ∧ x = .int .i64 X ∧ m ≤ l.length ∧ -3000000 ≤ X ∧ X ≤ 3000000 ∧ Hid (parseS l = parseEnd neg B X (l.drop m)) ∧ w1 = wc)
                case first =>
                 as_aux_lemma =>
                  cases hp : ((oneS [101, 69] r).1 != 0) with
                  | false =>
                   have h1 : (oneS [101, 69] r).1 = 0 := by simpa using hp
                   have h2 : (oneS [101, 69] r).2 = r := by
                    cases r with
                    | nil => rfl
                    | cons c2 t2 =>
                     by_cases h3 : c2 = 101
                     ·subst h3; cases h1
                     ·by_cases h4 : c2 = 69
                      ·subst h4; cases h1
                      ·simp [oneS, h3, h4]
                   have HP5 : Hid (parseS l = parseEnd neg B X (l.drop m)) := by show parseS l = _; rw [HP4.out]; unfold parseE; rw [if_pos h1, h2, Hr.out]
                   clear HP4 hp h1 h2
                   go_wp2_with fail
                   go_meet
                   exact ⟨m, X, rfl, rfl, hm, by omega, by omega, HP5, rfl⟩
                  | true =>
                   obtain ⟨cE, t, rfl, hone⟩ : ∃ cE t, r = cE :: t ∧ oneS [101, 69] r = (cE, t) := by
                    cases r with
                    | nil => cases hp
                    | cons c2 t2 =>
                     by_cases h3 : c2 = 101
                     ·subst h3; exact ⟨_, _, rfl, rfl⟩
                     ·by_cases h4 : c2 = 69
                      ·subst h4; exact ⟨_, _, rfl, rfl⟩
                      ·simp [oneS, h3, h4] at hp
                   have h1 : ¬ cE = 0 := by rw [hone] at hp; simpa using hp
                   have HP5 : Hid (parseS l = if digsS (oneS [43, 45] t).2 = [] then (Dec.zero, 170) else parseEnd neg B (X + (if (oneS [43, 45] t).1 = 45 then -powerS (digsS (oneS [43, 45] t).2) else powerS (digsS (oneS [43, 45] t).2))) (restS (oneS [43, 45] t).2)) := by show parseS l = _; rw [HP4.out]; unfold parseE; rw [hone, if_neg h1]
                   obtain ⟨h8, _, h9⟩ := drop_cons Hr.out
                   have Hd := Lib.hid h9
                   have h8' : (m : Int) < l.length := by omega
                   clear HP4 hp h1 h9 hone Hr
                   obtain ⟨n, hnm⟩ : ∃ n, n = m + 1 := ⟨_, rfl⟩
                   rw [← hnm] at Hd
                   have hn : n ≤ l.length := by omega
                   have hi : ((m : Int) + 1) = (n : Int) := by omega
                   have Hi := Lib.hid hi
                   clear hnm hi
                   go_upto_region 22 with fail
                   rw [Hi.out]
                   clear Hi
                   go_cut [9] from 101 to 110 (fun u wc => u = .bool ((oneS [43, 45] t).1 == 45) ∧ w1 = wc)
                   case first =>
                    as_aux_lemma =>
                     cases t with
                     | nil =>
                      have h9 := drop_none Hd.out hn
                      have h9' : ¬ (n : Int) < l.length := by omega
                      clear h9
                      go_wp2_with fail
                      go_meet
                      exact ⟨rfl, rfl⟩
                     | cons c3 t3 =>
                      obtain ⟨h8, h9, _⟩ := drop_cons Hd.out
                      have hi2 := may_at l n h8
                      rw [h9] at hi2
                      have h8' : (n : Int) < l.length := by omega
                      clear h9
                      by_cases he1 : c3 = 45
                      ·subst he1
                       go_wp2_with fail
                       go_meet
                       exact ⟨rfl, rfl⟩
                      ·have e1 : ((c3.toNat : Int) == 45) = false := by rw [beq_eq_false_iff_ne]; intro h; exact he1 (UInt8.toNat_inj.1 (by show c3.toNat = 45; omega))
                       have Hb : Hid (((oneS [43, 45] (c3 :: t3)).1 == 45) = false) := by
                        by_cases he2 : c3 = 43
                        ·subst he2; rfl
                        ·show _ = _; simp [oneS, he1, he2]
                       clear he1
                       go_wp2_with fail
                       go_meet
                       exact ⟨by rw [Hb.out], rfl⟩
                   case rest =>
                    as_aux_lemma =>
                     obtain ⟨rfl, rfl⟩ := hcut
                     go_upto_region 23 with fail
                     go_cut [126] from 111 to 125 (fun u wc => u = .bool ((oneS [43, 45] t).1 != 0) ∧ w1 = wc)
                     case first =>
                      as_aux_lemma =>
                       cases t with
                       | nil =>
                        have h9 := drop_none Hd.out hn
                        have h9' : ¬ (n : Int) < l.length := by omega
                        clear h9
                        go_wp2_with fail
                        go_meet
                        exact ⟨rfl, rfl⟩
                       | cons c3 t3 =>
                        obtain ⟨h8, h9, _⟩ := drop_cons Hd.out
                        have hi2 := may_at l n h8
                        rw [h9] at hi2
                        have h8' : (n : Int) < l.length := by omega
                        clear h9
                        by_cases he1 : c3 = 45
                        ·subst he1
                         go_wp2_with fail
                         go_meet
                         exact ⟨rfl, rfl⟩
                        ·have e1 : ((c3.toNat : Int) == 45) = false := by rw [beq_eq_false_iff_ne]; intro h; exact he1 (UInt8.toNat_inj.1 (by show c3.toNat = 45; omega))
                         by_cases he2 : c3 = 43
                         ·subst he2
                          go_wp2_with fail
                          go_meet
                          exact ⟨rfl, rfl⟩
                         ·have e2 : ((c3.toNat : Int) == 43) = false := by rw [beq_eq_false_iff_ne]; intro h; exact he2 (UInt8.toNat_inj.1 (by show c3.toNat = 43; omega))
                          have Hb : Hid (((oneS [43, 45] (c3 :: t3)).1 != 0) = false) := by show _ = _; simp [oneS, he1, he2]
                          clear he1 he2
                          go_wp2_with fail
                          go_meet
                          exact ⟨by rw [Hb.out], rfl⟩
                     case rest =>
                      as_aux_lemma =>
                       obtain ⟨rfl, rfl⟩ := hcut
                       obtain ⟨n2, hn2, hd2, hn2i⟩ : ∃ n2 : Nat, n2 ≤ l.length ∧ l.drop n2 = (oneS [43, 45] t).2 ∧ n2 = if ((oneS [43, 45] t).1 != 0) = true then n + 1 else n := by
                        cases t with
                        | nil => exact ⟨n, hn, Hd.out, rfl⟩
                        | cons c3 t3 =>
                         obtain ⟨h8, h9, h10⟩ := drop_cons Hd.out
                         by_cases he1 : c3 = 45
                         ·subst he1; exact ⟨n + 1, by omega, h10, rfl⟩
                         ·by_cases he2 : c3 = 43
                          ·subst he2; exact ⟨n + 1, by omega, h10, rfl⟩
                          ·exact ⟨n, hn, by rw [Hd.out]; simp [oneS, he1, he2], by simp [oneS, he1, he2]⟩
                       have Hn2 := Lib.hid hn2i
                       have Hd2 := Lib.hid hd2
                       clear hn2i hd2 Hd
                       generalize ((oneS [43, 45] t).1 != 0) = sk at *
                       go_upto_if 126 with fail
                       go_cut [4] from 126 to 128 (fun u wc => u = .int .i64 (n2 : Int) ∧ w1 = wc)
                       case first =>
                        as_aux_lemma =>
                         cases sk with
                         | true =>
                          obtain rfl : n2 = n + 1 := Hn2.out
                          go_wp2_with fail
                          go_meet
                          exact ⟨by go_num, rfl⟩
                         | false =>
                          obtain rfl : n2 = n := Hn2.out
                          go_wp2_with fail
                          go_meet
                          exact ⟨rfl, rfl⟩
                       case rest =>
                        as_aux_lemma =>
                         obtain ⟨rfl, rfl⟩ := hcut
                         clear Hn2
                         rw [← Hd2.out] at HP5
                         clear Hd2
                         obtain ⟨hr1, he1, htk⟩ := drop_digs l n2 hn2
                         have hlen1 := digs_len (l.drop n2)
                         simp only [List.length_drop] at hlen1
                         have HDg := Lib.hid (Dig_digs (l.drop n2))
                         have Hr3 := Lib.hid hr1
                         have Htk := Lib.hid htk
                         clear hr1 htk
                         generalize hls : ((oneS [43, 45] t).1 == 45) = ls at *
                         have hif : ((oneS [43, 45] t).1 = 45) ↔ ls = true := by rw [← hls, beq_iff_eq]
                         simp only [hif] at HP5
                         clear hif hls
                         go_wp2_with fail
                         refine (digitsR_calls w1 l n2 (by omega) hn2).mono ?_
                         rintro e w2 ⟨rfl, rfl⟩
                         obtain ⟨D, hD⟩ : ∃ D, D = digsS (l.drop n2) := ⟨_, rfl⟩
                         rw [← hD] at HP5 he1 hlen1 HDg Hr3 Htk ⊢
                         clear hD
                         generalize restS (l.drop n2) = r2 at *
                         obtain ⟨e3, he3⟩ : ∃ e3, e3 = n2 + D.length := ⟨_, rfl⟩
                         rw [← he3] at he1 Hr3 ⊢
                         have He3 := Lib.hid he3
                         clear he3
                         by_cases hD0 : D = []
                         ·have HP6 : Hid (parseS l = (Dec.zero, 170)) := by show parseS l = _; rw [HP5.out, if_pos hD0]
                          obtain rfl : e3 = n2 := by have := He3.out; rw [hD0] at this; simpa using this
                          clear hD0
                          go_wp2_with fail
                          refine bodyPost_ret (v := .tuple #[.agg #[.bool false, .string ⟨#[]⟩, .int .i64 0], .int .i64 170]) (by simp [results, Tryz.results126, go_sem, c0, c1, c2]) rfl ?_
                          rw [HP6.out]
                          exact ⟨rfl, hbe⟩
                         ·have hdp : 0 < D.length := List.length_pos_iff.2 hD0
                          have hb : ((e3 : Int) == (n2 : Int)) = false := by rw [beq_eq_false_iff_ne]; have := He3.out; omega
                          have HP6 : Hid (parseS l = parseEnd neg B (X + (if ls = true then -powR D else powR D)) r2) := by
                           show parseS l = _
                           rw [HP5.out, if_neg hD0]
                           have h9 := pow_same neg B X D HDg.out hB hX1 hX2
                           unfold parseEnd
                           cases ls
                           ·simp only [Bool.false_eq_true, if_false]; rw [h9.1]
                           ·simp only [if_true]; rw [h9.2]
                          have hpb := powR_bd D
                          clear hD0 HP5
                          go_wp2_with fail
                          go_loopg [10, 11] D.length (fun k x i wc => ∃ j : Nat, k = D.length - j ∧ j ≤ D.length ∧ x = .int .i64 (powR (D.take j)) ∧ i = .int .i64 ((n2 + j : Nat) : Int) ∧ w1 = wc)
                          case atStart => exact ⟨0, rfl, by omega, rfl, rfl, rfl⟩
                          case round =>
                           obtain ⟨j, hk, hj, rfl, rfl, rfl⟩ := hrel
                           have Hk := Lib.hid hk
                           clear hk
                           by_cases hlt : j < D.length
                           ·have hlt' : (((n2 + j : Nat) : Int)) < (e3 : Int) := by have := He3.out; omega
                            have hcl : n2 + j < l.length := by have := He3.out; omega
                            have hij := may_at l (n2 + j) hcl
                            have hgj : l.getD (n2 + j) 0 = D.getD j 0 := by
                             rw [← Htk.out]; simp [hlt]
                            rw [hgj] at hij
                            have hdj := Dig_getD HDg.out j hlt
                            have hbd := powR_bd (D.take j)
                            have hsn := powR_snoc (D.take j) (D.getD j 0) hdj.1
                            rw [← take_snoc8 D j hlt] at hsn
                            have Hsn := Lib.hid hsn
                            clear hsn hgj
                            generalize D.getD j 0 = c at *
                            go_wp2_with fail
                            go_roundg (D.length - (j + 1))
                            case measure => have := Hk.out; omega
                            case rel => exact ⟨j + 1, rfl, by omega, by rw [← Hsn.out], by go_num, rfl⟩
                           ·obtain rfl : j = D.length := by omega
                            rw [List.take_of_length_le (Nat.le_refl _)]
                            have hge : ((n2 + D.length : Nat) : Int) = (e3 : Int) := by have := He3.out; omega
                            rw [hge]
                            clear hge
                            cases ls with
                            | true =>
                             go_wp2_with fail
                             go_meet
                             refine ⟨e3, X + -powR D, rfl, by go_num, he1, by omega, by omega, ?_, rfl⟩
                             show parseS l = _; rw [HP6.out, Hr3.out]; first | rfl | simp
                            | false =>
                             go_wp2_with fail
                             go_meet
                             refine ⟨e3, X + powR D, rfl, by go_num, he1, by omega, by omega, ?_, rfl⟩
                             show parseS l = _; rw [HP6.out, Hr3.out]; first | rfl | simp
                case rest =>
                 as_aux_lemma =>
                  obtain ⟨n, X2, rfl, rfl, hn, hX3, hX4, HP6, rfl⟩ := hcut
                  clear HP4 Hr hX1 hX2 hm
                  have HP7 : Hid (parseS l = if l.drop n = [] then madeS neg B X2 else (Dec.zero, 170)) := HP6.out
                  clear HP6
                  by_cases hdr : l.drop n = []
                  ·have HP8 : Hid (parseS l = madeS neg B X2) := by show parseS l = _; rw [HP7.out, if_pos hdr]
                   have h9 := drop_none hdr hn
                   have h9' : ¬ (n : Int) < l.length := by omega
                   clear h9 hdr HP7
                   have hbz2 := hbz
                   go_wp2_with fail
                   refine (madeR_calls w1 neg B X2 (by omega) (by omega) (by omega)).mono ?_
                   rintro e w2 ⟨⟨x, b, rfl, hx⟩, hb2⟩
                   simp only [DecV]
                   have hz := DecAt.under (w := w1) (w' := w2) (b := w.heap.size) (d := Dec.zero) ⟨c0, c1, c2, f0, f1, f2, World.block_lt_of_cell? w1 ⟨w.heap.size, 0, none⟩ c0⟩ hb2
                   have hz3 := hz.alloc (Obj.cells #[Value.bool x.neg, Value.string { data := x.digits.toArray }, Value.int IntKind.i64 x.exp] 26)
                   have hx3 := DecAt.at w2 x _ rfl
                   have hbel := (hbz2.trans (hb2.mono hbz2.size))
                   have hbel3 := hbel.alloc hbel.size (Obj.cells #[Value.bool x.neg, Value.string { data := x.digits.toArray }, Value.int IntKind.i64 x.exp] 26)
                   clear c0 c1 c2 f0 f1 f2 hb2 hbel hz hbe
                   have c0 := hz3.c0
                   have c1 := hz3.c1
                   have c2 := hz3.c2
                   have f0 := hz3.f0
                   have f1 := hz3.f1
                   have f2 := hz3.f2
                   have x0 := hx3.c0
                   have x1 := hx3.c1
                   have x2 := hx3.c2
                   simp only [Dec.zero] at c0 c1 c2
                   clear hz3 hx3
                   have Hx := Lib.hid hx
                   clear hx
                   cases b with
                   | true =>
                    have HP9 : Hid (parseS l = (x, 0)) := by
                     rcases Hx.out with ⟨_, h⟩ | ⟨h, _⟩
                     ·show parseS l = _; rw [HP8.out, h]
                     ·cases h
                    clear Hx HP8
                    have hbe := ((hbel3.setCell (p := ⟨w.heap.size, 0, none⟩) (Nat.le_refl _) (.bool x.neg)).setCell (p := ⟨w.heap.size, 1, none⟩) (Nat.le_refl _) (.string ⟨x.digits.toArray⟩)).setCell (p := ⟨w.heap.size, 2, none⟩) (Nat.le_refl _) (.int .i64 x.exp)
                    go_wp2_with fail
                    refine bodyPost_ret (v := .tuple #[.agg #[.bool x.neg, .string ⟨x.digits.toArray⟩, .int .i64 x.exp], .int .i64 0]) (by simp [results, Tryz.results126, go_sem, c0, c1, c2]) rfl ?_
                    rw [HP9.out]
                    exact ⟨rfl, hbe⟩
                   | false =>
                    have HP9 : Hid (parseS l = (Dec.zero, 4)) := by
                     rcases Hx.out with ⟨h, _⟩ | ⟨_, h⟩
                     ·cases h
                     ·show parseS l = _; rw [HP8.out, h]
                    clear Hx HP8
                    have hbe := ((hbel3.setCell (p := ⟨w.heap.size, 0, none⟩) (Nat.le_refl _) (.bool false)).setCell (p := ⟨w.heap.size, 1, none⟩) (Nat.le_refl _) (.string ⟨#[]⟩)).setCell (p := ⟨w.heap.size, 2, none⟩) (Nat.le_refl _) (.int .i64 0)
                    go_wp2_with fail
                    refine bodyPost_ret (v := .tuple #[.agg #[.bool false, .string ⟨#[]⟩, .int .i64 0], .int .i64 4]) (by simp [results, Tryz.results126, go_sem, c0, c1, c2]) rfl ?_
                    rw [HP9.out]
                    exact ⟨rfl, hbe⟩
                  ·have HP8 : Hid (parseS l = (Dec.zero, 170)) := by show parseS l = _; rw [HP7.out, if_neg hdr]
                   have h9' : (n : Int) < l.length := by
                    have : n ≠ l.length := fun e => hdr (by rw [e]; exact List.drop_length)
                    omega
                   clear hdr HP7
                   go_wp2_with fail
                   refine bodyPost_ret (v := .tuple #[.agg #[.bool false, .string ⟨#[]⟩, .int .i64 0], .int .i64 170]) (by simp [results, Tryz.results126, go_sem, c0, c1, c2]) rfl ?_
                   rw [HP8.out]
                   exact ⟨rfl, hbe⟩
end Go.Proofs.YtfclfaidmipjpaaGreatDoor
