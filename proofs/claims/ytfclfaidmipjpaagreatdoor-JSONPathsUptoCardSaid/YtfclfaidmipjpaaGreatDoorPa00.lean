/- Texts of this claim, joined: JsB, JsU, Jr1, Jr2. -/
import Derived.Test.YtfclfaidmipjpaaGreatDoorCo03
namespace Go.Proofs.YtfclfaidmipjpaaGreatDoor
set_option maxRecDepth 100000
set_option maxHeartbeats 20000000
open Go.Lib (hid)
open Go.RowKit
theorem bytes_app (a b : List UInt8) : ((⟨a.toArray⟩ : ByteArray) ++ ⟨b.toArray⟩) = ⟨(a ++ b).toArray⟩ := bytes_eq (by simp [ByteArray.data_append])
def leadS (c : Nat) : Option (Nat × Nat × Nat) :=
 if c < 192 then none else if c < 224 then some (2, c - 192, 128) else if c < 240 then some (3, c - 224, 2048) else if c < 248 then some (4, c - 240, 65536) else none
def contS : Nat → List UInt8 → Nat → Option Nat
 | 0, _, x => some x
 | _ + 1, [], _ => none
 | n + 1, c :: t, x => if 128 ≤ c.toNat ∧ c.toNat < 192 then contS n t (64 * x + (c.toNat - 128)) else none
def farS (least x : Nat) : Bool := decide (x < least) || decide (1114111 < x) || (decide (55296 ≤ x) && decide (x < 57344))
def letterS : List UInt8 → Nat × Nat
 | [] => (0, 0)
 | c :: t => if c.toNat < 128 then (1, c.toNat) else match leadS c.toNat with
  | none => (0, 0)
  | some (n, x, least) => match contS (n - 1) t x with
   | none => (0, 0)
   | some y => if farS least y then (0, 0) else (n, y)
theorem decodeL_eq (c : UInt8) (t : List UInt8) : Lib.decodeL (c :: t) = Lib.decodeN (t.length + 1) c.toNat (t.getD 0 0).toNat (t.getD 1 0).toNat (t.getD 2 0).toNat := by
 have g : ∀ (l : List UInt8) (k : Nat), (⟨l.toArray⟩ : ByteArray).get! k = l.getD k 0 := by
  intro l k
  simp [ByteArray.get!, List.getD_eq_getElem?_getD]
  rfl
 unfold Lib.decodeL
 rw [Lib.decode_at, g, g, g, g]
 simp [ByteArray.size]
def outS (p : Nat × Nat) : Nat × Nat := if p.1 = 65533 ∧ p.2 = 1 then (0, 0) else (p.2, p.1)
theorem outS_two (x n : Nat) (h : n ≠ 1) : outS (x, n) = (n, x) := if_neg (fun h1 => h h1.2)
theorem letterS_decode (c : UInt8) (t : List UInt8) : letterS (c :: t) = outS (Lib.decodeL (c :: t)) := by
 rw [decodeL_eq]
 have hc := c.toNat_lt
 simp only [letterS]
 generalize c.toNat = x at *
 unfold Lib.decodeN
 by_cases h1 : x < 128
 ·rw [if_pos h1, if_pos h1]; exact (if_neg (by simp only; omega)).symm
 rw [if_neg h1, if_neg h1]
 by_cases h2 : x < 192
 ·have : leadS x = none := by simp [leadS, h2]
  rw [this, if_neg (by omega), if_neg (by omega), if_neg (by omega)]; rfl
 by_cases h3 : x < 224
 ·have : leadS x = some (2, x - 192, 128) := by simp [leadS, h2, h3]
  rw [this]
  rcases t with _ | ⟨b1, t⟩
  ·simp only [List.length_nil]
   rw [if_neg (by omega), if_neg (by omega), if_neg (by omega)]; rfl
  have hb := b1.toNat_lt
  simp only [contS, List.getD_cons_zero, List.length_cons]
  generalize b1.toNat = y at *
  by_cases hy : 128 ≤ y ∧ y < 192
  ·rw [if_pos hy, if_pos (show x / 32 = 6 ∧ 1 < t.length + 1 + 1 ∧ y / 64 = 2 by omega)]
   simp only
   have e : 64 * (x - 192) + (y - 128) = x % 32 * 64 + y % 64 := by omega
   rw [e]
   by_cases hh : x % 32 * 64 + y % 64 ≥ 128
   ·rw [if_pos hh, outS_two _ _ (by omega), if_neg (by simp [farS]; omega)]
   rw [if_neg hh, if_pos (by simp [farS]; omega)]; rfl
  rw [if_neg hy, if_neg (by omega), if_neg (by omega), if_neg (by omega)]; rfl
 by_cases h4 : x < 240
 ·have : leadS x = some (3, x - 224, 2048) := by simp [leadS, h2, h3, h4]
  rw [this, if_neg (by omega)]
  rcases t with _ | ⟨b1, _ | ⟨b2, t⟩⟩
  ·simp only [List.length_nil]
   rw [if_neg (by omega), if_neg (by omega)]; rfl
  ·simp only [contS, List.length_cons, List.length_nil]
   rw [if_neg (show ¬ (x / 16 = 14 ∧ _ ∧ 2 < 0 + 1 + 1 ∧ _) by omega), if_neg (show ¬ (x / 8 = 30 ∧ _) by omega)]
   split
   ·rfl
   rename_i h; split at h <;> simp at h
  have hb := b1.toNat_lt
  have hb2 := b2.toNat_lt
  simp only [contS, List.getD_cons_zero, List.getD_cons_succ, List.length_cons]
  generalize b1.toNat = y at *
  generalize b2.toNat = z at *
  by_cases hy : 128 ≤ y ∧ y < 192
  ·by_cases hz : 128 ≤ z ∧ z < 192
   ·rw [if_pos hy, if_pos hz, if_pos (show x / 16 = 14 ∧ (1 < t.length + 1 + 1 + 1 ∧ y / 64 = 2) ∧ 2 < t.length + 1 + 1 + 1 ∧ z / 64 = 2 by omega)]
    simp only
    have e : 64 * (64 * (x - 224) + (y - 128)) + (z - 128) = x % 16 * 4096 + y % 64 * 64 + z % 64 := by omega
    rw [e]
    by_cases hh : x % 16 * 4096 + y % 64 * 64 + z % 64 ≥ 2048 ∧ (x % 16 * 4096 + y % 64 * 64 + z % 64 < 55296 ∨ (57344 ≤ x % 16 * 4096 + y % 64 * 64 + z % 64 ∧ x % 16 * 4096 + y % 64 * 64 + z % 64 ≤ 1114111))
    ·rw [if_pos hh, outS_two _ _ (by omega), if_neg (by simp [farS]; omega)]
    rw [if_neg hh, if_pos (by simp [farS]; omega)]; rfl
   rw [if_pos hy, if_neg hz, if_neg (show ¬ (x / 16 = 14 ∧ _ ∧ 2 < t.length + 1 + 1 + 1 ∧ z / 64 = 2) by omega), if_neg (by omega)]; rfl
  rw [if_neg hy, if_neg (show ¬ (x / 16 = 14 ∧ (_ ∧ y / 64 = 2) ∧ _) by omega), if_neg (by omega)]; rfl
 by_cases h5 : x < 248
 ·have : leadS x = some (4, x - 240, 65536) := by simp [leadS, h2, h3, h4, h5]
  rw [this, if_neg (by omega), if_neg (by omega)]
  rcases t with _ | ⟨b1, _ | ⟨b2, _ | ⟨b3, t⟩⟩⟩
  ·simp only [List.length_nil]
   rw [if_neg (by omega)]; rfl
  ·simp only [contS, List.length_cons, List.length_nil]
   rw [if_neg (show ¬ (x / 8 = 30 ∧ _ ∧ (2 < 0 + 1 + 1 ∧ _) ∧ _) by omega)]
   split
   ·rfl
   rename_i h; split at h <;> simp at h
  ·simp only [contS, List.length_cons, List.length_nil]
   rw [if_neg (show ¬ (x / 8 = 30 ∧ _ ∧ _ ∧ 3 < 0 + 1 + 1 + 1 ∧ _) by omega)]
   split
   ·rfl
   rename_i h; split at h
   ·split at h <;> simp at h
   simp at h
  have hb := b1.toNat_lt
  have hb2 := b2.toNat_lt
  have hb3 := b3.toNat_lt
  simp only [contS, List.getD_cons_zero, List.getD_cons_succ, List.length_cons]
  generalize b1.toNat = y at *
  generalize b2.toNat = z at *
  generalize b3.toNat = v at *
  by_cases hy : 128 ≤ y ∧ y < 192
  ·by_cases hz : 128 ≤ z ∧ z < 192
   ·by_cases hv : 128 ≤ v ∧ v < 192
    ·rw [if_pos hy, if_pos hz, if_pos hv, if_pos (show x / 8 = 30 ∧ (1 < t.length + 1 + 1 + 1 + 1 ∧ y / 64 = 2) ∧ (2 < t.length + 1 + 1 + 1 + 1 ∧ z / 64 = 2) ∧ 3 < t.length + 1 + 1 + 1 + 1 ∧ v / 64 = 2 by omega)]
     simp only
     have e : 64 * (64 * (64 * (x - 240) + (y - 128)) + (z - 128)) + (v - 128) = x % 8 * 262144 + y % 64 * 4096 + z % 64 * 64 + v % 64 := by omega
     rw [e]
     by_cases hh : x % 8 * 262144 + y % 64 * 4096 + z % 64 * 64 + v % 64 ≥ 65536 ∧ (x % 8 * 262144 + y % 64 * 4096 + z % 64 * 64 + v % 64 < 55296 ∨ (57344 ≤ x % 8 * 262144 + y % 64 * 4096 + z % 64 * 64 + v % 64 ∧ x % 8 * 262144 + y % 64 * 4096 + z % 64 * 64 + v % 64 ≤ 1114111))
     ·rw [if_pos hh, outS_two _ _ (by omega), if_neg (by simp [farS]; omega)]
     rw [if_neg hh, if_pos (by simp [farS]; omega)]; rfl
    rw [if_pos hy, if_pos hz, if_neg hv, if_neg (show ¬ (x / 8 = 30 ∧ _ ∧ _ ∧ 3 < t.length + 1 + 1 + 1 + 1 ∧ v / 64 = 2) by omega)]; rfl
   rw [if_pos hy, if_neg hz, if_neg (show ¬ (x / 8 = 30 ∧ _ ∧ (2 < t.length + 1 + 1 + 1 + 1 ∧ z / 64 = 2) ∧ _) by omega)]; rfl
  rw [if_neg hy, if_neg (show ¬ (x / 8 = 30 ∧ (1 < t.length + 1 + 1 + 1 + 1 ∧ y / 64 = 2) ∧ _) by omega)]; rfl
 have : leadS x = none := by simp [leadS, h2, h3, h4, h5]
 rw [this, if_neg (by omega), if_neg (by omega), if_neg (by omega)]; rfl
open Go.RowKit
structure LetI (t : List UInt8) (n x0 k x : Nat) : Prop where
 run : contS (n - 1) t x0 = contS (n - 1 - k) (t.drop k) x
 le : k ≤ n - 1
 bd : (k = 0 ∧ x ≤ 31) ∨ (k = 1 ∧ x ≤ 2047) ∨ (k = 2 ∧ x ≤ 131071) ∨ (k = 3 ∧ x ≤ 8388607)
theorem LetI.next {t : List UInt8} {n x0 k x : Nat} (h : LetI t n x0 k x) (hk : k < n - 1) (hn : n ≤ 4) (hl : k < t.length) (hc : 128 ≤ (t.getD k 0).toNat ∧ (t.getD k 0).toNat < 192) : LetI t n x0 (k + 1) (64 * x + ((t.getD k 0).toNat - 128)) := by
 refine ⟨?_, by omega, ?_⟩
 ·rw [h.run, List.drop_eq_getElem_cons hl, show n - 1 - k = (n - 1 - (k + 1)) + 1 by omega, contS]
  have e : t[k] = t.getD k 0 := by simp [hl]
  rw [e, if_pos hc]
 have := h.bd; omega
theorem LetI.bad {t : List UInt8} {n x0 k x : Nat} (h : LetI t n x0 k x) (hk : k < n - 1) (hl : k < t.length) (hc : ¬ (128 ≤ (t.getD k 0).toNat ∧ (t.getD k 0).toNat < 192)) : contS (n - 1) t x0 = none := by
 rw [h.run, List.drop_eq_getElem_cons hl, show n - 1 - k = (n - 1 - (k + 1)) + 1 by omega, contS]
 have e : t[k] = t.getD k 0 := by simp [hl]
 rw [e, if_neg hc]
theorem LetI.done {t : List UInt8} {n x0 k x : Nat} (h : LetI t n x0 k x) (hk : k = n - 1) : contS (n - 1) t x0 = some x := by
 rw [h.run, hk, Nat.sub_self, contS]
theorem contS_short : ∀ (n : Nat) (t : List UInt8) (x : Nat), t.length < n → contS n t x = none
 | 0, t, x, h => by omega
 | n + 1, [], x, h => rfl
 | n + 1, c :: t, x, h => by
  simp only [contS]
  split
  ·exact contS_short n t _ (by simpa using h)
  rfl
def tailS (n least : Nat) (y : Option Nat) : Nat × Nat := match y with
 | none => (0, 0)
 | some y => if farS least y then (0, 0) else (n, y)
theorem letterS_lead {c : UInt8} {t : List UInt8} {n x least : Nat} (h1 : ¬ c.toNat < 128) (h : leadS c.toNat = some (n, x, least)) : letterS (c :: t) = tailS n least (contS (n - 1) t x) := by
 simp only [letterS]
 rw [if_neg h1, h]
 rfl
theorem farS_t {least x : Nat} (h : x < least ∨ 1114111 < x ∨ (55296 ≤ x ∧ x < 57344)) : farS least x = true := by
 unfold farS
 simp only [Bool.or_eq_true, Bool.and_eq_true, decide_eq_true_eq]
 omega
theorem farS_f {least x : Nat} (h : ¬ (x < least ∨ 1114111 < x ∨ (55296 ≤ x ∧ x < 57344))) : farS least x = false := by
 cases hh : farS least x with
 | false => rfl
 | true =>
  unfold farS at hh
  simp only [Bool.or_eq_true, Bool.and_eq_true, decide_eq_true_eq] at hh
  omega
theorem letter_calls (w : World) (l : List UInt8) (hl : l.length ≤ 1000000000) :
  Calls Tryz.prog 71 #[.string ⟨l.toArray⟩] w fun e w' => e = .returned (.tuple #[.int .i64 ((letterS l).1 : Int), .int .i64 ((letterS l).2 : Int)]) ∧ w = w' := by
 cases l with
 | nil =>
  go_enter Tryz.func71, Tryz.ntmps71
  go_wp2_with fail
  go_ret2
  exact ⟨rfl, rfl⟩
 | cons c t =>
  have hc0 := byte_at (c :: t) 0 (by simp)
  simp only [List.getD_cons_zero] at hc0
  have hlc : (c :: t).length = t.length + 1 := rfl
  have hcl := c.toNat_lt
  have h0 : (0 : Int) < ((c :: t).length : Int) := by omega
  have key : ∀ (n x0 least : Nat), leadS c.toNat = some (n, x0, least) → ¬ c.toNat < 128 → 2 ≤ n → n ≤ 4 → x0 ≤ 31 → least ≤ 65536 → True := fun _ _ _ _ _ _ _ _ _ => trivial
  clear key
  go_enter Tryz.func71, Tryz.ntmps71
  by_cases h1 : c.toNat < 128
  ·have HF : Hid (letterS (c :: t) = (1, c.toNat)) := by
    refine hid ?_
    simp only [letterS]
    rw [if_pos h1]
   go_wp2_with fail
   go_ret2
   rw [HF.out]
   exact ⟨rfl, rfl⟩
  --LETTER
  by_cases h2 : c.toNat < 192
  ·have HF : Hid (letterS (c :: t) = (0, 0)) := hid (by simp only [letterS]; rw [if_neg h1, show leadS c.toNat = none by simp only [leadS]; rw [if_pos h2]])
   go_wp2_with fail
   go_ret2
   rw [HF.out]
   exact ⟨rfl, rfl⟩
  by_cases h3 : c.toNat < 224
  ·
   have hL : leadS c.toNat = some (2, c.toNat - 192, 128) := by simp only [leadS]; rw [if_neg h2, if_pos h3]
   have HF := hid (letterS_lead (t := t) h1 hL)
   clear hL
   obtain ⟨x0, hx0⟩ : ∃ x0, c.toNat - 192 = x0 := ⟨_, rfl⟩
   have hx1 : x0 ≤ 31 := by omega
   have hxc : (c.toNat : Int) - 192 = (x0 : Int) := by omega
   rw [hx0] at HF
   have Hxc := hid hxc
   clear hx0 hxc
   by_cases hn : t.length + 1 < 2
   ·have HG : Hid (letterS (c :: t) = (0, 0)) := hid (by rw [HF.out, contS_short _ _ _ (by omega)]; rfl)
    have hn2 : (((c :: t).length : Nat) : Int) < 2 := by omega
    go_wp2_with fail
    go_ret2
    rw [HG.out]
    exact ⟨rfl, rfl⟩
   have hn2 : ¬ (((c :: t).length : Nat) : Int) < 2 := by omega
   go_wp2_with fail
   simp only [Hxc.out]
   have HI0 : Hid (LetI t 2 x0 0 x0) := hid ⟨rfl, by omega, .inl ⟨rfl, hx1⟩⟩
   go_loopg [6, 8] 1 (fun k s6 s8 wr => ∃ (j x : Nat), k = 2 - j ∧ 1 ≤ j ∧ j ≤ 2 ∧ s6 = .int .i64 (x : Int) ∧ s8 = .int .i64 (j : Int) ∧ LetI t 2 x0 (j - 1) x ∧ w = wr)
   case atStart => exact ⟨1, x0, rfl, Nat.le_refl _, by omega, rfl, rfl, HI0.out, rfl⟩
   obtain ⟨j, x, hk, hj1, hj, rfl, rfl, hI, rfl⟩ := hrel
   have Hk := hid hk
   have HI := hid hI
   have hxb := hI.bd
   clear hk hI
   by_cases hlt : j < 2
   ·have hlt2 : (j : Int) < 2 := by omega
    have hij := byte_at (c :: t) j (by simp; omega)
    have e : (c :: t).getD j 0 = t.getD (j - 1) 0 := by obtain ⟨m, rfl⟩ : ∃ m, j = m + 1 := ⟨j - 1, by omega⟩; simp
    rw [e] at hij
    have HN := hid (HI.out.next (by omega) (by omega) (by omega))
    have HB := hid (HI.out.bad (by omega) (by omega))
    clear e
    have hd := (t.getD (j - 1) 0).toNat_lt
    generalize t.getD (j - 1) 0 = d at *
    have hjl : j < (c :: t).length := by simp; omega
    by_cases hc : 128 ≤ d.toNat ∧ d.toNat < 192
    ·have HN2 := hid (HN.out hc)
     obtain ⟨hc1, hc2⟩ := hc
     have hx9 : x ≤ 131071 := by omega
     clear HN HB hxb
     go_wp2_with fail
     go_roundg (2 - (j + 1))
     case measure => have := Hk.out; omega
     refine ⟨j + 1, 64 * x + (d.toNat - 128), rfl, by omega, by omega, ?_, by go_num, ?_, rfl⟩
     ·exact congrArg (Value.int .i64) (by omega)
     have h9 := HN2.out; rw [show j - 1 + 1 = j + 1 - 1 by omega] at h9; exact h9
    have HG : Hid (letterS (c :: t) = (0, 0)) := hid (by rw [HF.out, HB.out hc]; rfl)
    have hcs : d.toNat < 128 ∨ 192 ≤ d.toNat := by omega
    clear HN HB hc hxb
    rcases hcs with hcs | hcs
    ·go_wp2_with fail
     go_ret2
     rw [HG.out]
     exact ⟨rfl, rfl⟩
    have hcs2 : ¬ d.toNat < 128 := by omega
    go_wp2_with fail
    go_ret2
    rw [HG.out]
    exact ⟨rfl, rfl⟩
   have hlt2 : ¬ (j : Int) < 2 := by omega
   have HD := hid (HI.out.done (by omega))
   have HG : Hid (letterS (c :: t) = if farS 128 x then (0, 0) else (2, x)) := hid (by rw [HF.out, HD.out]; rfl)
   clear HD HF hxb
   by_cases g1 : x < 128
   ·go_wp2_with fail
    go_ret2
    rw [HG.out, farS_t (by omega)]
    exact ⟨rfl, rfl⟩
   by_cases g2 : 1114111 < x
   ·go_wp2_with fail
    go_ret2
    rw [HG.out, farS_t (by omega)]
    exact ⟨rfl, rfl⟩
   by_cases g3 : 55296 ≤ x
   ·by_cases g4 : x < 57344
    ·go_wp2_with fail
     go_ret2
     rw [HG.out, farS_t (by omega)]
     exact ⟨rfl, rfl⟩
    go_wp2_with fail
    go_ret2
    rw [HG.out, farS_f (by omega)]
    exact ⟨rfl, rfl⟩
   go_wp2_with fail
   go_ret2
   rw [HG.out, farS_f (by omega)]
   exact ⟨rfl, rfl⟩
  by_cases h4 : c.toNat < 240
  ·
   have hL : leadS c.toNat = some (3, c.toNat - 224, 2048) := by simp only [leadS]; rw [if_neg h2, if_neg h3, if_pos h4]
   have HF := hid (letterS_lead (t := t) h1 hL)
   clear hL
   obtain ⟨x0, hx0⟩ : ∃ x0, c.toNat - 224 = x0 := ⟨_, rfl⟩
   have hx1 : x0 ≤ 31 := by omega
   have hxc : (c.toNat : Int) - 224 = (x0 : Int) := by omega
   rw [hx0] at HF
   have Hxc := hid hxc
   clear hx0 hxc
   by_cases hn : t.length + 1 < 3
   ·have HG : Hid (letterS (c :: t) = (0, 0)) := hid (by rw [HF.out, contS_short _ _ _ (by omega)]; rfl)
    have hn2 : (((c :: t).length : Nat) : Int) < 3 := by omega
    go_wp2_with fail
    go_ret2
    rw [HG.out]
    exact ⟨rfl, rfl⟩
   have hn2 : ¬ (((c :: t).length : Nat) : Int) < 3 := by omega
   go_wp2_with fail
   simp only [Hxc.out]
   have HI0 : Hid (LetI t 3 x0 0 x0) := hid ⟨rfl, by omega, .inl ⟨rfl, hx1⟩⟩
   go_loopg [6, 8] 2 (fun k s6 s8 wr => ∃ (j x : Nat), k = 3 - j ∧ 1 ≤ j ∧ j ≤ 3 ∧ s6 = .int .i64 (x : Int) ∧ s8 = .int .i64 (j : Int) ∧ LetI t 3 x0 (j - 1) x ∧ w = wr)
   case atStart => exact ⟨1, x0, rfl, Nat.le_refl _, by omega, rfl, rfl, HI0.out, rfl⟩
   obtain ⟨j, x, hk, hj1, hj, rfl, rfl, hI, rfl⟩ := hrel
   have Hk := hid hk
   have HI := hid hI
   have hxb := hI.bd
   clear hk hI
   by_cases hlt : j < 3
   ·have hlt2 : (j : Int) < 3 := by omega
    have hij := byte_at (c :: t) j (by simp; omega)
    have e : (c :: t).getD j 0 = t.getD (j - 1) 0 := by obtain ⟨m, rfl⟩ : ∃ m, j = m + 1 := ⟨j - 1, by omega⟩; simp
    rw [e] at hij
    have HN := hid (HI.out.next (by omega) (by omega) (by omega))
    have HB := hid (HI.out.bad (by omega) (by omega))
    clear e
    have hd := (t.getD (j - 1) 0).toNat_lt
    generalize t.getD (j - 1) 0 = d at *
    have hjl : j < (c :: t).length := by simp; omega
    by_cases hc : 128 ≤ d.toNat ∧ d.toNat < 192
    ·have HN2 := hid (HN.out hc)
     obtain ⟨hc1, hc2⟩ := hc
     have hx9 : x ≤ 131071 := by omega
     clear HN HB hxb
     go_wp2_with fail
     go_roundg (3 - (j + 1))
     case measure => have := Hk.out; omega
     refine ⟨j + 1, 64 * x + (d.toNat - 128), rfl, by omega, by omega, ?_, by go_num, ?_, rfl⟩
     ·exact congrArg (Value.int .i64) (by omega)
     have h9 := HN2.out; rw [show j - 1 + 1 = j + 1 - 1 by omega] at h9; exact h9
    have HG : Hid (letterS (c :: t) = (0, 0)) := hid (by rw [HF.out, HB.out hc]; rfl)
    have hcs : d.toNat < 128 ∨ 192 ≤ d.toNat := by omega
    clear HN HB hc hxb
    rcases hcs with hcs | hcs
    ·go_wp2_with fail
     go_ret2
     rw [HG.out]
     exact ⟨rfl, rfl⟩
    have hcs2 : ¬ d.toNat < 128 := by omega
    go_wp2_with fail
    go_ret2
    rw [HG.out]
    exact ⟨rfl, rfl⟩
   have hlt2 : ¬ (j : Int) < 3 := by omega
   have HD := hid (HI.out.done (by omega))
   have HG : Hid (letterS (c :: t) = if farS 2048 x then (0, 0) else (3, x)) := hid (by rw [HF.out, HD.out]; rfl)
   clear HD HF hxb
   by_cases g1 : x < 2048
   ·go_wp2_with fail
    go_ret2
    rw [HG.out, farS_t (by omega)]
    exact ⟨rfl, rfl⟩
   by_cases g2 : 1114111 < x
   ·go_wp2_with fail
    go_ret2
    rw [HG.out, farS_t (by omega)]
    exact ⟨rfl, rfl⟩
   by_cases g3 : 55296 ≤ x
   ·by_cases g4 : x < 57344
    ·go_wp2_with fail
     go_ret2
     rw [HG.out, farS_t (by omega)]
     exact ⟨rfl, rfl⟩
    go_wp2_with fail
    go_ret2
    rw [HG.out, farS_f (by omega)]
    exact ⟨rfl, rfl⟩
   go_wp2_with fail
   go_ret2
   rw [HG.out, farS_f (by omega)]
   exact ⟨rfl, rfl⟩
  by_cases h5 : c.toNat < 248
  ·
   have hL : leadS c.toNat = some (4, c.toNat - 240, 65536) := by simp only [leadS]; rw [if_neg h2, if_neg h3, if_neg h4, if_pos h5]
   have HF := hid (letterS_lead (t := t) h1 hL)
   clear hL
   obtain ⟨x0, hx0⟩ : ∃ x0, c.toNat - 240 = x0 := ⟨_, rfl⟩
   have hx1 : x0 ≤ 31 := by omega
   have hxc : (c.toNat : Int) - 240 = (x0 : Int) := by omega
   rw [hx0] at HF
   have Hxc := hid hxc
   clear hx0 hxc
   by_cases hn : t.length + 1 < 4
   ·have HG : Hid (letterS (c :: t) = (0, 0)) := hid (by rw [HF.out, contS_short _ _ _ (by omega)]; rfl)
    have hn2 : (((c :: t).length : Nat) : Int) < 4 := by omega
    go_wp2_with fail
    go_ret2
    rw [HG.out]
    exact ⟨rfl, rfl⟩
   have hn2 : ¬ (((c :: t).length : Nat) : Int) < 4 := by omega
   go_wp2_with fail
   simp only [Hxc.out]
   have HI0 : Hid (LetI t 4 x0 0 x0) := hid ⟨rfl, by omega, .inl ⟨rfl, hx1⟩⟩
   go_loopg [6, 8] 3 (fun k s6 s8 wr => ∃ (j x : Nat), k = 4 - j ∧ 1 ≤ j ∧ j ≤ 4 ∧ s6 = .int .i64 (x : Int) ∧ s8 = .int .i64 (j : Int) ∧ LetI t 4 x0 (j - 1) x ∧ w = wr)
   case atStart => exact ⟨1, x0, rfl, Nat.le_refl _, by omega, rfl, rfl, HI0.out, rfl⟩
   obtain ⟨j, x, hk, hj1, hj, rfl, rfl, hI, rfl⟩ := hrel
   have Hk := hid hk
   have HI := hid hI
   have hxb := hI.bd
   clear hk hI
   by_cases hlt : j < 4
   ·have hlt2 : (j : Int) < 4 := by omega
    have hij := byte_at (c :: t) j (by simp; omega)
    have e : (c :: t).getD j 0 = t.getD (j - 1) 0 := by obtain ⟨m, rfl⟩ : ∃ m, j = m + 1 := ⟨j - 1, by omega⟩; simp
    rw [e] at hij
    have HN := hid (HI.out.next (by omega) (by omega) (by omega))
    have HB := hid (HI.out.bad (by omega) (by omega))
    clear e
    have hd := (t.getD (j - 1) 0).toNat_lt
    generalize t.getD (j - 1) 0 = d at *
    have hjl : j < (c :: t).length := by simp; omega
    by_cases hc : 128 ≤ d.toNat ∧ d.toNat < 192
    ·have HN2 := hid (HN.out hc)
     obtain ⟨hc1, hc2⟩ := hc
     have hx9 : x ≤ 131071 := by omega
     clear HN HB hxb
     go_wp2_with fail
     go_roundg (4 - (j + 1))
     case measure => have := Hk.out; omega
     refine ⟨j + 1, 64 * x + (d.toNat - 128), rfl, by omega, by omega, ?_, by go_num, ?_, rfl⟩
     ·exact congrArg (Value.int .i64) (by omega)
     have h9 := HN2.out; rw [show j - 1 + 1 = j + 1 - 1 by omega] at h9; exact h9
    have HG : Hid (letterS (c :: t) = (0, 0)) := hid (by rw [HF.out, HB.out hc]; rfl)
    have hcs : d.toNat < 128 ∨ 192 ≤ d.toNat := by omega
    clear HN HB hc hxb
    rcases hcs with hcs | hcs
    ·go_wp2_with fail
     go_ret2
     rw [HG.out]
     exact ⟨rfl, rfl⟩
    have hcs2 : ¬ d.toNat < 128 := by omega
    go_wp2_with fail
    go_ret2
    rw [HG.out]
    exact ⟨rfl, rfl⟩
   have hlt2 : ¬ (j : Int) < 4 := by omega
   have HD := hid (HI.out.done (by omega))
   have HG : Hid (letterS (c :: t) = if farS 65536 x then (0, 0) else (4, x)) := hid (by rw [HF.out, HD.out]; rfl)
   clear HD HF hxb
   by_cases g1 : x < 65536
   ·go_wp2_with fail
    go_ret2
    rw [HG.out, farS_t (by omega)]
    exact ⟨rfl, rfl⟩
   by_cases g2 : 1114111 < x
   ·go_wp2_with fail
    go_ret2
    rw [HG.out, farS_t (by omega)]
    exact ⟨rfl, rfl⟩
   have g3 : 55296 ≤ x := by omega
   have g4 : ¬ x < 57344 := by omega
   go_wp2_with fail
   go_ret2
   rw [HG.out, farS_f (by omega)]
   exact ⟨rfl, rfl⟩
  have HF : Hid (letterS (c :: t) = (0, 0)) := hid (by simp only [letterS]; rw [if_neg h1, show leadS c.toNat = none by simp only [leadS]; rw [if_neg h2, if_neg h3, if_neg h4, if_neg h5]])
  go_wp2_with fail
  go_ret2
  rw [HF.out]
  exact ⟨rfl, rfl⟩
--END
open Go.RowKit
theorem letter_valid (c : UInt8) (t : List UInt8) : ((letterS (c :: t)).1 = 0 ∧ Lib.validD (c :: t) = false) ∨ (1 ≤ (letterS (c :: t)).1 ∧ (letterS (c :: t)).1 ≤ (c :: t).length ∧ Lib.validD (c :: t) = Lib.validD ((c :: t).drop (letterS (c :: t)).1)) := by
 have h := Lib.validD_step (c :: t) (by simp)
 have hl := letterS_decode c t
 have hw := Lib.decodeL_width (c :: t)
 unfold outS at hl
 by_cases hb : (Lib.decodeL (c :: t)).1 = 65533 ∧ (Lib.decodeL (c :: t)).2 = 1
 ·rw [if_pos hb] at h hl
  exact .inl ⟨by rw [hl], h⟩
 rw [if_neg hb] at h hl
 refine .inr ⟨by rw [hl]; exact hw, ?_, by rw [hl]; exact h⟩
 have hle : (letterS (c :: t)).1 ≤ (c :: t).length := by
  simp only [letterS]
  split
  ·simp
  split
  ·simp
  rename_i n x least he
  split
  ·simp
  rename_i y hy
  split
  ·simp
  have hn : n - 1 ≤ t.length := by
   rcases Nat.lt_or_ge t.length (n - 1) with h9 | h9
   ·rw [contS_short _ _ _ h9] at hy; cases hy
   exact h9
  simp only [List.length_cons]; omega
 exact hle
theorem utf_calls (w : World) (l : List UInt8) (hl : l.length ≤ 1000000000) :
  Calls Tryz.prog 32 #[.string ⟨l.toArray⟩] w fun e w' => e = .returned (.bool (Lib.validD l)) ∧ w = w' := by
 go_enter Tryz.func32, Tryz.ntmps32
 go_wp2_with fail
 go_loopg [0] l.length (fun k s0 wr => ∃ r : List UInt8, k = r.length ∧ r.length ≤ l.length ∧ s0 = .string ⟨r.toArray⟩ ∧ Lib.validD l = Lib.validD r ∧ w = wr)
 case atStart => exact ⟨l, rfl, Nat.le_refl _, rfl, rfl, rfl⟩
 case round =>
  obtain ⟨r, hk, hr, rfl, hv, rfl⟩ := hrel
  have Hk := hid hk
  have HV := hid hv
  clear hk hv
  by_cases h0 : r.length = 0
  ·obtain rfl : r = [] := List.length_eq_zero_iff.1 h0
   have HF : Hid (Lib.validD l = true) := hid (by rw [HV.out]; rfl)
   clear h0
   go_wp2_with fail
   go_ret
   rw [HF.out]
   exact ⟨rfl, rfl⟩
  have h9 : (0 : Int) < (r.length : Int) := by omega
  have hlv : ((letterS r).1 = 0 ∧ Lib.validD r = false) ∨ (1 ≤ (letterS r).1 ∧ (letterS r).1 ≤ r.length ∧ Lib.validD r = Lib.validD (r.drop (letterS r).1)) := by
   cases r with
   | nil => exact absurd rfl h0
   | cons c t => exact letter_valid c t
  clear h0
  go_wp2_with fail
  refine (letter_calls w r (by omega)).mono ?_
  rintro e w2 ⟨rfl, rfl⟩
  generalize (letterS r).1 = n at *
  generalize (letterS r).2 = x at *
  rcases hlv with ⟨rfl, h2⟩ | ⟨h1, h2, h3⟩
  ·have HF : Hid (Lib.validD l = false) := hid (by rw [HV.out, h2])
   clear h2
   go_wp2_with fail
   go_ret
   rw [HF.out]
   exact ⟨rfl, rfl⟩
  have HF : Hid (Lib.validD l = Lib.validD (r.drop n)) := hid (by rw [HV.out, h3])
  have hne : ((n : Int) == 0) = false := by rw [beq_eq_false_iff_ne]; omega
  have hext : (⟨r.toArray⟩ : ByteArray).extract n r.length = ⟨(r.drop n).toArray⟩ := by rw [Lib.extract_eq]; rw [List.take_of_length_le (by simp)]
  have HL : Hid ((r.drop n).length = r.length - n) := hid (by simp)
  clear h3
  go_wp2_with fail
  go_roundg (r.drop n).length
  case measure => have := Hk.out; have := HL.out; omega
  exact ⟨_, rfl, by rw [HL.out]; omega, rfl, HF.out, rfl⟩
end Go.Proofs.YtfclfaidmipjpaaGreatDoor
