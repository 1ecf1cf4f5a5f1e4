/- Plain words of sums, products and shares of decimals, and laws of their digits; no program in sight. -/
import Derived.Test.YtkakmjdfecbhaaaGreatDoorDecL
import Derived.Lib.ItoaNum
namespace Go.Proofs.YtkakmjdfecbhaaaGreatDoor

/-- A decimal's digits as a whole number of ten to a power that is not above its own. -/
def mag (d : Dec) (e : Int) : Nat := dval d.digits * 10 ^ (d.exp - e).toNat
/-- The sum of those above 0. -/
def upS (e : Int) : List Dec → Nat
  | [] => 0
  | d :: l => (if d.neg then 0 else mag d e) + upS e l
/-- The sum of those below. -/
def dnS (e : Int) : List Dec → Nat
  | [] => 0
  | d :: l => (if d.neg then mag d e else 0) + dnS e l
theorem upS_snoc (e : Int) (ds : List Dec) (d : Dec) : upS e (ds ++ [d]) = upS e ds + (if d.neg then 0 else mag d e) := by
  induction ds with
  | nil => simp [upS]
  | cons a l ih => simp only [List.cons_append, upS, ih]; omega
theorem dnS_snoc (e : Int) (ds : List Dec) (d : Dec) : dnS e (ds ++ [d]) = dnS e ds + (if d.neg then mag d e else 0) := by
  induction ds with
  | nil => simp [dnS]
  | cons a l ih => simp only [List.cons_append, dnS, ih]; omega
/-- Is the sum below 0? -/
def totN (ds : List Dec) : Bool := decide (upS (leastS ds) ds < dnS (leastS ds) ds)
/-- The sum without its sign. -/
def totV (ds : List Dec) : Nat := if upS (leastS ds) ds < dnS (leastS ds) ds then dnS (leastS ds) ds - upS (leastS ds) ds else upS (leastS ds) ds - dnS (leastS ds) ds
theorem totN_true {ds : List Dec} (h : upS (leastS ds) ds < dnS (leastS ds) ds) : totN ds = true ∧ totV ds = dnS (leastS ds) ds - upS (leastS ds) ds := by simp [totN, totV, h]
theorem totN_false {ds : List Dec} (h : ¬ upS (leastS ds) ds < dnS (leastS ds) ds) : totN ds = false ∧ totV ds = upS (leastS ds) ds - dnS (leastS ds) ds := by simp only [totN, totV, if_neg h]; simpa using h
/-- A number's digits; none for 0. -/
def digS (n : Nat) : List UInt8 := if n = 0 then [] else Lib.decDigits n
theorem dec_dig (n : Nat) : Dig (Lib.decDigits n) ∧ dval (Lib.decDigits n) = n ∧ (0 < n → trim0 (Lib.decDigits n) = Lib.decDigits n) := by
  induction n using Nat.strongRecOn with
  | _ n ih =>
    unfold Lib.decDigits
    split
    · rename_i h
      refine ⟨fun c hc => ?_, ?_, fun hp => ?_⟩
      · simp only [List.mem_singleton] at hc; subst hc; rw [ofNat_digit n h]; omega
      · show 10 * 0 + ((UInt8.ofNat (48 + n)).toNat - 48) = n
        rw [ofNat_digit n h]; omega
      · have : ¬ (UInt8.ofNat (48 + n) == 48) = true := by
          rw [beq_iff_eq, ← UInt8.toNat_inj, ofNat_digit n h]
          show ¬ 48 + n = 48
          omega
        unfold trim0; rw [List.dropWhile_cons, if_neg this]
    · rename_i h
      obtain ⟨h1, h2, h3⟩ := ih (n / 10) (by omega)
      have hm : n % 10 < 10 := Nat.mod_lt _ (by omega)
      refine ⟨Dig_append.2 ⟨h1, fun c hc => ?_⟩, ?_, fun hp => ?_⟩
      · simp only [List.mem_singleton] at hc; subst hc; rw [ofNat_digit _ hm]; omega
      · rw [dval_snoc, h2, ofNat_digit _ hm]; omega
      · have h4 := h3 (by omega)
        have hne : Lib.decDigits (n / 10) ≠ [] := by
          intro e; rw [e] at h2; simp [dval] at h2; omega
        cases hq : Lib.decDigits (n / 10) with
        | nil => exact absurd hq hne
        | cons c t =>
          rw [hq] at h4
          have hc : ¬ (c == 48) = true := by
            intro hc
            simp only [trim0, List.dropWhile_cons, hc, if_true] at h4
            have := congrArg List.length h4
            have := (List.dropWhile_sublist (p := (· == (48 : UInt8))) (l := t)).length_le
            simp at *; omega
          simp [trim0, hc]
theorem digS_dig (n : Nat) : Dig (digS n) ∧ dval (digS n) = n ∧ trim0 (digS n) = digS n := by
  unfold digS
  split
  · rename_i h; subst h; exact ⟨Dig_nil, rfl, rfl⟩
  · obtain ⟨h1, h2, h3⟩ := dec_dig n
    exact ⟨h1, h2, h3 (by omega)⟩
theorem trim0_head {c : UInt8} {t : List UInt8} (h : trim0 (c :: t) = c :: t) : c ≠ 48 := by
  intro hc
  subst hc
  simp only [trim0, List.dropWhile_cons, beq_self_eq_true, if_true] at h
  have h1 := congrArg List.length h
  have := (List.dropWhile_sublist (p := (· == (48 : UInt8))) (l := t)).length_le
  simp at h1; omega
theorem dval_low {c : UInt8} {t : List UInt8} (hd : Dig (c :: t)) (h : c ≠ 48) : 10 ^ t.length ≤ dval (c :: t) := by
  rw [dval_cons]
  have h1 := hd c (by simp)
  have h2 : c.toNat ≠ 48 := fun e => h (UInt8.toNat_inj.1 (by simpa using e))
  have : 1 * 10 ^ t.length ≤ (c.toNat - 48) * 10 ^ t.length := Nat.mul_le_mul_right _ (by omega)
  omega
theorem dval_inj_len : ∀ {a b : List UInt8}, Dig a → Dig b → a.length = b.length → dval a = dval b → a = b := by
  intro a
  induction a with
  | nil => intro b _ _ h _; exact (List.length_eq_zero_iff.1 h.symm).symm
  | cons c t ih =>
    intro b ha hb hl hv
    cases b with
    | nil => simp at hl
    | cons c' t' =>
      have hl' : t.length = t'.length := by simpa using hl
      rw [dval_cons, dval_cons, hl'] at hv
      have h1 := dval_lt (fun x hx => ha x (by simp [hx]) : Dig t)
      have h2 := dval_lt (fun x hx => hb x (by simp [hx]) : Dig t')
      rw [hl'] at h1
      have hc1 := ha c (by simp)
      have hc2 := hb c' (by simp)
      have e1 : c.toNat - 48 = c'.toNat - 48 := by
        have a := congrArg (· / 10 ^ t'.length) hv
        simp only [Nat.mul_comm _ (10 ^ t'.length), Nat.mul_add_div (Nat.pow_pos (by omega : 0 < 10)), Nat.div_eq_of_lt h1, Nat.div_eq_of_lt h2, Nat.add_zero] at a
        exact a
      have e2 : dval t = dval t' := by rw [e1] at hv; omega
      have e3 : c = c' := UInt8.toNat_inj.1 (by omega)
      rw [e3, ih (fun x hx => ha x (by simp [hx])) (fun x hx => hb x (by simp [hx])) hl' e2]
/-- Digits without noughts ahead are told by their number. -/
theorem dval_inj {a b : List UInt8} (ha : Dig a) (hb : Dig b) (ta : trim0 a = a) (tb : trim0 b = b) (h : dval a = dval b) : a = b := by
  have key : ∀ {a b : List UInt8}, Dig a → Dig b → trim0 b = b → dval a = dval b → ¬ a.length < b.length := by
    intro a b ha hb tb h hl
    cases b with
    | nil => simp at hl
    | cons c t =>
      have h1 := dval_low hb (trim0_head tb)
      have h2 := dval_lt ha
      have h3 : 10 ^ a.length ≤ 10 ^ t.length := Nat.pow_le_pow_right (by omega) (by simp at hl; omega)
      omega
  have h1 := key ha hb tb h
  have h2 := key hb ha ta h.symm
  exact dval_inj_len ha hb (by omega) h
theorem digS_eq {a : List UInt8} (ha : Dig a) (ta : trim0 a = a) (n : Nat) (h : dval a = n) : a = digS n := by
  obtain ⟨h1, h2, h3⟩ := digS_dig n
  exact dval_inj ha h1 ta h3 (by rw [h, h2])
/-- Sum's answers. -/
def sumS (ds : List Dec) : Dec × Int := if mayAll ds then madeS (totN ds) (digS (totV ds)) (leastS ds) else (Dec.zero, 2)
/-- The number with the other sign. -/
def negD (d : Dec) : Dec := ⟨!d.neg && !d.digits.isEmpty, d.digits, d.exp⟩
def negS (d : Dec) : Dec × Int := if mayB d then (negD d, 0) else (Dec.zero, 2)
def cmpV (a b : Dec) : Int := if totN [a, negD b] then -1 else if totV [a, negD b] = 0 then 0 else 1
def cmpS (a b : Dec) : Int × Int := if mayAll [a, b] then (cmpV a b, 0) else (0, 2)
def mulS (a b : Dec) : Dec × Int :=
  if mayAll [a, b] then madeS (a.neg != b.neg) (digS (dval a.digits * dval b.digits)) (a.exp + b.exp) else (Dec.zero, 2)
/-- Is a number above 0? -/
def posB (d : Dec) : Bool := mayB d && !d.neg && !d.digits.isEmpty
def multipleS (d b : Dec) : Bool × Int :=
  if mayB d && posB b then (decide (mag d (leastS [d, b]) % mag b (leastS [d, b]) = 0), 0) else (false, 2)
def commonS (a b : Dec) : Dec × Int :=
  if posB a && posB b then madeS false (digS (mag a (min a.exp b.exp) / Nat.gcd (mag a (min a.exp b.exp)) (mag b (min a.exp b.exp)) * mag b (min a.exp b.exp))) (min a.exp b.exp) else (Dec.zero, 2)
end Go.Proofs.YtkakmjdfecbhaaaGreatDoor
