/- Plain words of decimals: sign, digits, power; which may be; no program in sight. -/
import Derived.Test.YtkakmjdfecbhaaaGreatDoorDig
namespace Go.Proofs.YtkakmjdfecbhaaaGreatDoor

/-- A decimal: sign, digits, power of ten. -/
structure Dec where
  neg : Bool
  digits : List UInt8
  exp : Int

/-- Is a byte a digit? -/
def digB (c : UInt8) : Bool := decide (48 ≤ c.toNat) && decide (c.toNat ≤ 57)
theorem digB_iff (c : UInt8) : digB c = true ↔ 48 ≤ c.toNat ∧ c.toNat ≤ 57 := by simp [digB]
/-- Are all? -/
def digAll (l : List UInt8) : Bool := l.all digB
theorem digAll_iff (l : List UInt8) : digAll l = true ↔ Dig l := by
  simp only [digAll, List.all_eq_true, digB_iff]; rfl
/-- 0. -/
def Dec.zero : Dec := ⟨false, [], 0⟩
/-- May it be? -/
def mayB (d : Dec) : Bool := match d.digits with
  | [] => !d.neg && decide (d.exp = 0)
  | c :: t => digAll (c :: t) && decide (t.length + 1 ≤ 100) && !(c == 48) && !((c :: t).getD t.length 0 == 48) && decide (-1000 ≤ d.exp) && decide (d.exp ≤ 1000)
/-- Check's answer. -/
def chk (d : Dec) : Int := if mayB d then 0 else 2
/-- Without noughts behind. -/
def trimR (l : List UInt8) : List UInt8 := (l.reverse.dropWhile (· == 48)).reverse
/-- The decimal of digits of ten to a power. -/
def decOf (neg : Bool) (a : List UInt8) (exp : Int) : Dec := ⟨neg, trimR a, exp + a.length - (trimR a).length⟩
/-- made's two answers. -/
def madeS (neg : Bool) (l : List UInt8) (exp : Int) : Dec × Int :=
  if trim0 l = [] then (Dec.zero, 0) else if mayB (decOf neg (trim0 l) exp) then (decOf neg (trim0 l) exp, 0) else (Dec.zero, 4)
theorem trimR_len (l : List UInt8) : (trimR l).length ≤ l.length := by
  have := (List.dropWhile_sublist (p := (· == (48 : UInt8))) (l := l.reverse)).length_le
  simpa [trimR] using this
theorem trim0_len (l : List UInt8) : (trim0 l).length ≤ l.length := (List.dropWhile_sublist _).length_le
/-- The j-th decimal; 0 behind the last. -/
def dget (ds : List Dec) (j : Nat) : Dec := ds.getD j Dec.zero
/-- May all be? -/
def mayAll (ds : List Dec) : Bool := ds.all mayB
/-- checked's answer. -/
def chkAll (ds : List Dec) : Int := if mayAll ds then 0 else 2
/-- The least power of some, or 0. -/
def leastS (ds : List Dec) : Int := ds.foldl (fun e d => min e d.exp) 0
theorem take_dget (ds : List Dec) (j : Nat) (h : j < ds.length) : ds.take (j + 1) = ds.take j ++ [dget ds j] := by
  rw [List.take_add_one, List.getElem?_eq_getElem h]; simp [dget, List.getElem?_eq_getElem h]
theorem leastS_snoc (ds : List Dec) (d : Dec) : leastS (ds ++ [d]) = min (leastS ds) d.exp := by
  simp [leastS, List.foldl_append]
theorem leastS_le (ds : List Dec) : leastS ds ≤ 0 ∧ ∀ d ∈ ds, leastS ds ≤ d.exp := by
  have key : ∀ (ds : List Dec) (e : Int), ds.foldl (fun e d => min e d.exp) e ≤ e ∧ ∀ d ∈ ds, ds.foldl (fun e d => min e d.exp) e ≤ d.exp := by
    intro ds
    induction ds with
    | nil => intro e; exact ⟨by simp, by simp⟩
    | cons a l ih =>
      intro e
      obtain ⟨h1, h2⟩ := ih (min e a.exp)
      refine ⟨by simp only [List.foldl_cons]; omega, ?_⟩
      intro d hd
      simp only [List.foldl_cons]
      rcases List.mem_cons.1 hd with h | h
      · subst h; omega
      · exact h2 d h
  exact key ds 0
theorem leastS_ge (ds : List Dec) (b : Int) (hb : b ≤ 0) (h : ∀ d ∈ ds, b ≤ d.exp) : b ≤ leastS ds := by
  have key : ∀ (ds : List Dec) (e : Int), b ≤ e → (∀ d ∈ ds, b ≤ d.exp) → b ≤ ds.foldl (fun e d => min e d.exp) e := by
    intro ds
    induction ds with
    | nil => intro e he _; exact he
    | cons a l ih =>
      intro e he hh
      simp only [List.foldl_cons]
      exact ih _ (by have := hh a (by simp); omega) (fun d hd => hh d (by simp [hd]))
  exact key ds 0 hb h
end Go.Proofs.YtkakmjdfecbhaaaGreatDoor
