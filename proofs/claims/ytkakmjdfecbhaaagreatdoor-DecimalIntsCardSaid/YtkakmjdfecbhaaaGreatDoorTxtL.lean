/- Plain words of a decimal's text; no program in sight. -/
import Derived.Test.YtkakmjdfecbhaaaGreatDoorDecM
import Derived.Lib.Repeat
namespace Go.Proofs.YtkakmjdfecbhaaaGreatDoor

/-- Text, without the sign. -/
def textA (d : Dec) : List UInt8 :=
  if d.digits.length = 0 then [48]
  else if 0 ≤ d.exp ∧ d.digits.length + d.exp ≤ 21 then d.digits ++ List.replicate d.exp.toNat 48
  else if 0 < d.digits.length + d.exp ∧ d.digits.length + d.exp ≤ 21 then d.digits.take (d.digits.length + d.exp).toNat ++ 46 :: d.digits.drop (d.digits.length + d.exp).toNat
  else if d.digits.length + d.exp ≤ 0 ∧ -5 ≤ d.digits.length + d.exp then 48 :: 46 :: (List.replicate (-(d.digits.length + d.exp)).toNat 48 ++ d.digits)
  else (if 1 < d.digits.length then d.digits.take 1 ++ 46 :: d.digits.drop 1 else d.digits) ++ 101 :: Lib.itoa (d.digits.length + d.exp - 1)
/-- A decimal's text. -/
def textT (d : Dec) : List UInt8 := if d.neg then 45 :: textA d else textA d
/-- Text's answers. -/
def textS (d : Dec) : List UInt8 × Int := if mayB d then (textT d, 0) else ([], 2)
theorem repeat_eq (n : Nat) : Lib.repeatL [48] n = List.replicate n 48 := by
  induction n with
  | zero => rfl
  | succ n ih => rw [Lib.repeatL, ih, List.replicate_succ]; rfl
end Go.Proofs.YtkakmjdfecbhaaaGreatDoor
