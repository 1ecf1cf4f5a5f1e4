/- Texts of this claim, joined: Jr10. -/
import Derived.Test.YtfclfaidmipjpaaGreatDoorCo22
namespace Go.Proofs.YtfclfaidmipjpaaGreatDoor
set_option maxRecDepth 100000
set_option maxHeartbeats 20000000
open Go.RowKit
theorem valS_at {z : List UInt8} {n d : Nat} {s s' t : List UInt8} {f : Fl} {c : UInt8} (h : skipS s = s') (h2 : s' = c :: t) : valS z (n + 1) d s f =
  if c = 123 then inS z n (d + 1) true t { f with deep := f.deep || decide (64 < d + 1) }
   else if c = 91 then inS z n (d + 1) false t { f with deep := f.deep || decide (64 < d + 1) }
   else if c = 34 then match qtS z t with
    | none => none
    | some (u, r, a) => some (.mk 3 false Dec.zero u [] [], r, { f with alone := f.alone || a })
   else if c = 45 ∨ digB c = true then numS s' f
   else if s'.take 4 = wNull then some (J.zero, s'.drop 4, f)
   else if s'.take 4 = wTrue then some (.mk 1 true Dec.zero [] [] [], s'.drop 4, f)
   else if s'.take 5 = wFalse then some (.mk 1 false Dec.zero [] [] [], s'.drop 5, f)
   else none := by
 subst h2
 rw [valS, h]
 rfl
theorem valS_end {z : List UInt8} {n d : Nat} {s : List UInt8} {f : Fl} (h : skipS s = []) : valS z (n + 1) d s f = none := by rw [valS, h]
end Go.Proofs.YtfclfaidmipjpaaGreatDoor
