/- What every claim of this seat shares: the table that the row lists, a world for the witness, decimals as arguments. -/
import Derived.Test.YtkakmjdfecbhaaaGreatDoorCards
import Derived.Test.YtkakmjdfecbhaaaGreatDoorTie
import Derived.WalkKit
import Derived.ProofKit
import Derived.OpenShut
import Derived.Deep.DeepHandedRow
import Derived.Deep.DeepLaidRun
import Derived.Deep.Slices
import Derived.Lib.LaidTab
import Derived.Lib.SmallJoins
import Derived.Stop.LaidErr
import Derived.Test.YtkakmjdfecbhaaaGreatDoorLaw1
namespace Go.Proofs.YtkakmjdfecbhaaaGreatDoor
open Go.ChangeShapes Go.WideShapes Go.ChangeAt Go.RowKit
open Go.ChangeMaps (open_string shut_string)

theorem frmOwn : ownKnob Tryz.prog.godebug = none := by kernel_rfl
theorem gPow : Tryz.prog.globalNamed "internal/strconv.uint64pow10" = some 0 := by kernel_rfl
theorem gPowType : (Tryz.prog.globals[0]?).map (·.type) = some 144 := by kernel_rfl
theorem cellsPow : Tryz.prog.cellsOf 144 = 20 := by kernel_rfl
theorem cellsU64 : Tryz.prog.cellsOf 90 = 1 := by kernel_rfl
theorem cellsDec : Tryz.prog.cellsOf 24 = 3 := by kernel_rfl
theorem pow_tab : Rows.laid_internal_strconv_uint64pow10 (H := Unit) = Lib.tabData .u64 Lib.pow10Tab := by kernel_rfl

/-- What the rows list. -/
def laidAll : List (String × DataW Unit) := [("math/bits.deBruijn32tab", Rows.laid_math_bits_deBruijn32tab), ("math/bits.deBruijn64tab", Rows.laid_math_bits_deBruijn64tab), ("internal/strconv.uint64pow10", Rows.laid_internal_strconv_uint64pow10), ("unicode/utf8.acceptRanges", Rows.laid_unicode_utf8_acceptRanges), ("unicode/utf8.first", Rows.laid_unicode_utf8_first)]
theorem tab_of {W : World} (h : laidMet Tryz.prog laidAll W) : Tab W := by
  have h2 := laidMet.tail (laidMet.tail h)
  rw [pow_tab] at h2
  exact Lib.tabIs_of_head gPow gPowType Tryz.underlying144 Tryz.underlying90 cellsU64 cellsPow h2

/-- The cells of a datum of numbers. -/
def flatOne : DataW Unit → List Value
  | .lit (.int k z) => [.int k z]
  | .agg [.lit (.int k z), .lit (.int k' z')] => [.int k z, .int k' z']
  | _ => []
def flat : DataW Unit → List Value
  | .agg l => l.flatMap flatOne
  | _ => []
def layIn (d : DataW Unit) : Obj → Obj
  | .cells _ t frozen => .cells (flat d).toArray t frozen
  | o => o
/-- A world for the witness: the settled one, the five tables as they are listed. -/
noncomputable def laidWorld (os : Os) : World :=
  { World.holding Tryz.prog os ⟨#[], #[], []⟩ with heap := (((((World.holding Tryz.prog os ⟨#[], #[], []⟩).heap.modify 6 (layIn Rows.laid_math_bits_deBruijn32tab)).modify 7 (layIn Rows.laid_math_bits_deBruijn64tab)).modify 0 (layIn Rows.laid_internal_strconv_uint64pow10)).modify 5 (layIn Rows.laid_unicode_utf8_acceptRanges)).modify 4 (layIn Rows.laid_unicode_utf8_first) }
theorem laid_met (os : Os) : laidMet Tryz.prog laidAll (laidWorld os) :=
  laidMet_of_run3 8 (by kernel_rfl) (by kernel_rfl) (by kernel_rfl)

/-- A decimal as it reads. -/
def DecD {H : Type} (d : Dec) : DataW H := .agg [.lit (.bool d.neg), .lit (.string d.digits), .lit (.int .i64 d.exp)]
set_option maxRecDepth 100000 in
theorem open_dec {H : Type} {enc : TypeId × Value → H} {W : World} {base b0 : Nat} {sp : Nat → Bool} {held : Bool} {r : Reach} {v : Value} {x : DataW H} {p : List MemPlace}
    (hv : Value.okWide Tryz.prog W r b0 24 v) (h : DataW.Trod enc Tryz.prog W base sp held 24 v x p) :
    ∃ d : Dec, v = .agg #[.bool d.neg, .string ⟨d.digits.toArray⟩, .int .i64 d.exp] ∧ x = DecD d ∧ p = [] ∧ d.digits.length ≤ maxLen ∧ (Lit.int .i64 d.exp).wf = true := by
  obtain ⟨v0, v1, v2, y0, y1, y2, n, rfl, rfl, rfl, h0, h1, h2⟩ := Joins.open_agg3 Tryz.underlying24 (by kernel_rfl) cellsDec hv h
  obtain ⟨b, hb, rfl⟩ := DataW.trod_bool Tryz.underlying4 h0
  obtain ⟨s, hs, rfl, hl⟩ := DataW.trod_string Tryz.underlying9 h1
  obtain ⟨z, hz, rfl, hw⟩ := DataW.trod_int Tryz.underlying3 h2
  simp only [List.cons.injEq, and_true] at hb hs hz
  subst hb hs hz
  obtain ⟨⟨l⟩⟩ := s
  exact ⟨⟨b, l, z⟩, rfl, rfl, rfl, hl, hw⟩
set_option maxRecDepth 100000 in
theorem shut_dec {H : Type} {enc : TypeId × Value → H} {W : World} {base : Nat} {sp : Nat → Bool} {held : Bool} (d : Dec) (hl : d.digits.length ≤ maxLen) (hw : (Lit.int .i64 d.exp).wf = true) :
    DataW.Trod enc Tryz.prog W base sp held 24 (.agg #[.bool d.neg, .string ⟨d.digits.toArray⟩, .int .i64 d.exp]) (DecD d) [] :=
  Joins.shut_agg3 (y0 := (.lit (.bool d.neg), [])) (y1 := (.lit (.string d.digits), [])) (y2 := (.lit (.int .i64 d.exp), [])) Tryz.underlying24 (by kernel_rfl) cellsDec
    ⟨1, by simp [DataW.trod, Tryz.underlying4]⟩ ⟨1, by simp [DataW.trod, Tryz.underlying9, ByteArray.size]; exact hl⟩ ⟨1, by simp [DataW.trod, Tryz.underlying3, hw]⟩
end Go.Proofs.YtkakmjdfecbhaaaGreatDoor
