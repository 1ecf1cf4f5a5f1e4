/- What the claims of HTTP share whose rows list one variable more: bytes.ErrTooLarge. -/
import Derived.Test.YtgdfgppgfkkncaaGreatDoorHtFrm
namespace Go.Proofs.YtgdfgppgfkkncaaGreatDoor
open Go.ChangeShapes Go.WideShapes Go.ChangeAt Go.RowKit

theorem laidVars_drop {P : Program} {w : World} {x : String × DataW Unit} {r : List (String × DataW Unit)} : ∀ (pre : List (String × DataW Unit)) (ps : List MemPlace), DataW.LaidVars P w (pre ++ x :: r) ps → ∃ qs, DataW.LaidVars P w (pre ++ r) qs ∧ qs.Sublist ps := by
  intro pre
  induction pre with
  | nil =>
    rintro ps hv
    obtain ⟨n, d⟩ := x
    obtain ⟨g, t, cs, fuel, p, q, _, _, _, _, hq, rfl⟩ := hv
    exact ⟨q, hq, List.sublist_append_right _ _⟩
  | cons y pre ih =>
    rintro ps hv
    obtain ⟨n, d⟩ := y
    obtain ⟨g, t, cs, fuel, p, q, h1, h2, h3, h4, hq, rfl⟩ := hv
    obtain ⟨q2, hq2, hs⟩ := ih q hq
    exact ⟨_, ⟨g, t, cs, fuel, p, q2, h1, h2, h3, h4, hq2, rfl⟩, List.Sublist.append (List.Sublist.refl _) hs⟩
theorem laidMet_drop {P : Program} {w : World} {x : String × DataW Unit} {r pre : List (String × DataW Unit)} (h : laidMet P (pre ++ x :: r) w) : laidMet P (pre ++ r) w := by
  obtain ⟨ps, hv, hnd, hrows⟩ := h
  obtain ⟨qs, hq, hs⟩ := laidVars_drop pre ps hv
  exact ⟨qs, hq, List.Nodup.sublist hs hnd, fun b off hm => hrows b off (hs.subset hm)⟩
/-- What these rows list. -/
def laidBig : List (String × DataW Unit) := [("math/bits.deBruijn32tab", Rows.laid_math_bits_deBruijn32tab), ("math/bits.deBruijn64tab", Rows.laid_math_bits_deBruijn64tab), ("internal/strconv.uint64pow10", Rows.laid_internal_strconv_uint64pow10), ("unicode/utf8.acceptRanges", Rows.laid_unicode_utf8_acceptRanges), ("strconv.ErrRange", Rows.laid_strconv_ErrRange), ("strconv.ErrSyntax", Rows.laid_strconv_ErrSyntax), ("bytes.ErrTooLarge", Rows.laid_bytes_ErrTooLarge), ("unicode.CaseRanges", Rows.laid_unicode_CaseRanges), ("unicode/utf8.first", Rows.laid_unicode_utf8_first)]
theorem big_all {W : World} (h : laidMet Tryz.prog laidBig W) : laidMet Tryz.prog laidAll W :=
  laidMet_drop (pre := [("math/bits.deBruijn32tab", Rows.laid_math_bits_deBruijn32tab), ("math/bits.deBruijn64tab", Rows.laid_math_bits_deBruijn64tab), ("internal/strconv.uint64pow10", Rows.laid_internal_strconv_uint64pow10), ("unicode/utf8.acceptRanges", Rows.laid_unicode_utf8_acceptRanges), ("strconv.ErrRange", Rows.laid_strconv_ErrRange), ("strconv.ErrSyntax", Rows.laid_strconv_ErrSyntax)]) (x := ("bytes.ErrTooLarge", Rows.laid_bytes_ErrTooLarge)) (r := [("unicode.CaseRanges", Rows.laid_unicode_CaseRanges), ("unicode/utf8.first", Rows.laid_unicode_utf8_first)]) h
theorem envB_of {W : World} (h : laidMet Tryz.prog laidBig W) (hs : W.ShapedOpen Tryz.prog) : Env W := env_of (big_all h) hs
noncomputable def laidWorldB (os : Os) : World := World.laidAll Tryz.prog os laidBig
theorem laidB_met (os : Os) (args : Array Value) : laidMet Tryz.prog laidBig ((laidWorldB os).forCall (fun _ _ => 0) ⟨#[], args, []⟩).memory :=
  laidMet_laidAll args (by kernel_rfl) (by kernel_rfl)
theorem laidB_os (os : Os) : (laidWorldB os).os = os := World.laidAll_os _ _ _
theorem laidB_zip (os : Os) (args : Array Value) : ((laidWorldB os).forCall (fun _ _ => 0) ⟨#[], args, []⟩).variablesZipB Tryz.checked.prog = true := by kernel_rfl
theorem laidB_rest (os : Os) (args : Array Value) : (((laidWorldB os).forCall (fun _ _ => 0) ⟨#[], args, []⟩).heap.toList.drop Tryz.checked.prog.globals.size).take ((begin Tryz.checked.prog (fun _ _ => 0) default).world.heap.size - Tryz.checked.prog.globals.size) =
      (begin Tryz.checked.prog (fun _ _ => 0) default).world.heap.toList.drop Tryz.checked.prog.globals.size := by kernel_rfl
theorem laidB_shaped (os : Os) (args : Array Value) : ((laidWorldB os).forCall (fun _ _ => 0) ⟨#[], args, []⟩).Shaped Tryz.checked.prog := World.shaped_of_ZipB (laidB_zip os args) (laidB_rest os args)
end Go.Proofs.YtgdfgppgfkkncaaGreatDoor
