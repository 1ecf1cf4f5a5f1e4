/- What the library's variables hold: what the walks of HTTP ask of a world. -/
import Derived.Test.YtgdfgppgfkkncaaGreatDoorHtB
import Derived.Test.YtgdfgppgfkkncaaGreatDoorShelf
import Derived.Shelf.Strings.SlTrimAscii
import Derived.Shelf.Strconv.ErrVarAll
namespace Go.Proofs.YtgdfgppgfkkncaaGreatDoor
open Go.RowKit

theorem var_below {P : Program} {B g : Nat} {W W' : World} {n : String} {cs : Array Value} (h : Below B W W') (hg : P.globalNamed n = some g) (hgB : g < B) (hv : W.var? P n = some cs) : W'.var? P n = some cs := by
  unfold World.var? at hv ⊢
  simp only [hg, Option.bind_some] at hv ⊢
  rw [h.block g hgB]
  exact hv
theorem gRange : Tryz.prog.globalNamed "strconv.ErrRange" = some 4 := by kernel_rfl
theorem gSyn : Tryz.prog.globalNamed "strconv.ErrSyntax" = some 3 := by kernel_rfl
theorem gPow : Tryz.prog.globalNamed "internal/strconv.uint64pow10" = some 7 := by kernel_rfl
/-- The library's variables hold what its text lays. -/
structure Env (w : World) : Prop where
  size : Tryz.prog.globals.size ≤ w.heap.size
  maxLen : ∃ m, w.cell? ⟨0, 0, none⟩ = some (.int .i64 m)
  range : ∃ tp p, w.var? Tryz.prog "strconv.ErrRange" = some #[.iface tp p]
  syn : ∃ tp p, w.var? Tryz.prog "strconv.ErrSyntax" = some #[.iface tp p]
  tab : Lib.TabIs Tryz.prog w "internal/strconv.uint64pow10" .u64 Lib.pow10Tab
  case : Lib.CaseVar 2 Lib.caseA w
  utf : Lib.Utf8Tabs 5 6 w
theorem Env.below {w w' : World} (h : Env w) (hb : Below w.heap.size w w') : Env w' := by
  have hs := h.size
  obtain ⟨m, hm⟩ := h.maxLen
  obtain ⟨t1, p1, h1⟩ := h.range
  obtain ⟨t2, p2, h2⟩ := h.syn
  exact ⟨Nat.le_trans hs hb.size, ⟨m, (hb.cell (p := ⟨_, 0, none⟩) (World.block_lt_of_cell? _ _ hm)).trans hm⟩, ⟨t1, p1, var_below hb gRange (Nat.lt_of_lt_of_le (by decide) hs) h1⟩, ⟨t2, p2, var_below hb gSyn (Nat.lt_of_lt_of_le (by decide) hs) h2⟩,
    Joins.tab_stays (g := 7) (by kernel_rfl) h.tab hb (Nat.le_refl _), Lib.CaseVar_below h.case hb, Utf8Tabs_below h.utf hb⟩
theorem Env.drew {w : World} (h : Env w) : Env w.drew := h.below (Below.refl _ _).drew
end Go.Proofs.YtgdfgppgfkkncaaGreatDoor
