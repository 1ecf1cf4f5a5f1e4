/- Stores of a whole decimal into a block, and what stands elsewhere. -/
import Derived.Test.YtkakmjdfecbhaaaGreatDoorDec5
namespace Go.Proofs.YtkakmjdfecbhaaaGreatDoor
open Go.RowKit

theorem DecAt.far {w : World} {b g : Nat} {d : Dec} (h : DecAt w b d) (hg : g ≠ b) (i : Nat) (v : Value) : DecAt (w.setCell ⟨g, i, none⟩ v) b d :=
  have key : ∀ k, (w.setCell ⟨g, i, none⟩ v).cell? ⟨b, k, none⟩ = w.cell? ⟨b, k, none⟩ := fun k => World.cell?_setCell_other _ _ _ _ (fun e => hg (by injection e))
  ⟨(key 0).trans h.c0, (key 1).trans h.c1, (key 2).trans h.c2, by rw [World.frozen?_setCell]; exact h.f0, by rw [World.frozen?_setCell]; exact h.f1, by rw [World.frozen?_setCell]; exact h.f2, by simpa using h.lt⟩
/-- A decimal is stored. -/
def putDec (w : World) (g : Nat) (x : Dec) : World := ((w.setCell ⟨g, 0, none⟩ (.bool x.neg)).setCell ⟨g, 1, none⟩ (.string ⟨x.digits.toArray⟩)).setCell ⟨g, 2, none⟩ (.int .i64 x.exp)
theorem DecAt.far3 {w : World} {b g : Nat} {d : Dec} (h : DecAt w b d) (hg : g ≠ b) (x : Dec) : DecAt (putDec w g x) b d := ((h.far hg 0 _).far hg 1 _).far hg 2 _
theorem DecAt.put {w : World} {g : Nat} {y : Dec} (h : DecAt w g y) (x : Dec) : DecAt (putDec w g x) g x := by
  have h0 : (w.setCell ⟨g, 0, none⟩ (.bool x.neg)).cell? ⟨g, 0, none⟩ = some (.bool x.neg) := by rw [World.cell?_setCell_same _ _ _ h.c0]
  have h1 : ((w.setCell ⟨g, 0, none⟩ (.bool x.neg)).setCell ⟨g, 1, none⟩ (.string ⟨x.digits.toArray⟩)).cell? ⟨g, 1, none⟩ = some (.string ⟨x.digits.toArray⟩) := by
    have e : (w.setCell ⟨g, 0, none⟩ (.bool x.neg)).cell? ⟨g, 1, none⟩ = some (.string ⟨y.digits.toArray⟩) := by rw [World.cell?_setCell_other _ _ _ _ (fun e => by injection e with _ e; omega)]; exact h.c1
    rw [World.cell?_setCell_same _ _ _ e]
  have e2 : ((w.setCell ⟨g, 0, none⟩ (.bool x.neg)).setCell ⟨g, 1, none⟩ (.string ⟨x.digits.toArray⟩)).cell? ⟨g, 2, none⟩ = some (.int .i64 y.exp) := by
    rw [World.cell?_setCell_other _ _ _ _ (fun e => by injection e with _ e; omega), World.cell?_setCell_other _ _ _ _ (fun e => by injection e with _ e; omega)]; exact h.c2
  refine ⟨?_, ?_, ?_, ?_, ?_, ?_, ?_⟩
  · unfold putDec
    rw [World.cell?_setCell_other _ _ _ _ (fun e => by injection e with _ e; omega), World.cell?_setCell_other _ _ _ _ (fun e => by injection e with _ e; omega)]; exact h0
  · unfold putDec
    rw [World.cell?_setCell_other _ _ _ _ (fun e => by injection e with _ e; omega)]; exact h1
  · unfold putDec
    rw [World.cell?_setCell_same _ _ _ e2]
  · unfold putDec; simp only [World.frozen?_setCell]; exact h.f0
  · unfold putDec; simp only [World.frozen?_setCell]; exact h.f1
  · unfold putDec; simp only [World.frozen?_setCell]; exact h.f2
  · unfold putDec; simpa using h.lt
theorem below_putDec {B : Nat} {w0 w : World} (h : Below B w0 w) {g : Nat} (hg : B ≤ g) (x : Dec) : Below B w0 (putDec w g x) := ((h.setCell hg _).setCell hg _).setCell hg _
end Go.Proofs.YtkakmjdfecbhaaaGreatDoor
