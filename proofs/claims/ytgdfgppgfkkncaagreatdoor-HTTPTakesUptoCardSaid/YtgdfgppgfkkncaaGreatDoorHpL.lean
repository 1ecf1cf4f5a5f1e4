/- Copies with something spare behind: what HTTPPuts makes of its argument. -/
import Derived.Test.YtgdfgppgfkkncaaGreatDoorHpA
import Derived.Test.YtgdfgppgfkkncaaGreatDoorHtSp
import Derived.Test.YtgdfgppgfkkncaaGreatDoorBckL
namespace Go.Proofs.YtgdfgppgfkkncaaGreatDoor
open Go.RowKit

theorem HdrS.grown {w w' : World} {g o n c : Nat} {hs : List Hdr} {row : Option Nat} (h : HdrS w (.slice (some ⟨g, o, none⟩) n c) hs) (hg : w.grownBy w' row) (hne : some g ≠ row) : HdrS w' (.slice (some ⟨g, o, none⟩) n c) hs := by
  obtain ⟨p, cap, h1, h2, h3, h4⟩ := h
  refine ⟨p, cap, h1, h2, h3, fun h0 => ?_⟩
  obtain ⟨b, off, e, hl, h5⟩ := h4 h0
  subst e
  simp only [Value.slice.injEq, Option.some.injEq, Addr.mk.injEq] at h1
  obtain ⟨⟨rfl, rfl, -⟩, -, -⟩ := h1
  exact ⟨g, o, rfl, Nat.lt_of_lt_of_le hl hg.size, fun i hi => ⟨hg.cell (a := ⟨g, o + i * 2, none⟩) (h5 i hi).1 hne, hg.cell (a := ⟨g, o + i * 2 + 1, none⟩) (h5 i hi).2 hne⟩⟩
theorem run_append_waitG (w : World) (ty : TypeId) {B : Nat} {v x : Value} {l m : List UInt8} (hv : WaitV w B v l) (hx : BytG w x m) (hlen : l.length + m.length ≤ 100000000) (hB : B ≤ w.heap.size) :
    ∃ v' w', (Builtin.append_ #[23, 23] ty #[v, x]).run Tryz.prog w = .ok v' w' ∧ WaitV w' B v' (l ++ m) ∧ w.grownBy w' v.ownBlock ∧ ∀ k, v'.ownBlock = some k → v.ownBlock = some k ∨ w.heap.size ≤ k := by
  rcases hx.cases with ⟨rfl, p, cap, rfl⟩ | ⟨_, h⟩
  · obtain ⟨i0, hi, hz0, hz1, hz2⟩ := info_parts Tryz.info5
    refine ⟨v, w, ?_, by rw [List.append_nil]; exact hv, ⟨rfl, rfl, rfl, Nat.le_refl _, fun _ _ _ => rfl⟩, fun k hk => .inl hk⟩
    rcases hv with ⟨rfl, rfl⟩ | ⟨g, off, cap, rfl, h2, h3, h4, _⟩
    · cases p <;> simp [Builtin.append_, run_underlying Tryz.underlying23, sizeOf, typeInfo, hi, Builtin.lenOf, Builtin.firstCells, loadCells, loadCellsFrom]
    · cases p <;> simp [Builtin.append_, run_underlying Tryz.underlying23, sizeOf, typeInfo, hi, Builtin.lenOf, Builtin.firstCells, loadCells, loadCellsFrom, h4, storeCells]
  · exact run_append_wait w ty hv h hlen hB
/-- 'append(wait, x...)' as one operation. -/
theorem oper_append_waitG {w : World} {o : Oper} {a : Act} {Q : Exit → Act → World → Prop} {K : Act → World → Prop} (s x : Operand)
    (ho : o.op = .call { callee := .builtin .append, args := #[s, x], argTypes := #[23, 23] })
    (B : Nat) (v xv : Value) (l m : List UInt8) (hs : a.eval s = v) (hv : WaitV w B v l) (hx : a.eval x = xv) (hxv : BytG w xv m) (hlen : l.length + m.length ≤ 100000000) (hB : B ≤ w.heap.size)
    (hK : ∀ v' w', WaitV w' B v' (l ++ m) → w.grownBy w' v.ownBlock → (∀ k, v'.ownBlock = some k → v.ownBlock = some k ∨ w.heap.size ≤ k) → K (a.put o.dst v') w') :
    Oper.wp Tryz.prog o a w K Q := by
  obtain ⟨v', w', hrun, h1, h2, h3⟩ := run_append_waitG w o.type hv hxv hlen hB
  unfold Oper.wp
  simp [execOp, ho, resolve, invoke, builtin, hs, hx, hrun, Result.andThen]
  exact hK _ _ h1 h2 h3
theorem hdrs_len (hs : List Hdr) : hs.length ≤ (hs.map hdrN).sum := by
  induction hs with
  | nil => simp
  | cons h l ih => simp only [List.map_cons, List.sum_cons, List.length_cons, hdrN]; omega
def spareN : List UInt8 := [115, 112, 97, 114, 101]
/-- Headers of the call's own with a spare one behind. -/
def SpareH (w : World) (B : Nat) (v : Value) (hs : List Hdr) : Prop :=
  ∃ g cap, v = .slice (some ⟨g, 0, none⟩) hs.length cap ∧ HdrV w B (.slice (some ⟨g, 0, none⟩) (hs.length + 1) cap) (hs ++ [⟨spareN, []⟩])
theorem SpareH.parts {w : World} {B g cap : Nat} {hs : List Hdr} (h : HdrV w B (.slice (some ⟨g, 0, none⟩) (hs.length + 1) cap) (hs ++ [⟨spareN, []⟩])) :
    HdrS w (.slice (some ⟨g, 0, none⟩) hs.length cap) hs ∧ w.cell? ⟨g, hs.length * 2, none⟩ = some (.string ⟨spareN.toArray⟩) ∧ hs.length + 1 ≤ cap ∧ B ≤ g ∧ g < w.heap.size := by
  have hs1 := h.s
  have hlt := World.ownsRow.lt h g rfl
  obtain ⟨p, c, e, hc, hm, h4⟩ := hs1
  simp only [List.length_append, List.length_singleton, Value.slice.injEq] at e hc hm h4
  obtain ⟨rfl, -, rfl⟩ := e
  obtain ⟨b, off, e2, _, h5⟩ := h4 (by omega)
  simp only [Option.some.injEq, Addr.mk.injEq] at e2
  obtain ⟨rfl, rfl, -⟩ := e2
  refine ⟨⟨_, cap, rfl, by omega, by omega, fun h0 => ⟨g, 0, rfl, hlt.2, fun i hi => ?_⟩⟩, ?_, hc, hlt.1, hlt.2⟩
  · have h6 := h5 i (by omega)
    rw [show (hs ++ [(⟨spareN, []⟩ : Hdr)]).getD i ⟨[], []⟩ = hs.getD i ⟨[], []⟩ from by simp only [List.getD_eq_getElem?_getD]; rw [List.getElem?_append_left hi]] at h6
    exact h6
  · have h6 := (h5 hs.length (by omega)).1
    rw [Nat.zero_add] at h6
    rw [h6]
    simp [List.getD]
end Go.Proofs.YtgdfgppgfkkncaaGreatDoor
