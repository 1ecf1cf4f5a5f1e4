/- Copies of headers: appending headers that lie anywhere. -/
import Derived.Test.YtgdfgppgfkkncaaGreatDoorHtS
namespace Go.Proofs.YtgdfgppgfkkncaaGreatDoor
open Go.RowKit

theorem run_append_hzero (w : World) (ty : TypeId) {B : Nat} {v x : Value} {l : List Hdr} (hv : HdrV w B v l) (hx : HdrS w x []) :
    (Builtin.append_ #[38, 38] ty #[v, x]).run Tryz.prog w = .ok v w := by
  obtain ⟨i0, hi, hz0, hz1, hz2⟩ := info_parts Tryz.info61
  obtain ⟨p, cap, rfl, _, _, _⟩ := hx.form
  rcases hv.2 with ⟨rfl, h2⟩ | ⟨g, cap, cur, rfl, h1, h2, h3, h4, h5, h6⟩
  · cases p <;> simp [Builtin.append_, run_underlying Tryz.underlying38, sizeOf, typeInfo, hi, Builtin.lenOf, Builtin.firstCells, loadCells, loadCellsFrom]
  · cases p <;> simp [Builtin.append_, run_underlying Tryz.underlying38, sizeOf, typeInfo, hi, Builtin.lenOf, Builtin.firstCells, loadCells, loadCellsFrom, h3, storeCells]
theorem hdrVals_one (hs : List Hdr) : ∀ u ∈ hdrVals hs, u.oneCell' = true := by
  intro u hu
  obtain ⟨h, _, h2⟩ := List.mem_flatMap.1 hu
  simp only [List.mem_cons, List.mem_nil_iff, or_false] at h2
  rcases h2 with rfl | rfl <;> rfl
theorem HdrS.cellVals {w : World} {b off n cap : Nat} {hs : List Hdr} (h : HdrS w (.slice (some ⟨b, off, none⟩) n cap) hs) : ∀ (j : Nat) u, (hdrVals hs)[j]? = some u → w.cell? ((⟨b, off, none⟩ : Addr).add j) = some u := by
  intro j u hj
  have hj2 := (List.getElem?_eq_some_iff.1 hj).1
  rw [hdrVals_len] at hj2
  have h1 := h.at (j / 2) (by omega)
  have h2 := hdrVals_at hs (j / 2) (by omega)
  rw [addr_off rfl]
  rcases Nat.mod_two_eq_zero_or_one j with hm | hm
  · have e : j / 2 * 2 = j := by omega
    rw [e] at h1 h2
    rw [h1.1, ← h2.1, hj]
  · have e : j / 2 * 2 + 1 = j := by omega
    rw [show off + j / 2 * 2 + 1 = off + (j / 2 * 2 + 1) by omega, e] at h1
    rw [e] at h2
    rw [h1.2, ← h2.2, hj]
/-- 'append(v, x...)': v is the call's own. -/
theorem run_append_hdrs (w : World) (ty : TypeId) {B : Nat} {v x : Value} {l m : List Hdr} (hv : HdrV w B v l) (hx : HdrS w x m) (hlen : l.length + m.length ≤ 1000000) (hB : B ≤ w.heap.size) :
    ∃ v' w', (Builtin.append_ #[38, 38] ty #[v, x]).run Tryz.prog w = .ok v' w' ∧ HdrV w' B v' (l ++ m) ∧ w.grownBy w' v.ownBlock := by
  obtain ⟨i0, hi, hz0, hz1, hz2⟩ := info_parts Tryz.info61
  by_cases hm : m = []
  · subst hm
    exact ⟨v, w, run_append_hzero w ty hv hx, by rw [List.append_nil]; exact hv, ⟨rfl, rfl, rfl, Nat.le_refl _, fun _ _ _ => rfl⟩⟩
  · have hm1 : 0 < m.length := List.length_pos_iff.2 hm
    obtain ⟨p, cap, rfl, _, _, hp⟩ := hx.form
    obtain ⟨b, off, rfl⟩ := hp hm1
    have hmx : (1000000 : Nat) ≤ maxLen := by decide
    obtain ⟨v', w', hr, ho, hg, _⟩ := run_append_own (P := Tryz.prog) w B 38 ty 61 i0 _ 2 32 Tryz.underlying38 hi hz0 hz1 hz2 rfl (by decide) v l.length (hdrVals l) hv ⟨b, off, none⟩ m.length cap (hdrVals m) (hdrVals_len m) hx.cellVals (hdrVals_one m) (by omega) (by omega) hB
    refine ⟨v', w', hr, ?_, hg⟩
    unfold HdrV
    rw [List.length_append, show hdrVals (l ++ m) = hdrVals l ++ hdrVals m from by simp [hdrVals]]
    exact ho
/-- 'append(v, x...)' as one operation. -/
theorem oper_append_hdrs {w : World} {o : Oper} {a : Act} {Q : Exit → Act → World → Prop} {K : Act → World → Prop} (s x : Operand)
    (ho : o.op = .call { callee := .builtin .append, args := #[s, x], argTypes := #[38, 38] })
    (B : Nat) (v xv : Value) (l m : List Hdr) (hs : a.eval s = v) (hv : HdrV w B v l) (hx : a.eval x = xv) (hxv : HdrS w xv m) (hlen : l.length + m.length ≤ 1000000) (hB : B ≤ w.heap.size)
    (hK : ∀ v' w', HdrV w' B v' (l ++ m) → w.grownBy w' v.ownBlock → K (a.put o.dst v') w') :
    Oper.wp Tryz.prog o a w K Q := by
  obtain ⟨v', w', hrun, h1, h2⟩ := run_append_hdrs w o.type hv hxv hlen hB
  unfold Oper.wp
  simp [execOp, ho, resolve, invoke, builtin, hs, hx, hrun, Result.andThen]
  exact hK _ _ h1 h2
theorem hdrV_empty (w : World) (B : Nat) (hB : B ≤ w.heap.size) : HdrV (w.alloc (.cells #[] 61)) B (.slice (some ⟨w.heap.size, 0, none⟩) 0 0) [] :=
  ⟨rfl, .inr ⟨w.heap.size, 0, #[], rfl, hB, by unfold World.alloc; simp, Nat.le_refl _, Nat.zero_le _, by simp, by simp [hdrVals]⟩⟩
theorem hdrS_one (w : World) (h : Hdr) : HdrS (w.alloc (.cells #[.string ⟨h.name.toArray⟩, .string ⟨h.value.toArray⟩] 61)) (.slice (some ⟨w.heap.size, 0, none⟩) 1 1) [h] := by
  refine ⟨_, 1, rfl, Nat.le_refl _, by simp [maxLen], fun _ => ⟨w.heap.size, 0, rfl, by simp, fun i hi => ?_⟩⟩
  have hi0 : i = 0 := by simpa using hi
  subst hi0
  exact ⟨(World.cell?_alloc_at _ _ _ _ rfl).trans rfl, (World.cell?_alloc_at _ _ _ _ rfl).trans rfl⟩
end Go.Proofs.YtgdfgppgfkkncaaGreatDoor
