/- Arguments of HTTP's laws: requests, one or many, and pieces of bytes; their bulk. -/
import Derived.Test.YtgdfgppgfkkncaaGreatDoorHtOpn
import Derived.Test.YtgdfgppgfkkncaaGreatDoorHtQ
import Derived.Test.YtgdfgppgfkkncaaGreatDoorBckL
namespace Go.Proofs.YtgdfgppgfkkncaaGreatDoor
open Go.ChangeShapes Go.WideShapes Go.ChangeAt Go.RowKit

theorem addr_ok {w : World} {a : Addr} {v : Value} (h : w.cell? a = some v) : a.spot = none ∧ a.block < w.heap.size := by
  unfold World.cell? at h
  rcases Nat.lt_or_ge a.block w.heap.size with h9 | h9
  · refine ⟨?_, h9⟩
    cases hs : a.spot with
    | none => rfl
    | some s => rw [hs] at h; split at h <;> simp at h
  · rw [Array.getElem?_eq_none h9] at h; cases h
theorem add_zero (a : Addr) : a.add 0 = a := by unfold Addr.add; rw [if_pos rfl]
theorem bulk_all {H : Type} (l : List (DataW H)) : Rows.uptoBulkAll l = (l.map Rows.uptoBulk).sum := by
  induction l with
  | nil => simp [Rows.uptoBulkAll]
  | cons x l ih => simp only [Rows.uptoBulkAll, List.map_cons, List.sum_cons, ih]
theorem part_le {H : Type} {d : DataW H} {l : List (DataW H)} (h : d ∈ l) : Rows.uptoBulk d ≤ Rows.uptoBulkAll l := by
  induction l with
  | nil => cases h
  | cons x l ih =>
    simp only [Rows.uptoBulkAll]
    rcases List.mem_cons.1 h with rfl | h
    · omega
    · have := ih h; omega
theorem bulk_lits {H : Type} (k : IntKind) (zs : List Int) : Rows.uptoBulkAll (lits (H := H) k zs) = zs.length := by
  induction zs with
  | nil => simp [lits, Rows.uptoBulkAll]
  | cons z l ih =>
    simp only [lits, List.map_cons, Rows.uptoBulkAll] at ih ⊢
    rw [ih]; simp [Rows.uptoBulk]; omega
section
variable {H : Type} {enc : TypeId × Value → H} {W : World} {base : Nat} {sp : Nat → Bool} {held : Bool}
/-- A cell that reads as bytes. -/
theorem cell_bytG {n : Nat} {cs : List Value} {y : DataW H × List MemPlace} (h : DataW.trod enc Tryz.prog W base sp held n 23 cs = some y) : ∃ v l, cs = [v] ∧ BytG W v l ∧ l.length + 1 ≤ Rows.uptoBulk y.1 := by
  rcases open_ints Tryz.underlying23 Tryz.underlying5 cellsU8 h with ⟨rfl, rfl⟩ | ⟨a, len, cap, zs, rfl, _, hl, hm, hlen, rfl, hcell, hwf⟩
  · exact ⟨_, [], rfl, ⟨none, 0, rfl, Nat.le_refl _, Nat.zero_le _, fun h => by simp at h⟩, by simp [Rows.uptoBulk]⟩
  · have hzl : len ≤ zs.length := by rw [hlen]; split <;> omega
    have hll : ((zs.take len).map (fun z : Int => UInt8.ofNat z.toNat)).length = len := by simp; omega
    refine ⟨_, (zs.take len).map (fun z => UInt8.ofNat z.toNat), rfl, ⟨some a, cap, by rw [hll], by omega, by omega, fun h0 => ?_⟩, ?_⟩
    · rw [hll] at h0
      have h9 := hcell 0 (by omega)
      rw [add_zero] at h9
      obtain ⟨hs, hb⟩ := addr_ok h9
      obtain ⟨b, off, s⟩ := a
      simp only at hs hb
      subst hs
      refine ⟨b, off, rfl, hb, fun j hj => ?_⟩
      rw [hll] at hj
      have h1 := hcell j (by omega)
      rw [addr_off rfl] at h1
      rw [h1]
      have hz : (zs.getD j 0) ∈ zs := by
        rw [List.getD_eq_getElem?_getD, List.getElem?_eq_getElem (show j < zs.length by omega)]
        exact List.getElem_mem _
      have hw := hwf _ hz
      obtain ⟨z, hzz⟩ : ∃ z, zs.getD j 0 = z := ⟨_, rfl⟩
      have e9 : ((zs.take len).map (fun z : Int => UInt8.ofNat z.toNat)).getD j 0 = UInt8.ofNat z.toNat := by
        rw [← hzz]
        simp [hj, List.getElem?_eq_getElem (show j < zs.length by omega)]
      rw [e9, hzz]
      rw [hzz] at hw
      have hb : 0 ≤ z ∧ z < 256 := by
        simp [Lit.wf, IntKind.min, IntKind.max, IntKind.signed, IntKind.bits] at hw
        omega
      have e8 : ((UInt8.ofNat z.toNat).toNat : Int) = z := by
        rw [UInt8.toNat_ofNat_of_lt' (by show z.toNat < 256; omega)]
        omega
      rw [e8]
    · rw [hll]
      simp only [Rows.uptoBulk, bulk_lits, List.length_take]
      omega
theorem string_cell {n : Nat} {cs : List Value} {y : DataW H × List MemPlace} (h : DataW.trod enc Tryz.prog W base sp held n 9 cs = some y) : ∃ l : List UInt8, cs = [.string ⟨l.toArray⟩] ∧ Rows.uptoBulk y.1 = l.length + 1 := by
  obtain ⟨s, rfl, rfl, _⟩ := DataW.trod_string Tryz.underlying9 h
  exact ⟨s.data.toList, rfl, by simp [Rows.uptoBulk]⟩
theorem cells2 : Tryz.prog.cellsOf 61 = 2 := by kernel_rfl
theorem cells6 : Tryz.prog.cellsOf 40 = 6 := by kernel_rfl
theorem cellsStr : Tryz.prog.cellsOf 9 = 1 := by kernel_rfl
theorem cellsHdrs : Tryz.prog.cellsOf 38 = 1 := by kernel_rfl
theorem cellsByts : Tryz.prog.cellsOf 23 = 1 := by kernel_rfl
theorem cellsBool : Tryz.prog.cellsOf 4 = 1 := by kernel_rfl
theorem take1 {cs : List Value} {i : Nat} {v : Value} (h : (cs.drop i).take 1 = [v]) : cs[i]? = some v := by
  have := congrArg (·[0]?) h
  simpa using this
/-- A header's two cells. -/
theorem hdr_cells {n : Nat} {cs : List Value} {y : DataW H × List MemPlace} (h : DataW.trod enc Tryz.prog W base sp held n 61 cs = some y) : ∃ d : Hdr, cs[0]? = some (.string ⟨d.name.toArray⟩) ∧ cs[1]? = some (.string ⟨d.value.toArray⟩) ∧ hdrN d = Rows.uptoBulk y.1 := by
  obtain ⟨y0, y1, m, rfl, hl, h0, h1⟩ := trod_struct2 Tryz.underlying61 h
  simp only [cellsStr] at h0 h1
  obtain ⟨l0, e0, b0⟩ := string_cell h0
  obtain ⟨l1, e1, b1⟩ := string_cell h1
  refine ⟨⟨l0, l1⟩, take1 e0, take1 e1, ?_⟩
  simp only [hdrN, Rows.uptoBulk, Rows.uptoBulkAll, b0, b1]
  omega
instance : Inhabited Hdr := ⟨⟨[], []⟩⟩
instance : Inhabited Req := ⟨Req.zero⟩
/-- A cell that reads as headers. -/
theorem cell_hdrs {n : Nat} {cs : List Value} {y : DataW H × List MemPlace} (h : DataW.trod enc Tryz.prog W base sp held n 38 cs = some y) : ∃ v hs, cs = [v] ∧ HdrS W v hs ∧ (hs.map hdrN).sum + 1 ≤ Rows.uptoBulk y.1 := by
  rcases Deep.open_slice Tryz.underlying38 h with ⟨rfl, rfl⟩ | ⟨a, len, cap, m, k, D, Pl, rfl, _, hl, hm, hmm, rfl, hx⟩
  · exact ⟨_, [], rfl, ⟨none, 0, rfl, Nat.le_refl _, Nat.zero_le _, fun h => by simp at h⟩, by simp [Rows.uptoBulk]⟩
  · have hlm : len ≤ m := by rw [hmm]; split <;> omega
    have key : ∀ i, i < m → ∃ d : Hdr, W.cell? (a.add (i * 2)) = some (.string ⟨d.name.toArray⟩) ∧ W.cell? (a.add (i * 2 + 1)) = some (.string ⟨d.value.toArray⟩) ∧ hdrN d = Rows.uptoBulk (D i) := by
      intro i hi
      obtain ⟨cs', h1, h2⟩ := hx i hi
      rw [cells2] at h1
      obtain ⟨_, h3, h4⟩ := World.cells?_some h1
      obtain ⟨d, e0, e1, e2⟩ := hdr_cells h2
      refine ⟨d, ?_, ?_, e2⟩
      · have := h4 0 (by omega); rw [add_zero] at this; rw [this, e0]
      · have := h4 1 (by omega); rw [Deep.add_add] at this; rw [this, e1]
    obtain ⟨f, hf⟩ := Deep.choose_lt key
    have hlen : ((List.range len).map f).length = len := by simp
    have hget : ∀ i, i < len → ((List.range len).map f).getD i ⟨[], []⟩ = f i := fun i hi => by simp [List.getD, hi]
    refine ⟨_, (List.range len).map f, rfl, ⟨some a, cap, by rw [hlen], by omega, by omega, fun h0 => ?_⟩, ?_⟩
    · rw [hlen] at h0
      have h9 := (hf 0 (by omega)).1
      rw [Nat.zero_mul, add_zero] at h9
      obtain ⟨hs, hb⟩ := addr_ok h9
      obtain ⟨b, off, s⟩ := a
      simp only at hs hb
      subst hs
      refine ⟨b, off, rfl, hb, fun i hi => ?_⟩
      rw [hlen] at hi
      rw [hget i hi]
      have h1 := hf i (by omega)
      rw [addr_off rfl, addr_off rfl] at h1
      exact ⟨h1.1, h1.2.1⟩
    · have e : ((List.range len).map f).map hdrN = ((List.range len).map D).map Rows.uptoBulk := by
        rw [List.map_map, List.map_map]
        refine List.map_congr_left (fun i hi => ?_)
        exact (hf i (by have := List.mem_range.1 hi; omega)).2.2
      rw [e, ← bulk_all]
      simp only [Rows.uptoBulk]
      omega
theorem trod_struct6 {P : Program} {t : TypeId} {f0 f1 f2 f3 f4 f5 : Field} {fuel : Nat} {cs : List Value} {x : DataW H × List MemPlace} (ht : P.underlying t = some (.struct #[f0, f1, f2, f3, f4, f5])) (h : DataW.trod enc P W base sp held fuel t cs = some x) :
    ∃ y0 y1 y2 y3 y4 y5 n, x = (.agg [y0.1, y1.1, y2.1, y3.1, y4.1, y5.1], y0.2 ++ (y1.2 ++ (y2.2 ++ (y3.2 ++ (y4.2 ++ y5.2))))) ∧ cs.length = P.cellsOf t ∧ DataW.trod enc P W base sp held n f0.type ((cs.drop f0.offset).take (P.cellsOf f0.type)) = some y0 ∧
      DataW.trod enc P W base sp held n f1.type ((cs.drop f1.offset).take (P.cellsOf f1.type)) = some y1 ∧ DataW.trod enc P W base sp held n f2.type ((cs.drop f2.offset).take (P.cellsOf f2.type)) = some y2 ∧
      DataW.trod enc P W base sp held n f3.type ((cs.drop f3.offset).take (P.cellsOf f3.type)) = some y3 ∧ DataW.trod enc P W base sp held n f4.type ((cs.drop f4.offset).take (P.cellsOf f4.type)) = some y4 ∧
      DataW.trod enc P W base sp held n f5.type ((cs.drop f5.offset).take (P.cellsOf f5.type)) = some y5 := by
  obtain ⟨xs, n, _, rfl, hl, hlen, hf⟩ := DataW.trod_struct ht h
  match xs, hlen with
  | [y0, y1, y2, y3, y4, y5], _ => exact ⟨y0, y1, y2, y3, y4, y5, n, by simp, hl, by simpa using hf 0 f0 rfl, by simpa using hf 1 f1 rfl, by simpa using hf 2 f2 rfl, by simpa using hf 3 f3 rfl, by simpa using hf 4 f4 rfl, by simpa using hf 5 f5 rfl⟩
/-- A request's six cells. -/
theorem req_cells {n : Nat} {cs : List Value} {y : DataW H × List MemPlace} (h : DataW.trod enc Tryz.prog W base sp held n 40 cs = some y) : ∃ r : ReqR, (∀ i, i < 6 → cs[i]? = (reqCells r)[i]?) ∧ cs.length = 6 ∧ ReqS W (reqVal r) r.1 ∧ reqN r.1 ≤ Rows.uptoBulk y.1 := by
  obtain ⟨y0, y1, y2, y3, y4, y5, m, rfl, hl, h0, h1, h2, h3, h4, h5⟩ := trod_struct6 Tryz.underlying40 h
  rw [cells6] at hl
  simp only [cellsStr, cellsHdrs, cellsByts, cellsBool] at h0 h1 h2 h3 h4 h5
  obtain ⟨l0, e0, b0⟩ := string_cell h0
  obtain ⟨l1, e1, b1⟩ := string_cell h1
  obtain ⟨l2, e2, b2⟩ := string_cell h2
  obtain ⟨hv, hs, e3, H3, b3⟩ := cell_hdrs h3
  obtain ⟨bv, bd, e4, H4, b4⟩ := cell_bytG h4
  obtain ⟨cl, e5, b5⟩ := DataW.trod_bool Tryz.underlying4 h5
  refine ⟨(⟨l0, l1, l2, hs, bd, cl⟩, hv, bv), ?_, hl, ⟨hv, bv, rfl, H3, H4⟩, ?_⟩
  · intro i hi
    match i, hi with
    | 0, _ => exact take1 e0
    | 1, _ => exact take1 e1
    | 2, _ => exact take1 e2
    | 3, _ => exact take1 e3
    | 4, _ => exact take1 e4
    | 5, _ => exact take1 e5
  · simp only [reqN, Rows.uptoBulk, Rows.uptoBulkAll, b0, b1, b2]
    omega
set_option maxRecDepth 100000 in
/-- A request as an argument. -/
theorem open_req {r : Reach} {b0 : Nat} {v : Value} {x : DataW H} {p : List MemPlace}
    (hv : Value.okWide Tryz.prog W r b0 40 v) (h : DataW.Trod enc Tryz.prog W base sp held 40 v x p) : ∃ q : Req, ReqS W v q ∧ reqN q ≤ Rows.uptoBulk x := by
  simp only [Value.okWide, Tryz.underlying40] at hv
  obtain ⟨cs, hcs, _⟩ := hv
  subst hcs
  obtain ⟨fuel, hf⟩ := h
  obtain ⟨q, e0, e1, e2, e3⟩ := req_cells hf
  refine ⟨q.1, ?_, e3⟩
  have e9 : Value.agg cs = reqVal q := by
    have h1 : cs.toList = reqCells q := by
      refine List.ext_getElem? (fun i => ?_)
      rcases Nat.lt_or_ge i 6 with h9 | h9
      · exact e0 i h9
      · have hl : cs.toList.length = 6 := e1
        rw [List.getElem?_eq_none (by omega), List.getElem?_eq_none (by show 6 ≤ i; exact h9)]
    have h2 : cs = (reqCells q).toArray := by rw [← h1]
    rw [h2]; rfl
  rw [e9]
  exact e2
set_option maxRecDepth 100000 in
/-- Requests as an argument. -/
theorem open_reqs {r : Reach} {b0 : Nat} {v : Value} {x : DataW H} {p : List MemPlace}
    (hv : Value.okWide Tryz.prog W r b0 29 v) (h : DataW.Trod enc Tryz.prog W base sp held 29 v x p) : ∃ rs, ReqsS W v rs ∧ ∀ q ∈ rs, reqN q.1 ≤ Rows.uptoBulk x := by
  obtain ⟨a, len, cap, rfl⟩ := okWide_slice Tryz.underlying29 hv
  obtain ⟨fuel, hf⟩ := h
  have hc : Cell.okWide Tryz.prog W r b0 29 (.slice a len cap) := by
    simp only [Value.okWide, Tryz.underlying29] at hv
    exact hv
  rcases Deep.open_slice Tryz.underlying29 hf with ⟨hn, _⟩ | ⟨a, len, cap, m, k, D, Pl, hcs, _, hl, hm, hmm, hxx, hx⟩
  · simp only [Value.cells, List.cons.injEq, and_true] at hn
    exact ⟨[], .inl ⟨hn, rfl⟩, by simp⟩
  · simp only [Value.cells, List.cons.injEq, and_true] at hcs
    rw [hcs] at hc ⊢
    simp only [Cell.okWide, Cell.ok, Tryz.underlying29, World.has] at hc
    obtain ⟨_, _, _, hs, row, cells, hsh, _⟩ := hc
    obtain ⟨b, off, s⟩ := a
    simp only at hs hsh
    subst hs
    simp only [Prod.mk.injEq] at hxx
    have hlm : len ≤ m := by rw [hmm]; split <;> omega
    have key : ∀ i, i < m → ∃ q : ReqR, (∀ j, j < 6 → W.cell? ⟨b, off + i * 6 + j, none⟩ = (reqCells q)[j]?) ∧ ReqS W (reqVal q) q.1 ∧ reqN q.1 ≤ Rows.uptoBulk (D i) := by
      intro i hi
      obtain ⟨cs', h1, h2⟩ := hx i hi
      rw [cells6] at h1
      obtain ⟨_, h3, h4⟩ := World.cells?_some h1
      obtain ⟨q, e0, _, e1, e2⟩ := req_cells h2
      refine ⟨q, fun j hj => ?_, e1, e2⟩
      have := h4 j hj
      rw [Deep.add_add, addr_off rfl] at this
      rw [← e0 j hj, ← this, Nat.add_assoc]
    haveI : Inhabited ReqR := ⟨(default, .nilIface, .nilIface)⟩
    obtain ⟨f, hf⟩ := Deep.choose_lt key
    have hlen : ((List.range len).map f).length = len := by simp
    refine ⟨(List.range len).map f, .inr ⟨b, off, cap, by rw [hlen], by omega, by omega, ?_, fun j q hq => ?_⟩, fun q hq => ?_⟩
    · unfold World.shape? at hsh
      rcases Nat.lt_or_ge b W.heap.size with h9 | h9
      · exact h9
      · rw [Array.getElem?_eq_none h9] at hsh; cases hsh
    · have hj : j < len := by have := (List.getElem?_eq_some_iff.1 hq).1; omega
      have e : q = f j := by
        rw [List.getElem?_map, List.getElem?_range hj] at hq
        simpa using hq.symm
      subst e
      exact ⟨(hf j (by omega)).1, (hf j (by omega)).2.1⟩
    · obtain ⟨j, hj, rfl⟩ := List.mem_map.1 hq
      have hj := List.mem_range.1 hj
      refine Nat.le_trans (hf j (by omega)).2.2 ?_
      rw [hxx.1]
      simp only [Rows.uptoBulk]
      have : Rows.uptoBulk (D j) ≤ Rows.uptoBulkAll ((List.range len).map D) := by
        exact part_le (List.mem_map.2 ⟨j, List.mem_range.2 hj, rfl⟩)
      omega
end
end Go.Proofs.YtgdfgppgfkkncaaGreatDoor
