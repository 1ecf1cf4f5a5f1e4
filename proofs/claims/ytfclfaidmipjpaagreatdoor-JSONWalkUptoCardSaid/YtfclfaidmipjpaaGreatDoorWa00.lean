/- Texts of this claim, joined: JsB, Jr12, Pso, JOj, Sml, Rfe. -/
import Derived.RangeFuncNested
import Derived.RangeFuncBound
import Derived.Test.YtfclfaidmipjpaaGreatDoorCo32
namespace Go.Proofs.YtfclfaidmipjpaaGreatDoor
set_option maxRecDepth 100000
set_option maxHeartbeats 20000000
open Go.Lib (hid)
open Go.RowKit
theorem bytes_app (a b : List UInt8) : ((⟨a.toArray⟩ : ByteArray) ++ ⟨b.toArray⟩) = ⟨(a ++ b).toArray⟩ := bytes_eq (by simp [ByteArray.data_append])
open Go.RowKit
def SameTo (w : World) (a b : J) (e : Ending) (w' : World) : Prop := ∃ bb : Bool, e = .returned (.bool bb) ∧ (bb = true ↔ a = b) ∧ Below w.heap.size w w'
theorem SameTo.no {w W : World} {a b : J} (h : a ≠ b) (hb : Below w.heap.size w W) : SameTo w a b (.returned (.bool false)) W := ⟨false, rfl, ⟨(fun h => by cases h), (fun e => absurd e h)⟩, hb⟩
theorem SameTo.yes {w W : World} {a b : J} (h : a = b) (hb : Below w.heap.size w W) : SameTo w a b (.returned (.bool true)) W := ⟨true, rfl, ⟨(fun _ => h), (fun _ => rfl)⟩, hb⟩
theorem rangeAt_bel {w a b : World} {g o : Nat} {cs : List Value} (h : w.rangeAt g o cs) (h1 : Below w.heap.size w a) (h2 : Below a.heap.size a b) (hg : g < w.heap.size) : b.rangeAt g o cs := fun j v hj => by
 rw [h2.cell (p := ⟨g, o + j, none⟩) (Nat.lt_of_lt_of_le hg h1.size), h1.cell (p := ⟨g, o + j, none⟩) hg]; exact h j v hj
variable {α : Type}
theorem goodL_iff (l : List J) : goodL l = true ↔ ∀ x ∈ l, goodJ x = true := by
 induction l with
 | nil => simp [goodL]
 | cons x l ih => rw [goodL, Bool.and_eq_true, ih]; simp
open Go.ChangeShapes Go.WideShapes Go.ChangeAt Go.RowKit
set_option maxRecDepth 100000
theorem addr_ok {w : World} {a : Addr} {v : Value} (h : w.cell? a = some v) : a.spot = none ∧ a.block < w.heap.size := by
 unfold World.cell? at h
 rcases Nat.lt_or_ge a.block w.heap.size with h9 | h9
 ·refine ⟨?_, h9⟩
  cases hs : a.spot with
  | none => rfl
  | some s => rw [hs] at h; split at h <;> simp at h
 rw [Array.getElem?_eq_none h9] at h; cases h
theorem add_zero (a : Addr) : a.add 0 = a := by unfold Addr.add; rw [if_pos rfl]
theorem bulk_all {H : Type} (l : List (DataW H)) : Rows.uptoBulkAll l = (l.map Rows.uptoBulk).sum := by
 induction l with
 | nil => simp [Rows.uptoBulkAll]
 | cons x l ih => simp only [Rows.uptoBulkAll, List.map_cons, List.sum_cons, ih]
theorem part_le {H : Type} {d : DataW H} {l : List (DataW H)} (h : d ∈ l) : Rows.uptoBulk d ≤ Rows.uptoBulkAll l := by
 induction l with
 | nil => cases h
 | cons x l ih =>
  simp only [Rows.uptoBulkAll]
  rcases List.mem_cons.1 h with rfl | h
  ·omega
  have := ih h; omega
section
variable {H : Type} {enc : TypeId × Value → H} {W : World} {base : Nat} {sp : Nat → Bool} {held : Bool}
theorem string_cell {n : Nat} {cs : List Value} {y : DataW H × List MemPlace} (h : DataW.trod enc Tryz.prog W base sp held n 9 cs = some y) : ∃ l : List UInt8, cs = [.string ⟨l.toArray⟩] ∧ Rows.uptoBulk y.1 = l.length + 1 := by
 obtain ⟨s, rfl, rfl, _⟩ := DataW.trod_string Tryz.underlying9 h
 exact ⟨s.data.toList, rfl, by simp [Rows.uptoBulk]⟩
theorem trod_struct6 {P : Program} {t : TypeId} {f0 f1 f2 f3 f4 f5 : Field} {fuel : Nat} {cs : List Value} {x : DataW H × List MemPlace} (ht : P.underlying t = some (.struct #[f0, f1, f2, f3, f4, f5])) (h : DataW.trod enc P W base sp held fuel t cs = some x) :
  ∃ y0 y1 y2 y3 y4 y5 n, x = (.agg [y0.1, y1.1, y2.1, y3.1, y4.1, y5.1], y0.2 ++ (y1.2 ++ (y2.2 ++ (y3.2 ++ (y4.2 ++ y5.2))))) ∧ cs.length = P.cellsOf t ∧ DataW.trod enc P W base sp held n f0.type ((cs.drop f0.offset).take (P.cellsOf f0.type)) = some y0 ∧
   DataW.trod enc P W base sp held n f1.type ((cs.drop f1.offset).take (P.cellsOf f1.type)) = some y1 ∧ DataW.trod enc P W base sp held n f2.type ((cs.drop f2.offset).take (P.cellsOf f2.type)) = some y2 ∧
   DataW.trod enc P W base sp held n f3.type ((cs.drop f3.offset).take (P.cellsOf f3.type)) = some y3 ∧ DataW.trod enc P W base sp held n f4.type ((cs.drop f4.offset).take (P.cellsOf f4.type)) = some y4 ∧
   DataW.trod enc P W base sp held n f5.type ((cs.drop f5.offset).take (P.cellsOf f5.type)) = some y5 := by
 obtain ⟨xs, n, _, rfl, hl, hlen, hf⟩ := DataW.trod_struct ht h
 match xs, hlen with
 | [y0, y1, y2, y3, y4, y5], _ => exact ⟨y0, y1, y2, y3, y4, y5, n, by simp, hl, by simpa using hf 0 f0 rfl, by simpa using hf 1 f1 rfl, by simpa using hf 2 f2 rfl, by simpa using hf 3 f3 rfl, by simpa using hf 4 f4 rfl, by simpa using hf 5 f5 rfl⟩
theorem take1 {cs : List Value} {i : Nat} {v : Value} (h : (cs.drop i).take 1 = [v]) : cs[i]? = some v := by
 have := congrArg (·[0]?) h
 simpa using this
theorem trod_struct3 {P : Program} {t : TypeId} {f0 f1 f2 : Field} {fuel : Nat} {cs : List Value} {x : DataW H × List MemPlace} (ht : P.underlying t = some (.struct #[f0, f1, f2])) (h : DataW.trod enc P W base sp held fuel t cs = some x) :
  ∃ y0 y1 y2 n, x = (.agg [y0.1, y1.1, y2.1], y0.2 ++ (y1.2 ++ y2.2)) ∧ cs.length = P.cellsOf t ∧ DataW.trod enc P W base sp held n f0.type ((cs.drop f0.offset).take (P.cellsOf f0.type)) = some y0 ∧
   DataW.trod enc P W base sp held n f1.type ((cs.drop f1.offset).take (P.cellsOf f1.type)) = some y1 ∧ DataW.trod enc P W base sp held n f2.type ((cs.drop f2.offset).take (P.cellsOf f2.type)) = some y2 := by
 obtain ⟨xs, n, _, rfl, hl, hlen, hf⟩ := DataW.trod_struct ht h
 match xs, hlen with
 | [y0, y1, y2], _ => exact ⟨y0, y1, y2, n, by simp, hl, by simpa using hf 0 f0 rfl, by simpa using hf 1 f1 rfl, by simpa using hf 2 f2 rfl⟩
theorem cellsStr : Tryz.prog.cellsOf 9 = 1 := by kernel_rfl
theorem cellsBool : Tryz.prog.cellsOf 4 = 1 := by kernel_rfl
theorem cellsInt : Tryz.prog.cellsOf 3 = 1 := by kernel_rfl
theorem cellsKind : Tryz.prog.cellsOf 24 = 1 := by kernel_rfl
theorem cellsDec : Tryz.prog.cellsOf 26 = 3 := by kernel_rfl
theorem cellsJ : Tryz.prog.cellsOf 30 = 8 := by kernel_rfl
theorem cellsJs : Tryz.prog.cellsOf 27 = 1 := by kernel_rfl
theorem cellsStrs : Tryz.prog.cellsOf 28 = 1 := by kernel_rfl
theorem int_cell {n : Nat} {cs : List Value} {y : DataW H × List MemPlace} {t : TypeId} (ht : Tryz.prog.underlying t = some (.int .i64)) (h : DataW.trod enc Tryz.prog W base sp held n t cs = some y) : ∃ z : Int, cs = [.int .i64 z] ∧ Rows.uptoBulk y.1 = 1 := by
 obtain ⟨z, rfl, rfl, _⟩ := DataW.trod_int ht h
 exact ⟨z, rfl, by simp [Rows.uptoBulk]⟩
theorem take3 {cs : List Value} {i : Nat} {a b c : Value} (h : (cs.drop i).take 3 = [a, b, c]) : cs[i]? = some a ∧ cs[i + 1]? = some b ∧ cs[i + 2]? = some c := by
 have h0 := congrArg (·[0]?) h
 have h1 := congrArg (·[1]?) h
 have h2 := congrArg (·[2]?) h
 simp at h0 h1 h2
 exact ⟨h0, h1, h2⟩
theorem dec_cells {n : Nat} {cs : List Value} {y : DataW H × List MemPlace} (h : DataW.trod enc Tryz.prog W base sp held n 26 cs = some y) : ∃ d : Dec, cs = [.bool d.neg, .string ⟨d.digits.toArray⟩, .int .i64 d.exp] ∧ d.digits.length + 1 ≤ Rows.uptoBulk y.1 := by
 obtain ⟨y0, y1, y2, m, rfl, hl, h0, h1, h2⟩ := trod_struct3 Tryz.underlying26 h
 rw [cellsDec] at hl
 simp only [cellsStr, cellsBool, cellsInt] at h0 h1 h2
 obtain ⟨b, e0, b0⟩ := DataW.trod_bool Tryz.underlying4 h0
 obtain ⟨l1, e1, b1⟩ := string_cell h1
 obtain ⟨z, e2, b2⟩ := int_cell Tryz.underlying3 h2
 have c0 := take1 e0
 have c1 := take1 e1
 have c2 := take1 e2
 refine ⟨⟨b, l1, z⟩, ?_, ?_⟩
 ·refine List.ext_getElem? (fun i => ?_)
  match i with
  | 0 => exact c0
  | 1 => exact c1
  | 2 => exact c2
  | i + 3 => rw [List.getElem?_eq_none (by omega)]; rfl
 simp only [Rows.uptoBulk, Rows.uptoBulkAll, b1]
 omega
theorem cell_nams {n : Nat} {cs : List Value} {y : DataW H × List MemPlace} (h : DataW.trod enc Tryz.prog W base sp held n 28 cs = some y) : ∃ v ns, cs = [v] ∧ NamS W (fun _ => True) v ns ∧ szN ns + 1 ≤ Rows.uptoBulk y.1 := by
 rcases Deep.open_slice Tryz.underlying28 h with ⟨rfl, rfl⟩ | ⟨a, len, cap, m, k, D, Pl, rfl, _, hl, hm, hmm, rfl, hx⟩
 ·exact ⟨_, [], rfl, NamS.nil _ _, by simp [Rows.uptoBulk, szN]⟩
 have hlm : len ≤ m := by rw [hmm]; split <;> omega
 have key : ∀ i, i < m → ∃ s : List UInt8, W.cell? (a.add i) = some (.string ⟨s.toArray⟩) ∧ s.length + 1 = Rows.uptoBulk (D i) := by
  intro i hi
  obtain ⟨cs', h1, h2⟩ := hx i hi
  rw [cellsStr] at h1
  obtain ⟨_, h3, h4⟩ := World.cells?_some h1
  obtain ⟨s, e0, e1⟩ := string_cell h2
  refine ⟨s, ?_, e1.symm⟩
  have := h4 0 (by omega)
  rw [add_zero, Nat.mul_one] at this
  rw [this, e0]; rfl
 obtain ⟨f, hf⟩ := Deep.choose_lt key
 have hlen : ((List.range len).map f).length = len := by simp
 refine ⟨_, (List.range len).map f, rfl, ⟨some a, cap, by rw [hlen], by omega, by omega, fun h0 => ?_⟩, ?_⟩
 ·rw [hlen] at h0
  have h9 := (hf 0 (by omega)).1
  rw [add_zero] at h9
  obtain ⟨hs, hb⟩ := addr_ok h9
  obtain ⟨b, off, s⟩ := a
  simp only at hs hb
  subst hs
  refine ⟨b, off, rfl, InS.any _ _ _ _, hb, fun i s hi => ?_⟩
  have hj : i < len := by have := (List.getElem?_eq_some_iff.1 hi).1; omega
  rw [List.getElem?_map, List.getElem?_range hj] at hi
  have h1 := (hf i (by omega)).1
  rw [addr_off rfl] at h1
  rw [h1]
  simp only [Option.map_some, Option.some.injEq] at hi
  rw [hi]
 have e : szN ((List.range len).map f) = Rows.uptoBulkAll ((List.range len).map D) := by
  rw [bulk_all]
  unfold szN
  rw [List.map_map, List.map_map]
  refine congrArg List.sum (List.map_congr_left (fun i hi => ?_))
  exact (hf i (by have := List.mem_range.1 hi; omega)).2
 rw [e]
 simp only [Rows.uptoBulk]
 omega
theorem szL_sum (l : List J) : szL l = (l.map szJ).sum := by
 induction l with
 | nil => simp [szL]
 | cons x l ih => simp only [szL, List.map_cons, List.sum_cons, ih]
theorem sum_le (f g : Nat → Nat) : ∀ (l : List Nat), (∀ i ∈ l, f i ≤ g i) → (l.map f).sum ≤ (l.map g).sum
 | [], _ => by simp
 | x :: l, h => by
  simp only [List.map_cons, List.sum_cons]
  have h1 := h x (by simp)
  have h2 := sum_le f g l (fun i hi => h i (by simp [hi]))
  omega
theorem json_cells : ∀ (N n : Nat) (cs : List Value) (y : DataW H × List MemPlace), DataW.trod enc Tryz.prog W base sp held n 30 cs = some y → Rows.uptoBulk y.1 ≤ N → ∃ r : JR, cs = jcells r ∧ JV W (fun _ => True) r ∧ szJ r.1 ≤ Rows.uptoBulk y.1
 | 0, n, cs, y, h, hN => by
  obtain ⟨y0, y1, y2, y3, y4, y5, m, rfl, hl, h0, h1, h2, h3, h4, h5⟩ := trod_struct6 Tryz.underlying30 h
  simp only [Rows.uptoBulk] at hN
  omega
 | N + 1, n, cs, y, h, hN => by
  obtain ⟨y0, y1, y2, y3, y4, y5, m, rfl, hl, h0, h1, h2, h3, h4, h5⟩ := trod_struct6 Tryz.underlying30 h
  rw [cellsJ] at hl
  simp only [cellsStr, cellsKind, cellsBool, cellsDec, cellsJs, cellsStrs] at h0 h1 h2 h3 h4 h5
  obtain ⟨kd, e0, b0⟩ := int_cell Tryz.underlying24 h0
  obtain ⟨bb, e1, b1⟩ := DataW.trod_bool Tryz.underlying4 h1
  obtain ⟨d, e2, b2⟩ := dec_cells h2
  obtain ⟨tx, e3, b3⟩ := string_cell h3
  obtain ⟨nv, ns, e5, H5, b5⟩ := cell_nams h5
  have c0 := take1 e0
  have c1 := take1 e1
  have c2 := take3 e2
  have c3 := take1 e3
  have c5 := take1 e5
  simp only [Rows.uptoBulk, Rows.uptoBulkAll] at hN
  have mk : ∀ (lv : Value) (l : List J), cs[6]? = some lv → cs = jcells (.mk kd bb d tx l ns, lv, nv) := fun lv l c4 => by
   refine List.ext_getElem? (fun i => ?_)
   match i with
   | 0 => exact c0
   | 1 => exact c1
   | 2 => exact c2.1
   | 3 => exact c2.2.1
   | 4 => exact c2.2.2
   | 5 => exact c3
   | 6 => exact c4
   | 7 => exact c5
   | i + 8 => rw [List.getElem?_eq_none (by omega)]; rfl
  rcases Deep.open_slice Tryz.underlying27 h4 with ⟨e4, rfl⟩ | ⟨a, len, cap, m4, k4, D, Pl, e4, _, hlc, hcm, hmm, rfl, hx⟩
  ·have c4 := take1 e4
   refine ⟨(.mk kd bb d tx [] ns, _, nv), mk _ _ c4, .mk _ (fun _ => (.nilIface, .nilIface)) H5 ⟨none, 0, rfl, Nat.le_refl _, Nat.zero_le _, fun h9 => by simp [J.l] at h9⟩ (fun i j hi => by simp [J.l] at hi), ?_⟩
   simp only [szJ, szL, Rows.uptoBulk, Rows.uptoBulkAll, b3]
   omega
  have c4 := take1 e4
  have hlm : len ≤ m4 := by rw [hmm]; split <;> omega
  simp only [Rows.uptoBulk] at hN
  have hDN : ∀ i, i < m4 → Rows.uptoBulk (D i) ≤ N := fun i hi => by
   rcases Nat.lt_or_ge i len with h9 | h9
   ·have := part_le (H := H) (d := D i) (l := (List.range len).map D) (List.mem_map.2 ⟨i, List.mem_range.2 h9, rfl⟩)
    omega
   have := part_le (H := H) (d := D i) (l := (List.range (m4 - len)).map fun j => D (len + j)) (List.mem_map.2 ⟨i - len, List.mem_range.2 (by omega), by rw [show len + (i - len) = i by omega]⟩)
   omega
  have key : ∀ i, i < m4 → ∃ q : JR, (∀ j, j < 8 → W.cell? ((a.add (i * 8)).add j) = (jcells q)[j]?) ∧ JV W (fun _ => True) q ∧ szJ q.1 ≤ Rows.uptoBulk (D i) := by
   intro i hi
   obtain ⟨cs', g1, g2⟩ := hx i hi
   rw [cellsJ] at g1
   obtain ⟨_, g3, g4⟩ := World.cells?_some g1
   obtain ⟨q, q0, q1, q2⟩ := json_cells N _ _ _ g2 (hDN i hi)
   refine ⟨q, fun j hj => ?_, q1, q2⟩
   rw [g4 j hj, ← q0]
  haveI : Inhabited JR := ⟨jzero⟩
  obtain ⟨f, hf⟩ := Deep.choose_lt key
  have hlen : ((List.range len).map (fun i => (f i).1)).length = len := by simp
  have hget : ∀ i j, ((List.range len).map (fun i => (f i).1))[i]? = some j → i < len ∧ j = (f i).1 := fun i j hi => by
   have hj : i < len := by have := (List.getElem?_eq_some_iff.1 hi).1; omega
   rw [List.getElem?_map, List.getElem?_range hj] at hi
   simp only [Option.map_some, Option.some.injEq] at hi
   exact ⟨hj, hi.symm⟩
  refine ⟨(.mk kd bb d tx ((List.range len).map (fun i => (f i).1)) ns, _, nv), mk _ _ c4, .mk _ (fun i => (f i).2) H5 ⟨some a, cap, by simp only [J.l]; rw [hlen], by simp only [J.l]; rw [hlen]; exact hlc, by simp only [J.l]; rw [hlen]; omega, fun h9 => ?_⟩ (fun i j hi => ?_), ?_⟩
  ·simp only [J.l] at h9 ⊢
   rw [hlen] at h9
   have h8 := (hf 0 (by omega)).1 0 (by omega)
   rw [Nat.zero_mul, add_zero, add_zero] at h8
   obtain ⟨hs, hb⟩ := addr_ok (v := .int .i64 (f 0).1.kind) h8
   obtain ⟨b, off, s⟩ := a
   simp only at hs hb
   subst hs
   refine ⟨b, off, rfl, InS.any _ _ _ _, hb, fun i j hi c hc => ?_⟩
   obtain ⟨hil, rfl⟩ := hget i j hi
   have h1 := (hf i (by omega)).1 c hc
   rw [Deep.add_add, addr_off rfl] at h1
   rw [Nat.add_assoc, h1]
  ·simp only [J.l] at hi
   obtain ⟨hil, rfl⟩ := hget i j hi
   exact (hf i (by omega)).2.1
  have e : szL ((List.range len).map (fun i => (f i).1)) ≤ Rows.uptoBulkAll ((List.range len).map D) := by
   rw [bulk_all, szL_sum, List.map_map, List.map_map]
   exact sum_le _ _ _ (fun i hi => (hf i (by have := List.mem_range.1 hi; omega)).2.2)
  simp only [szJ, Rows.uptoBulk, Rows.uptoBulkAll, b3]
  omega
theorem open_json {r : Reach} {b0 : Nat} {v : Value} {x : DataW H} {p : List MemPlace}
  (hv : Value.okWide Tryz.prog W r b0 30 v) (h : DataW.Trod enc Tryz.prog W base sp held 30 v x p) : ∃ q : JR, v = jval q ∧ JV W (fun _ => True) q ∧ szJ q.1 ≤ Rows.uptoBulk x := by
 simp only [Value.okWide, Tryz.underlying30] at hv
 obtain ⟨cs, hcs, _⟩ := hv
 subst hcs
 obtain ⟨fuel, hf⟩ := h
 obtain ⟨q, e0, e1, e2⟩ := json_cells _ _ _ _ hf (Nat.le_refl _)
 refine ⟨q, ?_, e1, e2⟩
 have h2 : cs = (jcells q).toArray := by rw [← e0]; rfl
 rw [h2]; rfl
end
open Go.RowKit
theorem szL_take {l : List J} {i : Nat} {x : J} (h : l[i]? = some x) : szL (l.take (i + 1)) = szL (l.take i) + szJ x := by
 have hs : ∀ (a b : List J), szL (a ++ b) = szL a + szL b := fun a b => by
  induction a with
  | nil => simp [szL]
  | cons y a ih => simp only [List.cons_append, szL, ih]; omega
 rw [List.take_add_one, h]
 have := hs (l.take i) [x]
 simp only [szL, Nat.add_zero] at this
 exact this
theorem szL_le (l : List J) : ∀ i, szL (l.take i) ≤ szL l := by
 induction l with
 | nil => intro i; simp [szL]
 | cons x l ih =>
  intro i
  cases i with
  | zero => simp [szL]
  | succ i => simp only [List.take_succ_cons, szL]; have := ih i; omega
theorem szN_take {l : List (List UInt8)} {i : Nat} {x : List UInt8} (h : l[i]? = some x) : szN (l.take (i + 1)) = szN (l.take i) + (x.length + 1) := by
 rw [List.take_add_one, h]
 simp [szN]
theorem szN_le (l : List (List UInt8)) : ∀ i, szN (l.take i) ≤ szN l := by
 induction l with
 | nil => intro i; simp [szN]
 | cons x l ih =>
  intro i
  cases i with
  | zero => simp [szN]
  | succ i => have := ih i; simp only [szN, List.take_succ_cons, List.map_cons, List.sum_cons] at this ⊢; omega
def SizTo (w : World) (v : J) (e : Ending) (w' : World) : Prop := ∃ n : Nat, e = .returned (.int .i64 (n : Int)) ∧ n ≤ szJ v ∧ Below w.heap.size w w'
theorem size_calls {w0 : World} {S1 : Nat → Prop} {r1 : JR} (h1 : JV w0 S1 r1) : ∀ (w : World) (left : Int), Below w0.heap.size w0 w → 0 ≤ left → left ≤ 20000 → szJ r1.1 ≤ 20000000 →
  Calls Tryz.prog 52 #[jval r1, .int .i64 left] w (SizTo w r1.1) := by
 induction h1 with
 | mk r1 xs hn1 hl1 hs1 ih =>
  intro w left hb hlf0 hlf1 hsz
  obtain ⟨⟨k, b, n, t, l, ns⟩, lv0, nv0⟩ := r1
  obtain ⟨p1, c1, hp1, hc1, hm1, hL1⟩ := hl1
  change lv0 = Value.slice p1 l.length c1 at hp1
  obtain ⟨q1, e1, hq1, hcn1, hk1, hN1⟩ := hn1
  change nv0 = Value.slice q1 ns.length e1 at hq1
  subst hp1 hq1
  simp only [J.l] at hm1 hL1 hc1
  simp only [J.ns] at hN1
  simp only [szJ] at hsz
  have HSZ : Hid (szJ (J.mk k b n t l ns) = 1 + t.length + n.digits.length + szN ns + szL l) := hid rfl
  have hln : l.length ≤ 20000000 := by have := szL_len l; omega
  have hnn : ns.length ≤ 20000000 := by have := szN_len ns; omega
  have htn : t.length ≤ 20000000 := by omega
  have hdn : n.digits.length ≤ 20000000 := by omega
  have HMX : Hid (1 + t.length + n.digits.length + szN ns + szL l ≤ 20000000) := hid hsz
  have HL := hid hL1
  have HN := hid hN1
  have HB := hid hb
  have HIH := hid ih
  clear hL1 hN1 hb ih hs1 hsz hcn1 hk1 hc1 hm1
  go_enter Tryz.func52, Tryz.ntmps52
  go_upto_region 1 with (refine wpList_boxJ rfl _ rfl (J.mk k b n t l ns, .slice p1 l.length c1, .slice q1 ns.length e1) rfl ?_; intro w1 hBx)
  have HV := hid hBx.row
  have HBE := hid hBx.be
  obtain ⟨g, hg⟩ : ∃ g, w.heap.size = g := ⟨_, rfl⟩
  rw [hg] at HV ⊢
  clear hBx hg
  have v5 : _ = some (Value.string ⟨t.toArray⟩) := HV.out.cell 5 _ rfl
  have v3 : _ = some (Value.string ⟨n.digits.toArray⟩) := HV.out.cell 3 _ rfl
  have v7 : _ = some (Value.slice q1 ns.length e1) := HV.out.cell 7 _ rfl
  have v6 : _ = some (Value.slice p1 l.length c1) := HV.out.cell 6 _ rfl
  go_wp2_with fail
  clear v5 v3
  go_loopg [5, 6] ns.length (fun kk s5 s6 wr => ∃ i m : Nat, kk = ns.length - i ∧ i ≤ ns.length ∧ s6 = .int .i64 (i : Int) ∧ s5 = .int .i64 (m : Int) ∧ m = 1 + t.length + n.digits.length + szN (ns.take i) ∧ w1 = wr)
  case atStart => exact ⟨0, 1 + t.length + n.digits.length, rfl, Nat.zero_le _, rfl, by go_num, by simp [szN], rfl⟩
  obtain ⟨i, m, hki, hi, rfl, rfl, hm, rfl⟩ := hrel
  have Hki := hid hki
  have HM := hid hm
  have hmb : m ≤ 20000000 := by have := HMX.out; have := szN_le ns i; omega
  clear hki hm
  by_cases hlt : i < ns.length
  ·have hlti : (i : Int) < (ns.length : Int) := by omega
   obtain ⟨s, hs⟩ : ∃ s, ns[i]? = some s := ⟨_, List.getElem?_eq_getElem hlt⟩
   obtain ⟨gn, fn, rfl, _, hgn, hns⟩ := HN.out (by omega)
   have nx := (HBE.out.cell (p := ⟨gn, fn + i, none⟩) (Nat.lt_of_lt_of_le hgn HB.out.size)).trans ((HB.out.cell (p := ⟨gn, fn + i, none⟩) hgn).trans (hns i s hs))
   have HST := hid (szN_take hs)
   have hsl : s.length ≤ 20000000 := by have := szN_in (List.mem_of_getElem? hs); have := HMX.out; omega
   clear hs hns hgn
   go_wp2_with fail
   go_roundg (ns.length - (i + 1))
   case measure => have := Hki.out; omega
   exact ⟨i + 1, m + 1 + s.length, rfl, by omega, by go_num, by go_num, by rw [HST.out, HM.out]; omega, rfl⟩
  have hlti : ¬ (i : Int) < (ns.length : Int) := by omega
  obtain rfl : i = ns.length := by omega
  have HM2 : Hid (m = 1 + t.length + n.digits.length + szN ns) := hid (by rw [HM.out, List.take_of_length_le (Nat.le_refl _)])
  go_wp2_with fail
  clear v6 v7
  have HM3 : Hid (m + szL l ≤ 20000000) := hid (by have := HMX.out; have := HM2.out; omega)
  go_loopg [5, 7] l.length (fun kk s5 s7 wr => ∃ i m2 : Nat, kk = l.length - i ∧ i ≤ l.length ∧ s7 = .int .i64 (i : Int) ∧ s5 = .int .i64 (m2 : Int) ∧ m2 ≤ m + szL (l.take i) ∧ RowAt wr g (jcells (J.mk k b n t l ns, .slice p1 l.length c1, .slice q1 ns.length e1)) ∧ Below w.heap.size w wr)
  case atStart => exact ⟨0, m, rfl, Nat.zero_le _, rfl, rfl, by omega, HV.out, HBE.out⟩
  obtain ⟨i, m2, hki2, hi2, rfl, rfl, hm2, hV, hB⟩ := hrel
  have Hki2 := hid hki2
  have HM4 := hid hm2
  have HV2 := hid hV
  have HBE2 := hid hB
  have hm2b : m2 ≤ 20000000 := by have := HM3.out; have := szL_le l i; omega
  clear hki2 hm2 hV hB HV HBE
  have v6 : _ = some (Value.slice p1 l.length c1) := HV2.out.cell 6 _ rfl
  by_cases hlt2 : i < l.length
  ·have hlti2 : (i : Int) < (l.length : Int) := by omega
   by_cases hle : (m2 : Int) ≤ left
   ·obtain ⟨x, hx⟩ : ∃ x, l[i]? = some x := ⟨_, List.getElem?_eq_getElem hlt2⟩
    obtain ⟨gl, fl, rfl, _, hgl, hcs⟩ := HL.out (by omega)
    have hra : wr.rangeAt gl (fl + i * 8) (jcells (x, xs i)) := fun c v hc => by
     have hc8 : c < 8 := (List.getElem?_eq_some_iff.1 hc).1
     rw [HBE2.out.cell (p := ⟨gl, fl + i * 8 + c, none⟩) (Nat.lt_of_lt_of_le hgl HB.out.size), HB.out.cell (p := ⟨gl, fl + i * 8 + c, none⟩) hgl, hcs i x hx c hc8]; exact hc
    have HX := hid hx
    have HXL := hid (szL_take hx)
    have HXI := hid (szL_in hx)
    have HXT := hid (szL_le l (i + 1))
    clear hx hcs hgl
    go_wp2_with (refine wpList_loadMd rfl _ rfl (x, xs i) hra rfl ?_)
    refine (HIH.out i x HX.out wr (left - m2) (HB.out.trans (HBE2.out.mono HB.out.size)) (by omega) (by omega) (by have := HXI.out; have := HM3.out; show szJ x ≤ _; omega)).mono ?_
    rintro e w4 ⟨n4, rfl, hn4, hb4⟩
    have HN4 : Hid (n4 ≤ szJ x) := hid hn4
    have hn4b : n4 ≤ 20000000 := by have := HN4.out; have := HXI.out; have := HM3.out; omega
    have HV4 := hid (HV2.out.below hb4)
    have HBE4 := hid (HBE2.out.trans (hb4.mono HBE2.out.size))
    clear hn4 hb4 hra v6
    go_wp2_with fail
    go_roundg (l.length - (i + 1))
    case measure => have := Hki2.out; omega
    exact ⟨i + 1, m2 + n4, rfl, by omega, by go_num, by go_num, by have := HM4.out; have := HN4.out; rw [HXL.out]; omega, HV4.out, HBE4.out⟩
   go_wp2_with fail
   go_ret
   exact ⟨m2, rfl, by rw [HSZ.out]; have := HM4.out; have := HM2.out; have := szL_le l i; omega, HBE2.out⟩
  have hlti2 : ¬ (i : Int) < (l.length : Int) := by omega
  go_wp2_with fail
  go_ret
  exact ⟨m2, rfl, by rw [HSZ.out]; have := HM4.out; have := HM2.out; have := szL_le l i; omega, HBE2.out⟩
theorem wpList_buildJ {w : World} {ops : Array Oper} {rest : List Oper} {o : Oper} {a : Act} {Q : Exit → Act → World → Prop} (hgd : o.guard = none) (x : Operand) (ho : o.op = .buildSlice 27 1 #[(0, x)]) (r : JR) (hx : a.eval x = jval r)
  (hK : ∀ w', Bx w w' r → wpList Tryz.prog ops Q rest (a.put o.dst (.slice (some ⟨w.heap.size, 0, none⟩) 1 1)) w') : wpList Tryz.prog ops Q (o :: rest) a w :=
 wpList_plain hgd fun _ hK' => oper_buildJ x ho r hx (fun w' hb => hK' _ _ (hK w' hb))
def RowsJ (w : World) (g : Nat) (rs : List JR) : Prop := g < w.heap.size ∧ ∀ (i : Nat) r, rs[i]? = some r → w.rangeAt g (i * 8) (jcells r)
theorem RowsJ.one {w w' : World} {r : JR} (h : Bx w w' r) : RowsJ w' w.heap.size [r] := by
 refine ⟨by rw [h.size]; omega, fun i q hq => ?_⟩
 cases i with
 | zero =>
  simp only [List.getElem?_cons_zero, Option.some.injEq] at hq
  subst hq
  intro c v hc
  rw [Nat.zero_mul, Nat.zero_add]
  exact h.row.cell c v hc
 | succ i => simp at hq
def SmaTo (w : World) (e : Ending) (w' : World) : Prop := ∃ b : Bool, e = .returned (.bool b) ∧ Below w.heap.size w w'
theorem small_calls (w : World) (g : Nat) (rs : List JR) (hr : RowsJ w g rs) (hj : ∀ r ∈ rs, ∃ S, JV w S r) (hsz : ∀ r ∈ rs, szJ r.1 ≤ 20000000) (hl : rs.length ≤ 1000) :
  Calls Tryz.prog 17 #[.slice (some ⟨g, 0, none⟩) rs.length rs.length] w (SmaTo w) := by
 have HR := hid hr
 have HJ := hid hj
 have HSZ := hid hsz
 have HB0 : Hid (Below w.heap.size w w) := hid (Below.refl _ _)
 clear hr hj hsz
 go_enter Tryz.func17, Tryz.ntmps17
 go_wp2_with fail
 go_loopg [3] rs.length (fun kk s3 wr => ∃ i : Nat, kk = rs.length - i ∧ i ≤ rs.length ∧ s3 = .int .i64 (i : Int) ∧ Below w.heap.size w wr)
 case atStart => exact ⟨0, rfl, Nat.zero_le _, rfl, HB0.out⟩
 case round =>
  obtain ⟨i, hki, hi, rfl, hb⟩ := hrel
  have Hki := hid hki
  have HB := hid hb
  clear hki hb HB0
  by_cases hlt : i < rs.length
  ·have hlti : (i : Int) < (rs.length : Int) := by omega
   obtain ⟨r, hr⟩ : ∃ r, rs[i]? = some r := ⟨_, List.getElem?_eq_getElem hlt⟩
   have hra : wr.rangeAt g (i * 8) (jcells r) := fun c v hc => by
    rw [HB.out.cell (p := ⟨g, i * 8 + c, none⟩) HR.out.1]
    exact HR.out.2 i r hr c v hc
   have HM := hid (List.mem_of_getElem? hr)
   clear hr
   obtain ⟨S, hS⟩ := HJ.out r HM.out
   have HS := hid hS
   clear hS
   go_wp2_with (refine wpList_loadMd rfl _ rfl r hra rfl ?_)
   refine (size_calls HS.out wr 20000 HB.out (by omega) (by omega) (HSZ.out r HM.out)).mono ?_
   rintro e w4 ⟨n4, rfl, hn4, hb4⟩
   have HB4 := hid (HB.out.trans (hb4.mono HB.out.size))
   clear hn4 hb4 hra
   by_cases hgt : (20000 : Int) < (n4 : Int)
   ·go_wp2_with fail
    go_ret
    exact ⟨false, rfl, HB4.out⟩
   go_wp2_with fail
   go_roundg (rs.length - (i + 1))
   case measure => have := Hki.out; omega
   exact ⟨i + 1, rfl, by omega, by go_num, HB4.out⟩
  have hlti : ¬ (i : Int) < (rs.length : Int) := by omega
  go_wp2_with fail
  go_ret
  exact ⟨true, rfl, HB.out⟩
open Go.RowKit
def Turns {β : Type} (B : Nat) (I : β → World → Prop) : Prop := ∀ s W k o o', I s W → B ≤ k → W.heap[k]? = some o → o.isCells = false → I s (W.putObj k o')
def Grows {β : Type} (I : β → World → Prop) : Prop := ∀ s W W', I s W → Below W.heap.size W W' → I s W'
theorem putObj_apart (W : World) (l : Nat) (o : Obj) : Apart (fun k => k = l) W (W.putObj l o) :=
 ⟨rfl, rfl, rfl, by simp [World.putObj], fun k _ hn => World.putObj_heap_other hn⟩
theorem putObj_below {W : World} {l n0 : Nat} (o : Obj) (h : n0 ≤ l) (hl : n0 ≤ W.heap.size) : Below n0 W (W.putObj l o) :=
 (putObj_apart W l o).below hl (fun i hi e => by omega)
end Go.Proofs.YtfclfaidmipjpaaGreatDoor
