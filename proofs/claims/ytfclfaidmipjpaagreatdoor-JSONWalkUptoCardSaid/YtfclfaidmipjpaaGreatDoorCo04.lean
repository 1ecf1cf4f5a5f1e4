/- Texts of this claim, joined: CopL, Bld. -/
import Derived.Great.BuildSlice
import Derived.Test.YtfclfaidmipjpaaGreatDoorCo03
namespace Go.Proofs.YtfclfaidmipjpaaGreatDoor
set_option maxRecDepth 100000
set_option maxHeartbeats 20000000
open Go.Lib (hid)
open Go.RowKit
theorem wpList_loadMd {w : World} {ops : Array Oper} {rest : List Oper} {o : Oper} {a : Act} {Q : Exit → Act → World → Prop} (hgd : o.guard = none) (x : Operand) (ho : o.op = .load 30 x)
  {g off : Nat} (r : JR) (hc : w.rangeAt g off (jcells r)) (hx : a.eval x = .pointer (some ⟨g, off, none⟩))
  (hK : wpList Tryz.prog ops Q rest (a.put o.dst (jval r)) w) : wpList Tryz.prog ops Q (o :: rest) a w := by
 refine wpList_plain hgd fun K hK' => ?_
 have hrun := exec_load8 (a := a) x ho hx r hc
 unfold Oper.wp
 rw [hrun]
 simp only [Oper.upon]
 exact hK' _ _ hK
theorem oper_storeJ {w : World} {o : Oper} {a : Act} {Q : Exit → Act → World → Prop} {K : Act → World → Prop} (x y : Operand) (ho : o.op = .store 30 x y) (hd : o.dst = none)
  {g : Nat} {l : List Value} (hr : RowAt w g l) (hl : l.length = 8) (r : JR) (hs : SlJ r) (hx : a.eval x = .pointer (some ⟨g, 0, none⟩)) (hy : a.eval y = jval r)
  (hK : ∀ w', Sx w w' g r → K a w') : Oper.wp Tryz.prog o a w K Q := by
 have hrun := run_store8 hr hl (.int .i64 r.1.kind) (.bool r.1.b) (.bool r.1.n.neg) (.string ⟨r.1.n.digits.toArray⟩) (.int .i64 r.1.n.exp) (.string ⟨r.1.t.toArray⟩) r.2.1 r.2.2 (by unfold ones8; rw [hs.1, hs.2]; rfl)
 unfold Oper.wp
 have hsa : (Instr.sureAddr (.pointer (some ⟨g, 0, none⟩))).run Tryz.prog w = .ok ⟨g, 0, none⟩ w := rfl
 have hy2 : a.eval y = .agg #[.int .i64 r.1.kind, .bool r.1.b, .bool r.1.n.neg, .string ⟨r.1.n.digits.toArray⟩, .int .i64 r.1.n.exp, .string ⟨r.1.t.toArray⟩, r.2.1, r.2.2] := hy
 simp [execOp, ho, hx, hy2, Instr.storeAt, hsa, hrun, Oper.upon, Act.put, hd]
 exact hK _ (Sx.of hr hl r)
theorem exec_loadJ {w : World} {a : Act} {o : Oper} (x : Operand) (ho : o.op = .load 30 x) {g : Nat} (hx : a.eval x = .pointer (some ⟨g, 0, none⟩)) (r : JR) (hr : RowAt w g (jcells r)) : (execOp a.eval o).run Tryz.prog w = .ok (.value (jval r)) w :=
 exec_load8 x ho hx r (fun c v hc => by rw [Nat.zero_add]; exact hr.cell c v hc)
theorem oper_buildJ {w : World} {o : Oper} {a : Act} {Q : Exit → Act → World → Prop} {K : Act → World → Prop} (x : Operand) (ho : o.op = .buildSlice 27 1 #[(0, x)]) (r : JR) (hx : a.eval x = jval r)
  (hK : ∀ w', Bx w w' r → K (a.put o.dst (.slice (some ⟨w.heap.size, 0, none⟩) 1 1)) w') : Oper.wp Tryz.prog o a w K Q := by
 obtain ⟨i0, hi, hz0, hz1, hz2⟩ := info_parts Tryz.info30
 refine wp_buildSlice _ 30 1 _ ho (jcells r).toArray i0 _ Tryz.underlying27 hi hz0 (by rw [hz1]; decide) (by rw [hz1]; decide) ?_ (hK _ (Bx.of w r))
 rw [hz1]
 simp only [List.map_toArray, List.map_cons, List.map_nil, hx]
 have h8 : Array.range (1 * 8) = #[0, 1, 2, 3, 4, 5, 6, 7] := by decide
 rw [h8]
 simp [Instr.fill, jval, jcells, Value.cells]
theorem JV.as {w : World} {S : Nat → Prop} {k k2 : Int} {b b2 : Bool} {n n2 : Dec} {t t2 : List UInt8} {l : List J} {ns : List (List UInt8)} {lv nv : Value} (h : JV w S (.mk k b n t l ns, lv, nv)) : JV w S (.mk k2 b2 n2 t2 l ns, lv, nv) := by
 cases h with
 | mk _ xs hn hl hs => exact .mk _ xs hn hl hs
def headC (v : J) (lv nv : Value) : List Value := [.int .i64 v.kind, .bool v.b, .bool v.n.neg, .string ⟨v.n.digits.toArray⟩, .int .i64 v.n.exp, .string ⟨v.t.toArray⟩, lv, nv]
def SepC (g x : Nat) (nv : Value) (k : Nat) : Prop := (g + 3 ≤ k ∧ nv.ownBlock ≠ some k) ∧ k ≠ x
structure CopI (w wr : World) (g x : Nat) (r1 : JR) (lv nv : Value) (rs : List JR) (ms : List (List UInt8)) : Prop where
 be : Below w.heap.size w wr
 v : RowAt wr g (jcells r1)
 res : RowAt wr (g + 1) (jcells jzero)
 out : RowAt wr (g + 2) (headC r1.1 lv nv)
 js : JsV wr (g + 3) (SepC g x nv) lv rs
 nm : NamV wr (g + 3) nv ms
 lo : w.heap.size = g
theorem CopI.below {w wr w' : World} {g x : Nat} {r1 : JR} {lv nv : Value} {rs : List JR} {ms : List (List UInt8)} (h : CopI w wr g x r1 lv nv rs ms) (hb : Below wr.heap.size wr w') : CopI w w' g x r1 lv nv rs ms :=
 ⟨h.be.trans (hb.mono h.be.size), h.v.below hb, h.res.below hb, h.out.below hb, h.js.below hb, h.nm.below hb, h.lo⟩
theorem CopI.re {w wr : World} {g x x' : Nat} {r1 : JR} {lv nv : Value} {rs : List JR} {ms : List (List UInt8)} (h : CopI w wr g x r1 lv nv rs ms) (hx : wr.heap.size ≤ x') : CopI w wr g x' r1 lv nv rs ms :=
 ⟨h.be, h.v, h.res, h.out, h.js.mono (fun k hk hs => ⟨hs.1, by omega⟩), h.nm, h.lo⟩
theorem CopI.set {w wr w' : World} {g x : Nat} {r1 : JR} {lv nv : Value} {rs : List JR} {ms : List (List UInt8)} (h : CopI w wr g x r1 lv nv rs ms) (ha : Apart (fun k => k = x) wr w') (hx : g + 3 ≤ x) (h1 : lv.ownBlock ≠ some x) (h2 : nv.ownBlock ≠ some x) : CopI w w' g x r1 lv nv rs ms :=
 ⟨h.be.trans (ha.below h.be.size (fun i hi e => by have := h.lo; omega)), h.v.apart ha (by omega), h.res.apart ha (by omega), h.out.apart ha (by omega),
  h.js.apart ha (fun k hk e => h1 (by rw [← e]; exact hk)) (fun k hk _ e => hk.2 e), ownsRow_apart h.nm ha (fun k hk e => h2 (by rw [← e]; exact hk)), h.lo⟩
theorem CopI.fresh {w wr : World} {g x B1 : Nat} {r1 r : JR} {lv nv : Value} {rs : List JR} {ms : List (List UInt8)} (_h : CopI w wr g x r1 lv nv rs ms) (hj : JV wr (fun k => B1 ≤ k) r) (hx : x < B1) (h1 : ∀ k, lv.ownBlock = some k → k < B1) (h2 : ∀ k, nv.ownBlock = some k → k < B1) (hg : g + 3 ≤ B1) :
  JV wr (fun k => SepC g x nv k ∧ lv.ownBlock ≠ some k) r :=
 hj.mono (fun k _ hk => ⟨⟨⟨Nat.le_trans hg hk, fun e => by have := h2 k e; omega⟩, by omega⟩, fun e => by have := h1 k e; omega⟩)
theorem CopI.sorted {w wr w' : World} {g x : Nat} {r1 : JR} {nv : Value} {ms ms' : List (List UInt8)} (h : CopI w wr g x r1 (.slice none 0 0) nv [] ms) (hn : NamV w' (g + 3) nv ms') (hgr : wr.grownBy w' nv.ownBlock) : CopI w w' g x r1 (.slice none 0 0) nv [] ms' := by
 have ha : Apart (fun k => nv.ownBlock = some k) wr w' := Apart.ofGrown hgr (fun k hk => hk)
 have hlt : ∀ k, nv.ownBlock = some k → g + 3 ≤ k := fun k hk => (World.ownsRow.lt h.nm k hk).1
 have hlo := h.lo
 exact ⟨h.be.trans (ha.below h.be.size (fun i hi e => by have := hlt i e; omega)), h.v.apart ha (fun e => by have := hlt _ e; omega), h.res.apart ha (fun e => by have := hlt _ e; omega), h.out.apart ha (fun e => by have := hlt _ e; omega), JsV.nil _ _ _, hn, hlo⟩
theorem CopI.push {w wr w3 : World} {g x : Nat} {r1 r : JR} {lv nv v' : Value} {rs : List JR} {ms : List (List UInt8)} (h : CopI w wr g x r1 lv nv rs ms) (hj : JsV w3 (g + 3) (SepC g x nv) v' (rs ++ [r])) (hgr : wr.grownBy w3 lv.ownBlock) :
  CopI w (w3.setCell ⟨g + 2, 6, none⟩ v') g x r1 v' nv (rs ++ [r]) ms := by
 have ha : Apart (fun k => lv.ownBlock = some k) wr w3 := Apart.ofGrown hgr (fun k hk => hk)
 have hs : Apart (fun k => k = g + 2) w3 (w3.setCell ⟨g + 2, 6, none⟩ v') := Apart.set (S := fun k => k = g + 2) w3 rfl _
 have hlt : ∀ k, lv.ownBlock = some k → g + 3 ≤ k := fun k hk => (h.js.lt hk).1
 have hn : NamV w3 (g + 3) nv ms := ownsRow_apart h.nm ha (fun k hk e => ownsRow_ne h.nm h.js.row (by decide) k hk e)
 have hlo := h.lo
 have hsz := ha.size
 refine ⟨(h.be.trans (ha.below h.be.size (fun i hi e => by have := hlt i e; omega))).trans (hs.below (Nat.le_trans h.be.size hsz) (fun i hi e => by omega)), ?_, ?_, ?_, hj.apart hs (fun k hk e => by have := hj.lt hk; omega) (fun k hk _ e => by have := hk.1.1; omega), hn.apart hs (fun k hk _ e => by omega), hlo⟩
 ·exact (h.v.apart ha (fun e => by have := hlt _ e; omega)).far (p := ⟨g + 2, 6, none⟩) (by show g + 2 ≠ g; omega) _
 ·exact (h.res.apart ha (fun e => by have := hlt _ e; omega)).far (p := ⟨g + 2, 6, none⟩) (by show g + 2 ≠ g + 1; omega) _
 ·exact (h.out.apart ha (fun e => by have := hlt _ e; omega)).set 6 _ (by simp [headC])
theorem CopI.done {w wr : World} {g x : Nat} {r1 : JR} {lv nv : Value} {rs : List JR} {ms : List (List UInt8)} (h : CopI w wr g x r1 lv nv rs ms) : JV wr (fun k => g + 3 ≤ k) (.mk r1.1.kind r1.1.b r1.1.n r1.1.t (rs.map (·.1)) ms, lv, nv) :=
 (JV.ofRows 0 (fun _ hk => hk.1.1) h.js h.nm).as
open Go.RowKit
abbrev Bld (B b : Nat) (l : List UInt8) (w : World) : Prop := Lib.IsBuilderF 159 5 B b (u8s l) w
theorem bldAt_apart {S : Nat → Prop} {T e : TypeId} {B b : Nat} {p : Value} {bs : List Value} {w w' : World} (h : Lib.BuilderAtF T e B b p bs w) (ha : Apart S w w') (hS : ∀ k, B ≤ k → k < w.heap.size → ¬ S k) : Lib.BuilderAtF T e B b p bs w' := by
 obtain ⟨hB, v, h1, h2, h3⟩ := h
 have hlt := (Array.getElem?_eq_some_iff.1 h1).1
 refine ⟨hB, v, (ha.block _ hlt (hS _ hB hlt)).trans h1, ⟨h2.1, ?_⟩, h3⟩
 rcases h2.2 with h9 | ⟨g, cap, cur, fz, rfl, h4, h5, h6⟩
 ·exact .inl h9
 have hg := (Array.getElem?_eq_some_iff.1 h5).1
 exact .inr ⟨g, cap, cur, fz, rfl, h4, (ha.block _ hg (hS _ h4 hg)).trans h5, h6⟩
theorem Bld.apart {S : Nat → Prop} {B b : Nat} {l : List UInt8} {w w' : World} (h : Bld B b l w) (ha : Apart S w w') (hS : ∀ k, B ≤ k → k < w.heap.size → ¬ S k) : Bld B b l w' :=
 h.elim (fun h => .inl (bldAt_apart h ha hS)) (fun h => .inr (bldAt_apart h ha hS))
theorem Bld.new (w : World) : Bld w.heap.size w.heap.size [] (w.alloc (.cells #[.pointer none, .slice none 0 0] 159)) :=
 .inl ⟨Nat.le_refl _, .slice none 0 0, by show (w.heap.push _)[w.heap.size]? = _; simp, ⟨rfl, .inl ⟨rfl, rfl⟩⟩, by simp [Value.ownBlock]⟩
theorem Tryz.sizeBuilder : (Tryz.prog.info? 159).map (·.size) = some 2 := by kernel_rfl
theorem Tryz.liesBuilder : liesAt Tryz.prog Tryz.prog.depth 159 (2 / Tryz.prog.cellsOf 159) 0 159 1 = true := by kernel_rfl
theorem Tryz.infoByte : (Tryz.prog.info? 5).map (fun i => (i.zero, i.size, i.bytes)) = some (some (.int .u8 0), 1, 1) := by kernel_rfl
theorem copyUsed_calls (b : Nat) (w : World) (h0 : w.cell? ⟨b, 0, none⟩ = some (.pointer (some ⟨b, 0, none⟩))) :
  Calls Tryz.prog 153 #[.pointer (some ⟨b, 0, none⟩)] w fun e w' => e = .returned (.tuple #[]) ∧ w' = w := by
 obtain ⟨j, hj, _⟩ := Option.map_eq_some_iff.1 Tryz.sizeBuilder
 have hne : ∀ w : World, (binOp .neq 157 (.pointer (some ⟨b, 0, none⟩)) (.pointer (some ⟨b, 0, none⟩))).run Tryz.prog w = .ok (.bool false) w := fun w => Lib.run_neq_ptr_same w _ Tryz.underlying157 hj
 go_enter Tryz.func153, Tryz.ntmps153
 go_wp2
 try rw [hne]
 try go_wp2
 go_end0
 exact ⟨rfl, rfl⟩
theorem copyFresh_calls (b : Nat) (w : World) (h0 : w.cell? ⟨b, 0, none⟩ = some (.pointer none)) (hsh : w.shape? b = some (159, 2)) (hfz : w.frozen? ⟨b, 0, none⟩ = false) :
  Calls Tryz.prog 153 #[.pointer (some ⟨b, 0, none⟩)] w fun e w' => e = .returned (.tuple #[]) ∧ w' = w.setCell ⟨b, 0, none⟩ (.pointer (some ⟨b, 0, none⟩)) := by
 obtain ⟨j, hj, hjs⟩ := Option.map_eq_some_iff.1 Tryz.sizeBuilder
 go_enter Tryz.func153, Tryz.ntmps153
 go_wp2
 rw [Lib.run_to_unsafe w ⟨b, 0, none⟩ Tryz.underlying157 Tryz.underlying228 hj (by rw [hjs]; decide) hsh (Nat.zero_lt_succ 1)]
 simp only [Result.andThen]
 rw [Oper.upon_value]
 go_wp2
 rw [run_callFunc_extern Tryz.func195 (by kernel_rfl) (by kernel_rfl) (by kernel_rfl) (e := Extern.AbiNoEscape.same) (by kernel_rfl)]
 rw [Lib.run_noEscape]
 simp only [Result.andThen]
 rw [Oper.upon_value]
 go_wp2
 rw [Lib.run_from_unsafe w ⟨b, 0, none⟩ Tryz.underlying228 Tryz.underlying157 hj hsh Tryz.liesBuilder]
 simp only [Result.andThen]
 rw [Oper.upon_value]
 go_wp2
 go_end0
 exact ⟨rfl, rfl⟩
theorem copyB_calls (B b : Nat) (bs : List Value) (w : World) (h : Lib.IsBuilderF 159 5 B b bs w) :
  Calls Tryz.prog 153 #[.pointer (some ⟨b, 0, none⟩)] w fun e w' => e = .returned (.tuple #[]) ∧ Lib.BuilderAtF 159 5 B b (.pointer (some ⟨b, 0, none⟩)) bs w' ∧ Below B w w' := by
 rcases h with h | h
 ·refine (copyFresh_calls b w h.cell0 h.shape h.frozen0).mono ?_
  rintro e w' ⟨rfl, rfl⟩
  exact ⟨rfl, h.used _, (Below.refl B w).setCell (p := ⟨b, 0, none⟩) h.1 _⟩
 ·refine (copyUsed_calls b w h.cell0).mono ?_
  rintro e w' ⟨rfl, rfl⟩
  exact ⟨rfl, h, Below.refl B _⟩
theorem wrStr_calls (B b : Nat) (l m : List UInt8) (w : World) (h : Bld B b l w) (hlen : l.length + m.length ≤ 100000000000) (hBw : B ≤ w.heap.size) :
  Calls Tryz.prog 116 #[.pointer (some ⟨b, 0, none⟩), .string ⟨m.toArray⟩] w fun e w' => e = .returned (.tuple #[.int .i64 m.length, .nilIface]) ∧ Bld B b (l ++ m) w' ∧ Below B w w' := by
 obtain ⟨i0, hi, hz0, hz1, hz2⟩ := info_parts Tryz.infoByte
 have hms : (⟨m.toArray⟩ : ByteArray).size = m.length := by simp [ByteArray.size]
 go_enter Tryz.func116, Tryz.ntmps116
 go_wp2_with fail
 refine (copyB_calls B b _ _ h).mono ?_
 rintro e w1 ⟨rfl, h1, hb1⟩
 obtain ⟨hB, v, hbk, hown, hne⟩ := h1
 have c0 : w1.cell? ⟨b, 0, none⟩ = some (.pointer (some ⟨b, 0, none⟩)) := by rw [Lib.cell_of_heap hbk]; rfl
 have c1 : w1.cell? ⟨b, 1, none⟩ = some v := by rw [Lib.cell_of_heap hbk]; rfl
 go_wp2_with (at_builtin; refine Lib.wpList_append_own_stringF _ rfl _ _ 22 9 rfl B 5 i0 Tryz.underlying22 Tryz.underlying9 hi hz0 hz1 hz2 _ _ _ rfl hown ⟨m.toArray⟩ rfl ?c3 ?c4 ?c5 ?_)
 case c3 => rw [hms, u8s_len]; unfold maxLen; omega
 case c4 => rw [hms, u8s_len]; omega
 case c5 => have := hb1.size; omega
 intro v' w2 hown' hgrow _
 have hlt : b < w1.heap.size := (Array.getElem?_eq_some_iff.1 hbk).1
 have hb2 : w2.heap[b]? = some (.cells #[.pointer (some ⟨b, 0, none⟩), v] 159 (0, 0)) := by
  rw [hgrow.block b hlt (fun e => hne e.symm)]
  exact hbk
 have d0 : w2.cell? ⟨b, 0, none⟩ = some (.pointer (some ⟨b, 0, none⟩)) := by rw [Lib.cell_of_heap hb2]; rfl
 have d1 : w2.cell? ⟨b, 1, none⟩ = some v := by rw [Lib.cell_of_heap hb2]; rfl
 have f1 : w2.frozen? ⟨b, 1, none⟩ = false := Lib.frozen_of_heap hb2 1
 obtain ⟨ao, n', cap, rfl⟩ : ∃ ao n' cap, v' = .slice ao n' cap := by
  rcases hown'.2 with ⟨hv, _⟩ | ⟨g, cap, cur, fz, hv, _⟩
  ·exact ⟨_, _, _, hv⟩
  exact ⟨_, _, _, hv⟩
 go_wp2_with fail
 go_ret2
 refine ⟨by simp, ?_, ?_⟩
 ·have h9 := Lib.BuilderAtF.put (T := 159) (e := 5) hB hb2 (bs' := u8s l ++ Lib.strCells ⟨m.toArray⟩) (by rw [show (u8s l ++ Lib.strCells ⟨m.toArray⟩).length = (u8s l).length + m.length from by simp [Lib.strCells_length, ByteArray.size]]; exact hown') (by decide)
  unfold Bld
  rw [u8s_app]
  exact .inr h9
 ·exact (hb1.grown hgrow (by have := hb1.size; omega) (fun k hk => (hown.lt k hk).1)).setCell (p := ⟨b, 1, none⟩) hB _
theorem rune_cells (x : Nat) (hx : x ≤ 1114111) (hs : ¬ (55296 ≤ x ∧ x < 57344)) : Lib.runeCells (x : Int) = u8s (letS x) := by
 have hc : ∀ y : Nat, y < 256 → Value.int .u8 ((UInt8.ofNat y).toNat : Int) = Value.int .u8 (y : Int) := fun y hy => by
  rw [show (UInt8.ofNat y).toNat = y from by simp; omega]
 unfold Lib.runeCells letS
 by_cases h1 : x < 128
 ·rw [if_pos h1, Lib.encodeRuneZ_one (by omega) (by omega)]
  simp only [u8s, List.map_cons, List.map_nil]
  rw [hc x (by omega)]
 rw [if_neg h1]
 by_cases h2 : x < 2048
 ·rw [if_pos h2, Lib.encodeRuneZ_two (by omega) (by omega)]
  simp only [u8s, List.map_cons, List.map_nil]
  rw [hc _ (by omega), hc _ (by omega)]
  congr 3 <;> omega
 rw [if_neg h2]
 by_cases h3 : x < 65536
 ·rw [if_pos h3, Lib.encodeRuneZ_three (by omega)]
  simp only [u8s, List.map_cons, List.map_nil]
  rw [hc _ (by omega), hc _ (by omega), hc _ (by omega)]
  simp only [Int.natCast_add, Int.natCast_ediv, Int.natCast_emod]
  rfl
 rw [if_neg h3, Lib.encodeRuneZ_four (by omega) (by omega)]
 simp only [u8s, List.map_cons, List.map_nil]
 rw [hc _ (by omega), hc _ (by omega), hc _ (by omega), hc _ (by omega)]
 simp only [Int.natCast_add, Int.natCast_ediv, Int.natCast_emod]
 rfl
theorem wrRune_calls (B b : Nat) (l : List UInt8) (x : Nat) (hx : x ≤ 1114111) (hs : ¬ (55296 ≤ x ∧ x < 57344)) (w : World) (h : Bld B b l w) (hlen : l.length ≤ 100000000000) (hBw : B ≤ w.heap.size) :
  Calls Tryz.prog 118 #[.pointer (some ⟨b, 0, none⟩), .int .i32 (x : Int)] w fun e w' => (∃ v, e = .returned v) ∧ Bld B b (l ++ letS x) w' ∧ Below B w w' := by
 have hk4 := Lib.runeCells_le (x : Int)
 have HRC := hid (rune_cells x hx hs)
 have hll : (u8s l).length = l.length := u8s_len l
 go_enter Tryz.func118, Tryz.ntmps118
 go_wp2_with fail
 refine (copyB_calls B b _ _ h).mono ?_
 rintro e w1 ⟨rfl, h1, hb1⟩
 obtain ⟨hB, v, hbk, hown, hne⟩ := h1
 obtain ⟨ao, cap, rfl⟩ : ∃ ao cap, v = .slice ao (u8s l).length cap := by
  rcases hown.2 with ⟨hv, h0⟩ | ⟨g, cap, cur, fz, hv, _⟩
  ·exact ⟨none, 0, by rw [hv, h0]⟩
  exact ⟨_, _, hv⟩
 have c0 : w1.cell? ⟨b, 0, none⟩ = some (.pointer (some ⟨b, 0, none⟩)) := by rw [Lib.cell_of_heap hbk]; rfl
 have c1 : w1.cell? ⟨b, 1, none⟩ = some (.slice ao (u8s l).length cap) := by rw [Lib.cell_of_heap hbk]; rfl
 rw [hll] at c1 hown hbk hne
 clear hll
 go_wp2_with fail
 refine (Tryz.utf8_AppendRune_row B _ l.length (u8s l) (x : Int) (by omega) (by omega) _ hown (by omega) (by have := hb1.size; omega)).mono ?_
 rintro e w2 ⟨v', rfl, hown', o, hgrow⟩
 have hlt : b < w1.heap.size := (Array.getElem?_eq_some_iff.1 hbk).1
 have hb2 : w2.heap[b]? = some (.cells #[.pointer (some ⟨b, 0, none⟩), .slice ao l.length cap] 159 (0, 0)) := by
  rw [hgrow.block b (by simp; omega) (fun e => hne e.symm), Lib.alloc_old w1 _ b hlt]
  exact hbk
 have d0 : w2.cell? ⟨b, 0, none⟩ = some (.pointer (some ⟨b, 0, none⟩)) := by rw [Lib.cell_of_heap hb2]; rfl
 have d1 : w2.cell? ⟨b, 1, none⟩ = some (.slice ao l.length cap) := by rw [Lib.cell_of_heap hb2]; rfl
 have f1 : w2.frozen? ⟨b, 1, none⟩ = false := Lib.frozen_of_heap hb2 1
 obtain ⟨g, cap', rfl⟩ : ∃ g cap', v' = .slice (some ⟨g, 0, none⟩) (l.length + (Lib.runeCells (x : Int)).length) cap' := by
  rcases hown'.2 with ⟨_, h0⟩ | ⟨g, cap', cur, fz, hv, _⟩
  ·omega
  exact ⟨g, cap', hv⟩
 go_wp2_with fail
 go_ret2
 refine ⟨⟨_, rfl⟩, ?_, ?_⟩
 ·have h9 := Lib.BuilderAtF.put (T := 159) (e := 5) hB hb2 (bs' := u8s l ++ Lib.runeCells (x : Int)) (by simpa [u8s_len] using hown') (by decide)
  rw [show u8s l ++ Lib.runeCells (x : Int) = u8s (l ++ letS x) from by rw [HRC.out, ← u8s_app]] at h9
  exact .inr h9
 ·exact ((hb1.alloc (by have := hb1.size; omega) _).grown hgrow (by have := hb1.size; simp; omega) (fun k hk => (hown.lt k hk).1)).setCell (p := ⟨b, 1, none⟩) hB _
end Go.Proofs.YtfclfaidmipjpaaGreatDoor
