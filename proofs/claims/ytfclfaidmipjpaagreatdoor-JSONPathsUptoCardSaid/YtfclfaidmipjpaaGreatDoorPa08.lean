/- Texts of this claim, joined: Kcp. -/
import Derived.Test.YtfclfaidmipjpaaGreatDoorPa02
import Derived.Test.YtfclfaidmipjpaaGreatDoorPa07
namespace Go.Proofs.YtfclfaidmipjpaaGreatDoor
set_option maxRecDepth 100000
set_option maxHeartbeats 20000000
open Go.Lib (hid)
open Go.RowKit
theorem wpList_append_json {w : World} {ops : Array Oper} {rest : List Oper} {o : Oper} {a : Act} {Q : Exit → Act → World → Prop} (hgd : o.guard = none) (s x : Operand)
  (ho : o.op = .call { callee := .builtin .append, args := #[s, x], argTypes := #[27, 27] })
  (B : Nat) (S : Nat → Prop) (v : Value) (rs : List JR) (hs : a.eval s = v) (hv : JsV w B S v rs) (r : JR) (hr : JV w (fun k => S k ∧ v.ownBlock ≠ some k) r) (g cap : Nat) (hx : a.eval x = .slice (some ⟨g, 0, none⟩) 1 cap) (hc : ∀ i, i < 8 → w.cell? ⟨g, i, none⟩ = (jcells r)[i]?) (hlen : rs.length ≤ 100000001) (hB : B ≤ w.heap.size)
  (hK : ∀ v' w', JsV w' B S v' (rs ++ [r]) → w.grownBy w' v.ownBlock → (∀ k, v'.ownBlock = some k → v.ownBlock = some k ∨ w.heap.size ≤ k) → wpList Tryz.prog ops Q rest (a.put o.dst v') w') : wpList Tryz.prog ops Q (o :: rest) a w :=
 wpList_plain hgd fun _ hK' => oper_append_json s x ho B S v rs hs hv r hr g cap hx hc hlen hB (fun v' w' h1 h2 h3 => hK' _ _ (hK v' w' h1 h2 h3))
theorem run_append_no_names (w : World) (ty : TypeId) {B : Nat} {v : Value} {ns : List (List UInt8)} (hv : NamV w B v ns) (p : Option Addr) (c : Nat) : (Builtin.append_ #[28, 28] ty #[v, .slice p 0 c]).run Tryz.prog w = .ok v w := by
 obtain ⟨i0, hi, hz0, hz1, hz2⟩ := info_parts Tryz.info9
 rcases hv.2 with ⟨rfl, _⟩ | ⟨g, cap, cur, rfl, h2, h3, h4, _⟩
 ·cases p <;> simp [Builtin.append_, run_underlying Tryz.underlying28, sizeOf, typeInfo, hi, Builtin.lenOf, Builtin.firstCells, loadCells, loadCellsFrom]
 cases p <;> simp [Builtin.append_, run_underlying Tryz.underlying28, sizeOf, typeInfo, hi, Builtin.lenOf, Builtin.firstCells, loadCells, loadCellsFrom, h4, storeCells]
theorem run_append_namS (w : World) (ty : TypeId) {B : Nat} {v : Value} {ns : List (List UInt8)} (hv : NamV w B v ns) {S : Nat → Prop} {u : Value} {ms : List (List UInt8)} (hu : NamS w S u ms) (hlen : ns.length + ms.length ≤ 100000002) (hB : B ≤ w.heap.size) :
  ∃ v' w', (Builtin.append_ #[28, 28] ty #[v, u]).run Tryz.prog w = .ok v' w' ∧ NamV w' B v' (ns ++ ms) ∧ w.grownBy w' v.ownBlock ∧ ∀ k, v'.ownBlock = some k → v.ownBlock = some k ∨ w.heap.size ≤ k := by
 obtain ⟨p, c, rfl, h1, h2, h3⟩ := hu
 by_cases h0 : ms = []
 ·subst h0
  exact ⟨v, w, run_append_no_names w ty hv p c, by rw [List.append_nil]; exact hv, grown_refl _ _, fun k hk => .inl hk⟩
 ·obtain ⟨g, off, rfl, _, _, h4⟩ := h3 (List.length_pos_iff.2 h0)
  exact run_append_names w ty hv (.inr ⟨g, off, c, rfl, h4⟩) hlen hB
theorem oper_append_namS {w : World} {o : Oper} {a : Act} {Q : Exit → Act → World → Prop} {K : Act → World → Prop} (s x : Operand)
  (ho : o.op = .call { callee := .builtin .append, args := #[s, x], argTypes := #[28, 28] })
  (B : Nat) (v u : Value) (ns ms : List (List UInt8)) (hs : a.eval s = v) (hv : NamV w B v ns) {S : Nat → Prop} (hx : a.eval x = u) (hu : NamS w S u ms) (hlen : ns.length + ms.length ≤ 100000002) (hB : B ≤ w.heap.size)
  (hK : ∀ v' w', NamV w' B v' (ns ++ ms) → w.grownBy w' v.ownBlock → (∀ k, v'.ownBlock = some k → v.ownBlock = some k ∨ w.heap.size ≤ k) → K (a.put o.dst v') w') : Oper.wp Tryz.prog o a w K Q := by
 obtain ⟨v', w', hrun, h1, h2, h3⟩ := run_append_namS w o.type hv hu hlen hB
 unfold Oper.wp
 simp [execOp, ho, resolve, invoke, builtin, hs, hx, hrun, Result.andThen]
 exact hK _ _ h1 h2 h3
theorem sliced_lo (g n c s : Nat) (hc : 0 < c) : sliced (some ⟨g, 0, none⟩) 0 n c s = .slice (some ⟨g, 0, none⟩) n c := by
 unfold sliced
 rw [if_neg (by omega)]
 simp [Addr.add]
structure KcI (w wr : World) (g : Nat) (R : JR) (lv : Value) (rs : List JR) : Prop where
 be : Below w.heap.size w wr
 v : RowAt wr g (jcells R)
 res : RowAt wr (g + 1) (jcells jzero)
 row : wr.ownsRow (g + 2) 30 8 lv rs.length (jrow rs)
 each : ∀ x ∈ rs, KV wr (fun k => g + 2 ≤ k ∧ lv.ownBlock ≠ some k) x
 lo : w.heap.size = g
theorem KcI.apart {w wr w' : World} {g : Nat} {R : JR} {lv : Value} {rs : List JR} {T : Nat → Prop} (h : KcI w wr g R lv rs) (ha : Apart T wr w') (hT : ∀ k, k < wr.heap.size → ¬ T k) : KcI w w' g R lv rs :=
 ⟨h.be.trans (ha.below h.be.size (fun i hi => hT i (Nat.lt_of_lt_of_le hi h.be.size))), h.v.apart ha (hT _ h.v.lt), h.res.apart ha (hT _ h.res.lt), ownsRow_apart h.row ha (fun k hk => hT k (World.ownsRow.lt h.row k hk).2), fun x hx => (h.each x hx).apart ha (fun k _ hk => hT k hk), h.lo⟩
theorem KcI.below {w wr w' : World} {g : Nat} {R : JR} {lv : Value} {rs : List JR} (h : KcI w wr g R lv rs) (hb : Below wr.heap.size wr w') : KcI w w' g R lv rs := h.apart (T := fun _ => False) (.ofBelow hb) (fun _ _ h => h)
theorem KcI.js {w wr : World} {g : Nat} {R : JR} {lv : Value} {rs : List JR} (h : KcI w wr g R lv rs) : JsV wr (g + 2) (fun k => g + 2 ≤ k) lv rs := ⟨h.row, fun r hr => (h.each r hr).jv⟩
theorem KcI.push {w wr w3 : World} {g : Nat} {R r : JR} {lv v' : Value} {rs : List JR} (h : KcI w wr g R lv rs) (hr : KV wr (fun k => g + 2 ≤ k ∧ lv.ownBlock ≠ some k) r) (hj : JsV w3 (g + 2) (fun k => g + 2 ≤ k) v' (rs ++ [r])) (hgr : wr.grownBy w3 lv.ownBlock) (hf : ∀ k, v'.ownBlock = some k → lv.ownBlock = some k ∨ wr.heap.size ≤ k) : KcI w w3 g R v' (rs ++ [r]) := by
 have ha : Apart (fun k => lv.ownBlock = some k) wr w3 := Apart.ofGrown hgr (fun k hk => hk)
 have hlt : ∀ k, lv.ownBlock = some k → g + 2 ≤ k := fun k hk => (World.ownsRow.lt h.row k hk).1
 have hlo := h.lo
 refine ⟨h.be.trans (ha.below h.be.size (fun i hi e => by have := hlt i e; omega)), h.v.apart ha (fun e => by have := hlt _ e; omega), h.res.apart ha (fun e => by have := hlt _ e; omega), hj.row, fun x hx => ?_, h.lo⟩
 rcases List.mem_append.1 hx with hx | hx
 ·exact KV.grown (h.each x hx) hgr hf
 rw [List.mem_singleton.1 hx]; exact KV.grown hr hgr hf
structure KcE (w wr : World) (g : Nat) (R : JR) (gl cl : Nat) (rs : List JR) : Prop where
 be : Below w.heap.size w wr
 v : RowAt wr g (headC R.1 (.slice (some ⟨gl, 0, none⟩) rs.length cl) R.2.2)
 res : RowAt wr (g + 1) (jcells jzero)
 row : wr.ownsRow (g + 2) 30 8 (.slice (some ⟨gl, 0, none⟩) (rs.length + 1) cl) (rs.length + 1) (jrow (rs ++ [jnine]))
 each : ∀ x ∈ rs, KV wr (fun k => g + 2 ≤ k ∧ k ≠ gl) x
 lo : w.heap.size = g
theorem KcE.apart {w wr w' : World} {g gl cl : Nat} {R : JR} {rs : List JR} {T : Nat → Prop} (h : KcE w wr g R gl cl rs) (ha : Apart T wr w') (hT : ∀ k, k < wr.heap.size → ¬ T k) : KcE w w' g R gl cl rs :=
 ⟨h.be.trans (ha.below h.be.size (fun i hi => hT i (Nat.lt_of_lt_of_le hi h.be.size))), h.v.apart ha (hT _ h.v.lt), h.res.apart ha (hT _ h.res.lt), ownsRow_apart h.row ha (fun k hk => hT k (World.ownsRow.lt h.row k hk).2), fun x hx => (h.each x hx).apart ha (fun k _ hk => hT k hk), h.lo⟩
theorem KcE.below {w wr w' : World} {g gl cl : Nat} {R : JR} {rs : List JR} (h : KcE w wr g R gl cl rs) (hb : Below wr.heap.size wr w') : KcE w w' g R gl cl rs := h.apart (T := fun _ => False) (.ofBelow hb) (fun _ _ h => h)
theorem KcI.ended {w wr w3 : World} {g : Nat} {R : JR} {lv : Value} {gl cl : Nat} {rs : List JR} (h : KcI w wr g R lv rs) (hj : JsV w3 (g + 2) (fun k => g + 2 ≤ k) (.slice (some ⟨gl, 0, none⟩) (rs.length + 1) cl) (rs ++ [jnine])) (hgr : wr.grownBy w3 lv.ownBlock) (hf : ∀ k, (Value.slice (some ⟨gl, 0, none⟩) (rs.length + 1) cl).ownBlock = some k → lv.ownBlock = some k ∨ wr.heap.size ≤ k) :
  KcE w (w3.setCell ⟨g, 6, none⟩ (.slice (some ⟨gl, 0, none⟩) rs.length cl)) g R gl cl rs := by
 have ha : Apart (fun k => lv.ownBlock = some k) wr w3 := Apart.ofGrown hgr (fun k hk => hk)
 have hs : Apart (fun k => k = g) w3 (w3.setCell ⟨g, 6, none⟩ (.slice (some ⟨gl, 0, none⟩) rs.length cl)) := Apart.set (S := fun k => k = g) w3 rfl _
 have hlt : ∀ k, lv.ownBlock = some k → g + 2 ≤ k := fun k hk => (World.ownsRow.lt h.row k hk).1
 have hlo := h.lo
 have hrow := hj.row
 rw [List.length_append, List.length_singleton] at hrow
 have hgl : g + 2 ≤ gl := (World.ownsRow.lt hrow gl rfl).1
 refine ⟨(h.be.trans (ha.below h.be.size (fun i hi e => by have := hlt i e; omega))).trans (hs.below (Nat.le_trans h.be.size ha.size) (fun i hi e => by omega)), ?_, ?_, ownsRow_apart hrow hs (fun k hk e => by cases hk; have : gl = g := e; omega), fun x hx => ?_, h.lo⟩
 ·exact (h.v.apart ha (fun e => by have := hlt _ e; omega)).set 6 _ (by simp [jcells])
 ·exact (h.res.apart ha (fun e => by have := hlt _ e; omega)).far (p := ⟨g, 6, none⟩) (by show g ≠ g + 1; omega) _
 ·exact ((KV.grown (h.each x hx) hgr hf).apart hs (fun k hk _ e => by have := hk.1; omega)).mono (fun k _ hk => ⟨hk.1, fun e => hk.2 (by rw [e]; rfl)⟩)
theorem ownsRow_zero {w : World} {B size n : Nat} {e : TypeId} {v : Value} {xs : List Value} (h : w.ownsRow B e size v n xs) : w.ownsRow 0 e size v n xs := ⟨h.1, h.2.imp id (fun ⟨g, cap, cur, h1, _, h2⟩ => ⟨g, cap, cur, h1, Nat.zero_le _, h2⟩)⟩
structure KcF (w wF : World) (g : Nat) (r : JR) : Prop where
 be : Below w.heap.size w wF
 v : RowAt wF g (jcells r)
 res : RowAt wF (g + 1) (jcells jzero)
 whole : KV wF (fun k => g + 2 ≤ k) r
 lo : w.heap.size = g
theorem KcE.whole {w wd w3 : World} {g gl cl gq cq : Nat} {v : J} {lv nv : Value} {rs : List JR} (h : KcE w wd g (v, lv, nv) gl cl rs) (hv : v.l = rs.map (·.1)) (hb : Below wd.heap.size wd w3) (hn : NamV w3 wd.heap.size (.slice (some ⟨gq, 0, none⟩) (v.ns.length + 1) cq) (v.ns ++ [spareS])) :
  KcF w (w3.setCell ⟨g, 7, none⟩ (.slice (some ⟨gq, 0, none⟩) v.ns.length cq)) g (v, .slice (some ⟨gl, 0, none⟩) rs.length cl, .slice (some ⟨gq, 0, none⟩) v.ns.length cq) := by
 have h3 := h.below hb
 have hs : Apart (fun k => k = g) w3 (w3.setCell ⟨g, 7, none⟩ (.slice (some ⟨gq, 0, none⟩) v.ns.length cq)) := Apart.set (S := fun k => k = g) w3 rfl _
 have hlo := h.lo
 have hgr := h.res.lt
 have hgl : g + 2 ≤ gl := (World.ownsRow.lt h.row gl rfl).1
 have hgq := (World.ownsRow.lt hn gq rfl).1
 unfold NamV at hn
 rw [List.length_append, List.length_singleton] at hn
 refine ⟨h3.be.trans (hs.below h3.be.size (fun i hi e => by omega)), h3.v.set 7 _ (by simp [headC]), h3.res.far (p := ⟨g, 7, none⟩) (by show g ≠ g + 1; omega) _, ?_, hlo⟩
 refine KV.mk v rs gl cl gq cq (ownsRow_zero (ownsRow_apart h3.row hs (fun k hk e => by cases hk; have : gl = g := e; omega))) hv (ownsRow_zero (ownsRow_apart hn hs (fun k hk e => by cases hk; have : gq = g := e; omega))) hgl (by omega) (fun x hx => ?_)
 exact ((h3.each x hx).apart hs (fun k hk _ e => by have := hk.1; omega)).mono (fun k _ hk => hk.1)
theorem NamX.grown {w w' : World} {G n c : Nat} {ms : List (List UInt8)} {row : Option Nat} (h : NamX w (.slice (some ⟨G, 0, none⟩) n c) ms) (hg : w.grownBy w' row) (hn : row ≠ some G) : NamX w' (.slice (some ⟨G, 0, none⟩) n c) ms := by
 rcases h with ⟨h, _⟩ | ⟨g, off, cap, e, hc⟩
 ·cases h
 cases e
 refine .inr ⟨G, 0, _, rfl, fun i s hi => ?_⟩
 have h1 := hc i s hi
 exact (World.cell?_of_block (a := ⟨G, 0 + i, none⟩) (hg.block G (World.block_lt_of_cell? _ _ h1) (fun e => hn e.symm))).trans h1
theorem kce_whole {w wd w3 : World} {g gl cl gq cq : Nat} {v : J} {lv nv : Value} {R : JR} {rs : List JR} (hR : R = (v, lv, nv)) (h : KcE w wd g R gl cl rs) (hv : rs.map (·.1) = v.l) (hb : Below wd.heap.size wd w3) (hn : NamV w3 wd.heap.size (.slice (some ⟨gq, 0, none⟩) (v.ns.length + 1) cq) (v.ns ++ [spareS])) :
  KcF w (w3.setCell ⟨g, 7, none⟩ (.slice (some ⟨gq, 0, none⟩) v.ns.length cq)) g (v, .slice (some ⟨gl, 0, none⟩) rs.length cl, .slice (some ⟨gq, 0, none⟩) v.ns.length cq) := by
 subst hR
 exact h.whole hv.symm hb hn
theorem oper_build0N {w : World} {o : Oper} {a : Act} {Q : Exit → Act → World → Prop} {K : Act → World → Prop} (ho : o.op = .buildSlice 28 0 #[]) (hK : K (a.put o.dst (.slice (some ⟨w.heap.size, 0, none⟩) 0 0)) (w.alloc (.cells #[] 9))) : Oper.wp Tryz.prog o a w K Q := by
 obtain ⟨i0, hi, hz0, hz1, hz2⟩ := info_parts Tryz.info9
 have hrun : (Instr.buildSlice 28 0 #[]).run Tryz.prog w = .ok (.slice (some ⟨w.heap.size, 0, none⟩) 0 0) (w.alloc (.cells #[] 9)) := by
  have h0 : Array.range 0 = (#[] : Array Nat) := by simp
  simp [Instr.buildSlice, run_underlying Tryz.underlying28, sizeOf, typeInfo, hi, Instr.fill, newRow, h0]
 unfold Oper.wp
 simp [execOp, ho, hrun, Result.andThen, Oper.upon]
 exact hK
def KopTo (w : World) (v : J) (e : Ending) (w' : World) : Prop := ∃ lv nv, e = .returned (jval (v, lv, nv)) ∧ KV w' (fun k => w.heap.size ≤ k) (v, lv, nv) ∧ Below w.heap.size w w'
theorem namV_empty (w : World) (B : Nat) (h : B ≤ w.heap.size) : NamV (w.alloc (.cells #[] 9)) B (.slice (some ⟨w.heap.size, 0, none⟩) 0 0) [] :=
 ⟨rfl, .inr ⟨w.heap.size, 0, #[], rfl, h, heap_alloc_new w _, Nat.le_refl _, Nat.zero_le _, rfl, rfl⟩⟩
theorem copiedL_calls {w0 : World} {S1 : Nat → Prop} {r1 : JR} (h1 : JV w0 S1 r1) : ∀ (w : World), Below w0.heap.size w0 w → szJ r1.1 ≤ 20000000 → Calls Tryz.prog 18 #[jval r1] w (KopTo w r1.1) := by
 induction h1 with
 | mk r1 xs hn1 hl1 hs1 ih =>
  intro w hb hsz
  obtain ⟨⟨k, b, n, t, l, ns⟩, lv0, nv0⟩ := r1
  have hn0 := hn1
  obtain ⟨p1, c1, hp1, hc1, hm1, hL1⟩ := hl1
  change lv0 = Value.slice p1 l.length c1 at hp1
  obtain ⟨q1, e1, hq1, hcn1, hk1, hN1⟩ := hn1
  change nv0 = Value.slice q1 ns.length e1 at hq1
  subst hp1 hq1
  simp only [J.l] at hm1 hL1 hc1
  simp only [J.ns] at hN1
  simp only [szJ] at hsz
  change NamS w0 S1 (Value.slice q1 ns.length e1) ns at hn0
  have hln : l.length ≤ 20000000 := by have := szL_len l; omega
  have hnn : ns.length ≤ 20000000 := by have := szN_len ns; omega
  obtain ⟨R1, hR1⟩ : ∃ R : JR, ((J.mk k b n t l ns, Value.slice p1 l.length c1, Value.slice q1 ns.length e1) : JR) = R := ⟨_, rfl⟩
  have HSJ1 : Hid (SlJ R1) := hid (by rw [← hR1]; exact ⟨rfl, rfl⟩)
  have HC1 : Hid (jcells R1 = headC (J.mk k b n t l ns) (Value.slice p1 l.length c1) (Value.slice q1 ns.length e1)) := hid (by rw [← hR1]; rfl)
  have HCC : Hid (∀ (W : World) (g : Nat), RowAt W g (jcells R1) → RowAt W g [.int .i64 k, .bool b, .bool n.neg, .string ⟨n.digits.toArray⟩, .int .i64 n.exp, .string ⟨t.toArray⟩, .slice p1 l.length c1, .slice q1 ns.length e1]) := hid (fun W g h => by rw [HC1.out] at h; exact h)
  have HR1 : Hid (R1 = (J.mk k b n t l ns, Value.slice p1 l.length c1, Value.slice q1 ns.length e1)) := hid hR1.symm
  have HL := hid hL1
  have HN0 := hid hn0
  have HB := hid hb
  have HIH := hid ih
  have HSZ : Hid (szL l ≤ 20000000) := hid (by omega)
  rw [hR1]
  clear hR1 hL1 hN1 hb ih hs1 hsz hcn1 hk1 hc1 hm1 hn0
  rw [show KopTo w R1.1 = KopTo w (J.mk k b n t l ns) by rw [HR1.out]]
  go_enter Tryz.func18, Tryz.ntmps18
  go_upto_region 1 with (first | (refine wpList_boxJ rfl _ rfl R1 rfl ?_; intro w1 hBx1) | (refine wpList_allocJ rfl rfl ?_; intro w2 hBx2))
  obtain ⟨g, hg⟩ : ∃ g, w.heap.size = g := ⟨_, rfl⟩
  have hy1 : w1.heap.size = g + 1 := by have := hBx1.size; omega
  have hv2 := hBx1.row.below hBx2.be
  have hr2 := hBx2.row
  rw [hg] at hv2
  rw [hy1] at hr2
  have HI : Hid (KcI w w2 g R1 (.slice none 0 0) []) := hid ⟨hBx2.below hBx1.be hBx1.be.size, hv2, hr2, World.ownsRow_nil _ _ _ _, by simp, hg⟩
  rw [hg]
  rw [hy1]
  have HG0 : Hid (w.heap.size = g) := hid hg
  clear hBx1 hBx2 hy1 hv2 hr2 hg
  go_wp2_with fail
  go_loopg [3, 4] l.length (fun kk s3 s4 wr => ∃ (i : Nat) (lv : Value) (rs : List JR), kk = l.length - i ∧ i ≤ l.length ∧ s3 = lv ∧ s4 = .int .i64 (i : Int) ∧ KcI w wr g R1 lv rs ∧ rs.map (·.1) = l.take i ∧ rs.length = i)
  case atStart => exact ⟨0, _, [], rfl, Nat.zero_le _, rfl, rfl, HI.out, rfl, rfl⟩
  obtain ⟨i, lv, rs, hki, hi, rfl, rfl, hI, hrs, hrl⟩ := hrel
  have Hki := hid hki
  have HRS := hid hrs
  have HRL := hid hrl
  clear HI
  have HI := hid hI
  obtain ⟨pl, cl, hfm⟩ := hI.js.forms
  subst hfm
  clear hki hI hrs hrl
  have v6 : _ = some (Value.slice p1 l.length c1) := (HCC.out _ _ HI.out.v).cell 6 _ rfl
  by_cases hlt : i < l.length
  ·
   have hlti : (i : Int) < (l.length : Int) := by omega
   obtain ⟨y, hy⟩ : ∃ y, l[i]? = some y := ⟨_, List.getElem?_eq_getElem hlt⟩
   have hsx := szL_in hy
   have HY := hid hy
   have HSX : Hid (szJ y ≤ 20000000) := hid (by have := HSZ.out; omega)
   clear hy hsx
   obtain ⟨gl, fl, rfl, _, hgl, hcs⟩ := HL.out (by omega)
   have HBW : Hid (Below w0.heap.size w0 wr) := hid (HB.out.trans (HI.out.be.mono HB.out.size))
   have hra : wr.rangeAt gl (fl + i * 8) (jcells (y, xs i)) := fun c v hc => by
    have hc8 : c < 8 := (List.getElem?_eq_some_iff.1 hc).1
    rw [HBW.out.cell (p := ⟨gl, fl + i * 8 + c, none⟩) hgl, hcs i y HY.out c hc8]; exact hc
   clear hcs hgl
   go_wp2_with (refine wpList_loadMd rfl _ rfl (y, xs i) hra rfl ?_)
   refine (HIH.out i y HY.out wr HBW.out HSX.out).mono ?_
   rintro ez wA ⟨lvA, nvA, rfl, hJA, hBA⟩
   have HIA := hid (HI.out.below hBA)
   have HXA : Hid (KV wA (fun k => g + 2 ≤ k ∧ (Value.slice pl rs.length cl).ownBlock ≠ some k) (y, lvA, nvA)) := hid (hJA.mono (fun k _ hk => ⟨by have := HI.out.res.lt; omega, fun e => by have := (World.ownsRow.lt HI.out.row k e).2; omega⟩))
   clear hJA hBA v6 hra
   go_upto_region 4 with (first | (refine wpList_buildJ rfl _ rfl (y, lvA, nvA) rfl ?_; intro wB hBxB) | (at_builtin; go_must (refine wpList_append_json rfl _ _ rfl (g + 2) (fun k => g + 2 ≤ k) (.slice pl rs.length cl) rs rfl (HIA.out.below hBxB.be).js (y, lvA, nvA) (HXA.out.bel hBxB.be).jv wA.heap.size 1 rfl ?hcs ?hlen ?hbb ?_)))
   case hcs => intro c hc; exact (hBxB.row.cell c _ (List.getElem?_eq_getElem (by exact hc))).trans (List.getElem?_eq_getElem (by exact hc)).symm
   case hlen => have := HRL.out; omega
   case hbb => have := (HIA.out.below hBxB.be).res.lt; omega
   intro vC wC h1 h2 h3
   have HIC := hid ((HIA.out.below hBxB.be).push (HXA.out.bel hBxB.be) h1 h2 h3)
   clear h1 h2 h3 hBxB
   go_wp2_with fail
   go_roundg (l.length - (i + 1))
   case measure => have := Hki.out; omega
   exact ⟨i + 1, _, _, rfl, by omega, rfl, by go_num, HIC.out, by rw [List.map_append, HRS.out, List.take_add_one, HY.out]; rfl, by rw [List.length_append, HRL.out]; rfl⟩
  have hlti : ¬ (i : Int) < (l.length : Int) := by omega
  obtain rfl : i = l.length := by omega
  have HRM : Hid (rs.map (·.1) = l) := hid (by rw [HRS.out, List.take_of_length_le (Nat.le_refl _)])
  go_upto_region 6 with fail
  clear v6
  have HID := hid (HI.out.below (Below.refl _ _).drew)
  have HMK : Hid (∀ W, RowAt W g (jcells R1) → (fun wq => wq.cell? ⟨g, 6, none⟩ = some (Value.slice p1 l.length c1)) W) := hid (fun W h => (HCC.out _ _ h).cell 6 _ rfl)
  have hS0 := HMK.out _ HID.out.v
  refine wp_region_heldT [9] (S := (fun wq => wq.cell? ⟨g, 6, none⟩ = some (Value.slice p1 l.length c1))) (by kernel_rfl) hS0 (fun hHeld0 => ?_)
  obtain ⟨wd, hwd⟩ : ∃ wd, wr.drew = wd := ⟨_, rfl⟩
  rw [hwd] at HID hHeld0 ⊢
  clear hwd hS0
  refine heldT_ta 0 hHeld0 ?_
  refine heldT_ta 1 hHeld0 ?_
  refine heldT_ta 4 hHeld0 ?_
  refine heldT_ta 5 hHeld0 ?_
  refine heldT_ta 6 hHeld0 ?_
  refine heldT_step 2 rfl (fun K hK => ?_)
  refine oper_buildJ _ rfl jnine rfl ?_
  intro wB hBxB
  have HIB := hid (HID.out.below hBxB.be)
  have HRB := hid hBxB.row
  clear hBxB
  refine hK.out _ _ (HMK.out _ HIB.out.v) (fun hHeld1 => ?_)
  clear hK K hHeld0
  refine heldT_step 3 rfl (fun K hK => ?_)
  refine oper_append_json _ _ rfl (g + 2) (fun k => g + 2 ≤ k) (.slice pl rs.length cl) rs rfl HIB.out.js jnine (JV.leaf _ _ 9 false Dec.zero []) wd.heap.size 1 rfl ?hcs ?hlen ?hbb (fun vC wC h1 h2 h3 => ?_)
  case hcs => intro c hc; exact (HRB.out.cell c _ (List.getElem?_eq_getElem (by exact hc))).trans (List.getElem?_eq_getElem (by exact hc)).symm
  case hlen => have := HRL.out; omega
  case hbb => have := HIB.out.res.lt; omega
  obtain ⟨gl, cn, hvC⟩ : ∃ gl cn, vC = .slice (some ⟨gl, 0, none⟩) (rs.length + 1) cn := by
   rcases h1.row.2 with ⟨_, h9⟩ | ⟨g9, c9, _, e9, _⟩
   ·simp at h9
   exact ⟨g9, c9, by rw [e9, List.length_append]; rfl⟩
  subst hvC
  have HCN : Hid (rs.length + 1 ≤ cn) := hid (by
   rcases h1.row.2 with ⟨h9, _⟩ | ⟨g9, c9, _, e9, _, _, h9, _⟩
   ·cases h9
   injection e9 with _ _ e9; subst e9; simpa using h9)
  have HE := hid (HIB.out.ended h1 h2 h3)
  have haC : Apart (fun k => (Value.slice pl rs.length cl).ownBlock = some k) wB wC := Apart.ofGrown h2 (fun k hk => hk)
  have HVC : Hid (RowAt wC g (jcells R1)) := hid (HIB.out.v.apart haC (fun e => by have := (World.ownsRow.lt HIB.out.row g e).1; omega))
  have k6 : _ = some (Value.slice p1 l.length c1) := (HCC.out _ _ HVC.out).cell 6 _ rfl
  have f6 := HVC.out.free 6
  clear h1 h2 h3 haC
  try simp only [Act.put, List.setIfInBounds_toArray, List.set_cons_zero, List.set_cons_succ]
  refine hK.out _ _ (HMK.out _ HVC.out) (fun hHeld2 => ?_)
  clear hK K hHeld1
  refine heldT_tv 7 (.slice (some ⟨gl, 0, none⟩) rs.length cn) rfl (fun wq hSq => by rw [← sliced_lo gl rs.length cn 8 (by have := HCN.out; omega)]; exact exec_slice_h _ _ rfl und_jsons (size_json _) rfl (by rw [HRL.out]; rfl) (by have := HCN.out; omega)) hHeld2 ?_
  refine heldT_ta 8 hHeld2 ?_
  refine heldT_late ?_
  clear hHeld2
  have hHeld3 : True := trivial
  refine held_st 9 rfl (fun K hK => ?_)
  go_simp
  refine hK.out _ _ trivial (fun hHeld4 => ?_)
  clear hK K hHeld3
  refine wpAnyH_done (by kernel_rfl) ?_ _
  clear hHeld4
  clear k6 f6 HVC HIB HRB HI HID
  obtain ⟨wE, hwE⟩ : ∃ W, wC.setCell ⟨g, 6, none⟩ (.slice (some ⟨gl, 0, none⟩) rs.length cn) = W := ⟨_, rfl⟩
  rw [hwE] at HE ⊢
  clear hwE
  go_upto_region 7 with fail
  go_cut [] from 30 to 40 (fun wc => ∃ gq cq, KcF w wc g (J.mk k b n t l ns, Value.slice (some ⟨gl, 0, none⟩) rs.length cn, Value.slice (some ⟨gq, 0, none⟩) ns.length cq))
  case first =>
   have HCE : Hid (∀ (W : World), RowAt W g (headC R1.1 (.slice (some ⟨gl, 0, none⟩) rs.length cn) R1.2.2) → W.cell? ⟨g, 7, none⟩ = some (.slice q1 ns.length e1)) := hid (fun W h => by have := h.cell 7 _ rfl; rw [this, HR1.out])
   have HED := hid (HE.out.below (Below.refl _ _).drew)
   have hS0 := HCE.out _ HED.out.v
   have HBX : Hid (Below w0.heap.size w0 wE.drew) := hid (HB.out.trans (HED.out.be.mono HB.out.size))
   have HSE : Hid (Below wE.drew.heap.size wE.drew wE.drew) := hid (Below.refl _ _)
   have HZN : Hid (ns.length ≤ 20000000) := hid hnn
   have HLG : Hid (g + 2 ≤ wE.drew.heap.size) := hid (by have := HED.out.res.lt; omega)
   have HMK : Hid (∀ W, Below wE.drew.heap.size wE.drew W → (fun wq => wq.cell? ⟨g, 7, none⟩ = some (Value.slice q1 ns.length e1)) W) := hid (fun W h => HCE.out _ (HED.out.below h).v)
   refine wp_region_heldT [11] (S := (fun wq => wq.cell? ⟨g, 7, none⟩ = some (Value.slice q1 ns.length e1))) (by kernel_rfl) hS0 (fun hHeld0 => ?_)
   obtain ⟨wd, hwd⟩ : ∃ wd, wE.drew = wd := ⟨_, rfl⟩
   rw [hwd] at HED HBX HSE HMK HLG hHeld0 ⊢
   clear hwd hS0
   refine heldT_ta 1 hHeld0 ?_
   refine heldT_ta 2 hHeld0 ?_
   refine heldT_ta 6 hHeld0 ?_
   refine heldT_ta 7 hHeld0 ?_
   refine heldT_ta 8 hHeld0 ?_
   refine heldT_two 0 4 rfl rfl (fun K hK => ?_) (fun K hK => ?_)
   ·
    refine oper_build0N rfl ?_
    have HB30 : Hid (Below wd.heap.size wd (wd.alloc (.cells #[] 9))) := hid (HSE.out.trans (((Below.refl _ _).alloc (Nat.le_refl _) _).mono HSE.out.size))
    obtain ⟨G30, hG30⟩ : ∃ G, wd.heap.size = G := ⟨_, rfl⟩
    have HN30 : Hid (NamV (wd.alloc (.cells #[] 9)) wd.heap.size (.slice (some ⟨G30, 0, none⟩) 0 0) []) := hid (by rw [← hG30]; exact namV_empty _ _ HSE.out.size)
    obtain ⟨w30, hw30⟩ : ∃ X, wd.alloc (.cells #[] 9) = X := ⟨_, rfl⟩
    rw [hG30]
    rw [hw30] at HB30 HN30 ⊢
    clear hw30 hG30
    try simp only [Act.put, List.setIfInBounds_toArray, List.set_cons_zero, List.set_cons_succ]
    refine hK.out _ _ (HMK.out _ HB30.out) (fun hHeld1 => ?_)
    clear hK K hHeld0
    refine heldT_two 3 4 rfl rfl (fun K hK => ?_) (fun K hK => ?_)
    ·
     refine oper_append_namS _ _ rfl wd.heap.size (.slice (some ⟨G30, 0, none⟩) 0 0) (.slice q1 ns.length e1) [] ns rfl HN30.out rfl (HN0.out.below (HBX.out.trans (HB30.out.mono HBX.out.size))) ?ha0 HB30.out.size (fun v33 w33 h1 h2 h3 => ?_)
     case ha0 => have := HZN.out; rw [List.length_nil]; omega
     rw [List.nil_append] at h1
     have HB33 : Hid (Below wd.heap.size wd w33) := hid (HB30.out.grown h2 HB30.out.size (fun k hk => (World.ownsRow.lt HN30.out k hk).1))
     have HN33 := hid h1
     clear h1 h2 h3
     try simp only [Act.put, List.setIfInBounds_toArray, List.set_cons_zero, List.set_cons_succ]
     refine hK.out _ _ (HMK.out _ HB33.out) (fun hHeld2 => ?_)
     clear hK K hHeld1
     refine heldT_step 4 rfl (fun K hK => ?_)
     go_simp
     have hba : Below w33.heap.size w33 (w33.alloc (.cells #[.string ⟨#[115, 112, 97, 114, 101]⟩] 9)) := (Below.refl _ _).alloc (Nat.le_refl _) _
     have HB34 : Hid (Below wd.heap.size wd (w33.alloc (.cells #[.string ⟨#[115, 112, 97, 114, 101]⟩] 9))) := hid (HB33.out.trans (hba.mono HB33.out.size))
     have HX34 : Hid (NamX (w33.alloc (.cells #[.string ⟨#[115, 112, 97, 114, 101]⟩] 9)) (.slice (some ⟨w33.heap.size, 0, none⟩) 1 1) [spareS]) := hid (NamX.one w33 spareS)
     have HN34 := hid (HN33.out.below hba)
     have hz34 : (w33.alloc (.cells #[.string ⟨#[115, 112, 97, 114, 101]⟩] 9)).heap.size = w33.heap.size + 1 := World.size_alloc _ _
     obtain ⟨G34, hG34⟩ : ∃ G, w33.heap.size = G := ⟨_, rfl⟩
     obtain ⟨w34, hw34⟩ : ∃ X, w33.alloc (.cells #[.string ⟨#[115, 112, 97, 114, 101]⟩] 9) = X := ⟨_, rfl⟩
     rw [hw34] at HB34 HX34 ⊢
     rw [hG34] at HX34 ⊢
     rw [hw34, hG34] at hz34
     have HZ34 : Hid (G34 < w34.heap.size) := hid (by omega)
     rw [hw34] at HN34
     clear hba hw34 hG34 hz34
     refine hK.out _ _ (HMK.out _ HB34.out) (fun hHeld3 => ?_)
     clear hK K hHeld2
     refine heldT_step 5 rfl (fun K hK => ?_)
     refine oper_append_names _ _ rfl wd.heap.size v33 _ ns [spareS] rfl HN34.out rfl HX34.out ?ha1 HB34.out.size (fun v35 w35 h1 h2 h3 => ?_)
     case ha1 => have := HZN.out; rw [List.length_singleton]; omega
     have HB35 : Hid (Below wd.heap.size wd w35) := hid (HB34.out.grown h2 HB34.out.size (fun k hk => (World.ownsRow.lt HN34.out k hk).1))
     obtain ⟨gq, cq, hvq⟩ : ∃ gq cq, v35 = .slice (some ⟨gq, 0, none⟩) (ns.length + 1) cq := by
      rcases h1.2 with ⟨_, h9⟩ | ⟨g9, c9, _, e9, _⟩
      ·simp at h9
      exact ⟨g9, c9, by rw [e9, List.length_append]; rfl⟩
     subst hvq
     have HCQ : Hid (ns.length + 1 ≤ cq) := hid (by
      rcases h1.2 with ⟨h9, _⟩ | ⟨g9, c9, _, e9, _, _, h9, _⟩
      ·cases h9
      injection e9 with _ _ e9; subst e9; simpa using h9)
     have HF : KcF w (w35.setCell ⟨g, 7, none⟩ (.slice (some ⟨gq, 0, none⟩) ns.length cq)) g (J.mk k b n t l ns, Value.slice (some ⟨gl, 0, none⟩) rs.length cn, Value.slice (some ⟨gq, 0, none⟩) ns.length cq) := kce_whole HR1.out HED.out HRM.out HB35.out h1
     have HFF := hid HF
     have HOC := hid (HED.out.below HB35.out).v
     have k7 := HCE.out _ HOC.out
     have f7 := HOC.out.free 7
     clear HF h1 h2 h3
     try simp only [Act.put, List.setIfInBounds_toArray, List.set_cons_zero, List.set_cons_succ]
     refine hK.out _ _ (HMK.out _ HB35.out) (fun hHeld4 => ?_)
     clear hK K hHeld3
     refine heldT_tv 9 (.slice (some ⟨gq, 0, none⟩) ns.length cq) rfl (fun wq hSq => by rw [← sliced_lo gq ns.length cq 1 (by have := HCQ.out; omega)]; exact exec_slice_h _ _ rfl und_names (size_str _) rfl rfl (by have := HCQ.out; omega)) hHeld4 ?_
     refine heldT_ta 10 hHeld4 ?_
     refine heldT_late ?_
     clear hHeld4
     have hHeld5 : True := trivial
     refine held_st 11 rfl (fun K hK => ?_)
     go_simp
     refine hK.out _ _ trivial (fun hHeld6 => ?_)
     clear hK K hHeld5
     refine wpAnyH_done (by kernel_rfl) ?_ _
     clear hHeld6
     go_wp2_with fail
     go_meet
     exact ⟨_, _, HFF.out⟩
    go_simp
    have hba : Below w30.heap.size w30 (w30.alloc (.cells #[.string ⟨#[115, 112, 97, 114, 101]⟩] 9)) := (Below.refl _ _).alloc (Nat.le_refl _) _
    have HB34 : Hid (Below wd.heap.size wd (w30.alloc (.cells #[.string ⟨#[115, 112, 97, 114, 101]⟩] 9))) := hid (HB30.out.trans (hba.mono HB30.out.size))
    have HX34 : Hid (NamX (w30.alloc (.cells #[.string ⟨#[115, 112, 97, 114, 101]⟩] 9)) (.slice (some ⟨w30.heap.size, 0, none⟩) 1 1) [spareS]) := hid (NamX.one w30 spareS)
    have HN34 := hid (HN30.out.below hba)
    have hz34 : (w30.alloc (.cells #[.string ⟨#[115, 112, 97, 114, 101]⟩] 9)).heap.size = w30.heap.size + 1 := World.size_alloc _ _
    obtain ⟨G34, hG34⟩ : ∃ G, w30.heap.size = G := ⟨_, rfl⟩
    obtain ⟨w34, hw34⟩ : ∃ X, w30.alloc (.cells #[.string ⟨#[115, 112, 97, 114, 101]⟩] 9) = X := ⟨_, rfl⟩
    rw [hw34] at HB34 HX34 ⊢
    rw [hG34] at HX34 ⊢
    rw [hw34, hG34] at hz34
    have HZ34 : Hid (G34 < w34.heap.size) := hid (by omega)
    rw [hw34] at HN34
    have HNE : Hid (G34 ≠ G30) := hid (by have := (World.ownsRow.lt HN30.out G30 rfl).2; omega)
    clear hba hw34 hG34 hz34
    refine hK.out _ _ (HMK.out _ HB34.out) (fun hHeld2 => ?_)
    clear hK K hHeld1
    refine heldT_step 3 rfl (fun K hK => ?_)
    refine oper_append_namS _ _ rfl wd.heap.size (.slice (some ⟨G30, 0, none⟩) 0 0) (.slice q1 ns.length e1) [] ns rfl HN34.out rfl (HN0.out.below (HBX.out.trans (HB34.out.mono HBX.out.size))) ?ha2 HB34.out.size (fun v33 w33 h1 h2 h3 => ?_)
    case ha2 => have := HZN.out; rw [List.length_nil]; omega
    rw [List.nil_append] at h1
    have HB33 : Hid (Below wd.heap.size wd w33) := hid (HB34.out.grown h2 HB34.out.size (fun k hk => (World.ownsRow.lt HN34.out k hk).1))
    have HN33 := hid h1
    have HX33 := hid (HX34.out.grown h2 (fun e => HNE.out (by cases e; rfl)))
    clear h1 h2 h3
    try simp only [Act.put, List.setIfInBounds_toArray, List.set_cons_zero, List.set_cons_succ]
    refine hK.out _ _ (HMK.out _ HB33.out) (fun hHeld3 => ?_)
    clear hK K hHeld2
    refine heldT_step 5 rfl (fun K hK => ?_)
    refine oper_append_names _ _ rfl wd.heap.size v33 _ ns [spareS] rfl HN33.out rfl HX33.out ?ha3 HB33.out.size (fun v35 w35 h1 h2 h3 => ?_)
    case ha3 => have := HZN.out; rw [List.length_singleton]; omega
    have HB35 : Hid (Below wd.heap.size wd w35) := hid (HB33.out.grown h2 HB33.out.size (fun k hk => (World.ownsRow.lt HN33.out k hk).1))
    obtain ⟨gq, cq, hvq⟩ : ∃ gq cq, v35 = .slice (some ⟨gq, 0, none⟩) (ns.length + 1) cq := by
     rcases h1.2 with ⟨_, h9⟩ | ⟨g9, c9, _, e9, _⟩
     ·simp at h9
     exact ⟨g9, c9, by rw [e9, List.length_append]; rfl⟩
    subst hvq
    have HCQ : Hid (ns.length + 1 ≤ cq) := hid (by
     rcases h1.2 with ⟨h9, _⟩ | ⟨g9, c9, _, e9, _, _, h9, _⟩
     ·cases h9
     injection e9 with _ _ e9; subst e9; simpa using h9)
    have HF : KcF w (w35.setCell ⟨g, 7, none⟩ (.slice (some ⟨gq, 0, none⟩) ns.length cq)) g (J.mk k b n t l ns, Value.slice (some ⟨gl, 0, none⟩) rs.length cn, Value.slice (some ⟨gq, 0, none⟩) ns.length cq) := kce_whole HR1.out HED.out HRM.out HB35.out h1
    have HFF := hid HF
    have HOC := hid (HED.out.below HB35.out).v
    have k7 := HCE.out _ HOC.out
    have f7 := HOC.out.free 7
    clear HF h1 h2 h3
    try simp only [Act.put, List.setIfInBounds_toArray, List.set_cons_zero, List.set_cons_succ]
    refine hK.out _ _ (HMK.out _ HB35.out) (fun hHeld4 => ?_)
    clear hK K hHeld3
    refine heldT_tv 9 (.slice (some ⟨gq, 0, none⟩) ns.length cq) rfl (fun wq hSq => by rw [← sliced_lo gq ns.length cq 1 (by have := HCQ.out; omega)]; exact exec_slice_h _ _ rfl und_names (size_str _) rfl rfl (by have := HCQ.out; omega)) hHeld4 ?_
    refine heldT_ta 10 hHeld4 ?_
    refine heldT_late ?_
    clear hHeld4
    have hHeld5 : True := trivial
    refine held_st 11 rfl (fun K hK => ?_)
    go_simp
    refine hK.out _ _ trivial (fun hHeld6 => ?_)
    clear hK K hHeld5
    refine wpAnyH_done (by kernel_rfl) ?_ _
    clear hHeld6
    go_wp2_with fail
    go_meet
    exact ⟨_, _, HFF.out⟩
   go_simp
   have hba : Below wd.heap.size wd (wd.alloc (.cells #[.string ⟨#[115, 112, 97, 114, 101]⟩] 9)) := (Below.refl _ _).alloc (Nat.le_refl _) _
   have HB34 : Hid (Below wd.heap.size wd (wd.alloc (.cells #[.string ⟨#[115, 112, 97, 114, 101]⟩] 9))) := hid (HSE.out.trans (hba.mono HSE.out.size))
   have HX34 : Hid (NamX (wd.alloc (.cells #[.string ⟨#[115, 112, 97, 114, 101]⟩] 9)) (.slice (some ⟨wd.heap.size, 0, none⟩) 1 1) [spareS]) := hid (NamX.one wd spareS)
   have hz34 : (wd.alloc (.cells #[.string ⟨#[115, 112, 97, 114, 101]⟩] 9)).heap.size = wd.heap.size + 1 := World.size_alloc _ _
   obtain ⟨G34, hG34⟩ : ∃ G, wd.heap.size = G := ⟨_, rfl⟩
   obtain ⟨w34, hw34⟩ : ∃ X, wd.alloc (.cells #[.string ⟨#[115, 112, 97, 114, 101]⟩] 9) = X := ⟨_, rfl⟩
   rw [hw34] at HB34 HX34 ⊢
   rw [hG34] at HX34 ⊢
   rw [hw34, hG34] at hz34
   have HZ34 : Hid (G34 < w34.heap.size) := hid (by omega)
   clear hba hw34 hG34 hz34
   refine hK.out _ _ (HMK.out _ HB34.out) (fun hHeld1 => ?_)
   clear hK K hHeld0
   refine heldT_step 0 rfl (fun K hK => ?_)
   refine oper_build0N rfl ?_
   have HB30 : Hid (Below wd.heap.size wd (w34.alloc (.cells #[] 9))) := hid (HB34.out.trans (((Below.refl _ _).alloc (Nat.le_refl _) _).mono HB34.out.size))
   have HX30 := hid (HX34.out.below (((Below.refl w34.heap.size w34).alloc (Nat.le_refl _) (.cells #[] 9))))
   obtain ⟨G30, hG30⟩ : ∃ G, w34.heap.size = G := ⟨_, rfl⟩
   have HN30 : Hid (NamV (w34.alloc (.cells #[] 9)) wd.heap.size (.slice (some ⟨G30, 0, none⟩) 0 0) []) := hid (by rw [← hG30]; exact namV_empty _ _ HB34.out.size)
   obtain ⟨w30, hw30⟩ : ∃ X, w34.alloc (.cells #[] 9) = X := ⟨_, rfl⟩
   rw [hG30]
   rw [hw30] at HB30 HN30 ⊢
   rw [hw30] at HX30
   have HNE : Hid (G34 ≠ G30) := hid (by have := HZ34.out; omega)
   clear hw30 hG30
   try simp only [Act.put, List.setIfInBounds_toArray, List.set_cons_zero, List.set_cons_succ]
   refine hK.out _ _ (HMK.out _ HB30.out) (fun hHeld2 => ?_)
   clear hK K hHeld1
   refine heldT_step 3 rfl (fun K hK => ?_)
   refine oper_append_namS _ _ rfl wd.heap.size (.slice (some ⟨G30, 0, none⟩) 0 0) (.slice q1 ns.length e1) [] ns rfl HN30.out rfl (HN0.out.below (HBX.out.trans (HB30.out.mono HBX.out.size))) ?ha4 HB30.out.size (fun v33 w33 h1 h2 h3 => ?_)
   case ha4 => have := HZN.out; rw [List.length_nil]; omega
   rw [List.nil_append] at h1
   have HB33 : Hid (Below wd.heap.size wd w33) := hid (HB30.out.grown h2 HB30.out.size (fun k hk => (World.ownsRow.lt HN30.out k hk).1))
   have HN33 := hid h1
   have HX33 := hid (HX30.out.grown h2 (fun e => HNE.out (by cases e; rfl)))
   clear h1 h2 h3
   try simp only [Act.put, List.setIfInBounds_toArray, List.set_cons_zero, List.set_cons_succ]
   refine hK.out _ _ (HMK.out _ HB33.out) (fun hHeld3 => ?_)
   clear hK K hHeld2
   refine heldT_step 5 rfl (fun K hK => ?_)
   refine oper_append_names _ _ rfl wd.heap.size v33 _ ns [spareS] rfl HN33.out rfl HX33.out ?ha5 HB33.out.size (fun v35 w35 h1 h2 h3 => ?_)
   case ha5 => have := HZN.out; rw [List.length_singleton]; omega
   have HB35 : Hid (Below wd.heap.size wd w35) := hid (HB33.out.grown h2 HB33.out.size (fun k hk => (World.ownsRow.lt HN33.out k hk).1))
   obtain ⟨gq, cq, hvq⟩ : ∃ gq cq, v35 = .slice (some ⟨gq, 0, none⟩) (ns.length + 1) cq := by
    rcases h1.2 with ⟨_, h9⟩ | ⟨g9, c9, _, e9, _⟩
    ·simp at h9
    exact ⟨g9, c9, by rw [e9, List.length_append]; rfl⟩
   subst hvq
   have HCQ : Hid (ns.length + 1 ≤ cq) := hid (by
    rcases h1.2 with ⟨h9, _⟩ | ⟨g9, c9, _, e9, _, _, h9, _⟩
    ·cases h9
    injection e9 with _ _ e9; subst e9; simpa using h9)
   have HF : KcF w (w35.setCell ⟨g, 7, none⟩ (.slice (some ⟨gq, 0, none⟩) ns.length cq)) g (J.mk k b n t l ns, Value.slice (some ⟨gl, 0, none⟩) rs.length cn, Value.slice (some ⟨gq, 0, none⟩) ns.length cq) := kce_whole HR1.out HED.out HRM.out HB35.out h1
   have HFF := hid HF
   have HOC := hid (HED.out.below HB35.out).v
   have k7 := HCE.out _ HOC.out
   have f7 := HOC.out.free 7
   clear HF h1 h2 h3
   try simp only [Act.put, List.setIfInBounds_toArray, List.set_cons_zero, List.set_cons_succ]
   refine hK.out _ _ (HMK.out _ HB35.out) (fun hHeld4 => ?_)
   clear hK K hHeld3
   refine heldT_tv 9 (.slice (some ⟨gq, 0, none⟩) ns.length cq) rfl (fun wq hSq => by rw [← sliced_lo gq ns.length cq 1 (by have := HCQ.out; omega)]; exact exec_slice_h _ _ rfl und_names (size_str _) rfl rfl (by have := HCQ.out; omega)) hHeld4 ?_
   refine heldT_ta 10 hHeld4 ?_
   refine heldT_late ?_
   clear hHeld4
   have hHeld5 : True := trivial
   refine held_st 11 rfl (fun K hK => ?_)
   go_simp
   refine hK.out _ _ trivial (fun hHeld6 => ?_)
   clear hK K hHeld5
   refine wpAnyH_done (by kernel_rfl) ?_ _
   clear hHeld6
   go_wp2_with fail
   go_meet
   exact ⟨_, _, HFF.out⟩
  obtain ⟨gq, cq, hff⟩ := hcut
  have HFF := hid hff
  clear hff HE
  obtain ⟨RX, hRX⟩ : ∃ R : JR, ((J.mk k b n t l ns, Value.slice (some ⟨gl, 0, none⟩) rs.length cn, Value.slice (some ⟨gq, 0, none⟩) ns.length cq) : JR) = R := ⟨_, rfl⟩
  have HRX : Hid (RX = (J.mk k b n t l ns, Value.slice (some ⟨gl, 0, none⟩) rs.length cn, Value.slice (some ⟨gq, 0, none⟩) ns.length cq)) := hid hRX.symm
  have HSX : Hid (SlJ RX) := hid (by rw [← hRX]; exact ⟨rfl, rfl⟩)
  rw [hRX] at HFF
  clear hRX
  go_wp2_with (first | with_reducible refine stop_ret ?_ | refine wpList_loadJ rfl _ rfl RX HFF.out.v rfl ?_ | (refine wpList_storeJ rfl _ _ rfl rfl HFF.out.res rfl RX HSX.out rfl rfl ?_; intro wS hSx))
  refine hid ?_
  refine bodyPost_retJ RX rfl rfl rfl hSx.row ?_
  exact ⟨_, _, by rw [HRX.out], by rw [← HRX.out]; exact (HFF.out.whole.apart hSx.apart (fun k hk _ e => by omega)).mono (fun k _ hk => by have := HG0.out; omega), hSx.below HFF.out.be (by have := HG0.out; omega) HFF.out.be.size⟩
end Go.Proofs.YtfclfaidmipjpaaGreatDoor
