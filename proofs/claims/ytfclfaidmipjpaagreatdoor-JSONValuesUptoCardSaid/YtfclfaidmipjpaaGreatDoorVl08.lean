/- Texts of this claim, joined: Apl, Psz, Pot, Rsl. -/
import Derived.Test.YtfclfaidmipjpaaGreatDoorVl02
namespace Go.Proofs.YtfclfaidmipjpaaGreatDoor
set_option maxRecDepth 100000
set_option maxHeartbeats 20000000
open Go.RowKit
theorem grown_refl (w : World) (r : Option Nat) : w.grownBy w r := ⟨rfl, rfl, rfl, Nat.le_refl _, fun _ _ _ => rfl⟩
def NamX (w : World) (u : Value) (ms : List (List UInt8)) : Prop :=
 (u = .slice none 0 0 ∧ ms = []) ∨ ∃ g off cap, u = .slice (some ⟨g, off, none⟩) ms.length cap ∧ ∀ i s, ms[i]? = some s → w.cell? ⟨g, off + i, none⟩ = some (.string ⟨s.toArray⟩)
def JsX (w : World) (u : Value) (qs : List JR) : Prop :=
 (u = .slice none 0 0 ∧ qs = []) ∨ ∃ g off cap, u = .slice (some ⟨g, off, none⟩) qs.length cap ∧ ∀ i q, qs[i]? = some q → w.rangeAt g (off + i * 8) (jcells q)
theorem NamX.one (w : World) (n : List UInt8) : NamX (w.alloc (.cells #[.string ⟨n.toArray⟩] 9)) (.slice (some ⟨w.heap.size, 0, none⟩) 1 1) [n] := by
 refine .inr ⟨w.heap.size, 0, 1, rfl, fun i s hi => ?_⟩
 cases i with
 | zero =>
  simp only [List.getElem?_cons_zero, Option.some.injEq] at hi
  subst hi
  rw [World.cell?_alloc_at _ _ _ _ rfl]; rfl
 | succ i => simp at hi
theorem exec_slice_h {w : World} {a : Act} {o : Oper} {t : TypeId} (x y : Operand) (ho : o.op = .slice t x none (some y) none) {p : Option Addr} {n cap at' s : Nat} (ht : Tryz.prog.underlying t = some (.slice (Tryz.prog.elem t))) (hs : (sizeOf (Tryz.prog.elem t)).run Tryz.prog w = .ok s w)
  (hx : a.eval x = .slice p n cap) (hy : a.eval y = .int .i64 (at' : Int)) (h : at' ≤ cap) : (execOp a.eval o).run Tryz.prog w = .ok (.value (sliced p 0 at' cap s)) w := by
 have hr := run_slice_h (P := Tryz.prog) (w := w) t p n cap ht .i64 (at' : Int) (by omega) (by omega)
 have hr2 := run_sliceAt_slice (P := Tryz.prog) (w := w) t (.slice p n cap) none (some (.int .i64 (at' : Int))) none ht
 rw [hr, hs] at hr2
 simp [execOp, ho, hx, hy, hr2, Result.andThen]
theorem exec_slice_l {w : World} {a : Act} {o : Oper} {t : TypeId} (x y : Operand) (ho : o.op = .slice t x (some y) none none) {p : Option Addr} {n cap at' s : Nat} (ht : Tryz.prog.underlying t = some (.slice (Tryz.prog.elem t))) (hs : (sizeOf (Tryz.prog.elem t)).run Tryz.prog w = .ok s w)
  (hx : a.eval x = .slice p n cap) (hy : a.eval y = .int .i64 (at' : Int)) (h : at' ≤ n) : (execOp a.eval o).run Tryz.prog w = .ok (.value (sliced p at' n cap s)) w := by
 have hr := run_slice_l (P := Tryz.prog) (w := w) t p n cap ht .i64 (at' : Int) (by omega) (by omega)
 have hr2 := run_sliceAt_slice (P := Tryz.prog) (w := w) t (.slice p n cap) (some (.int .i64 (at' : Int))) none none ht
 rw [hr, hs] at hr2
 simp [execOp, ho, hx, hy, hr2, Result.andThen]
theorem NamV.lo {w : World} {B : Nat} {p : Option Addr} {n cap : Nat} {ns : List (List UInt8)} (h : NamV w B (.slice p n cap) ns) {at' : Nat} (ha : at' ≤ ns.length) : NamX w (sliced p 0 at' cap 1) (ns.take at') := by
 have h0 := h
 rcases h.2 with ⟨hn, h2⟩ | ⟨g, cap', cur, hv, h1, hgg, h3, h4, h5, h6⟩
 ·injection hn with e1 e2 e3
  subst e1 e2 e3
  obtain rfl : ns = [] := List.length_eq_zero_iff.1 h2
  obtain rfl : at' = 0 := by simpa using ha
  exact .inl ⟨rfl, by simp⟩
 injection hv with e1 e2 e3
 subst e1 e2 e3
 refine .inr ⟨g, 0, cap, ?_, fun i s hi => ?_⟩
 ·unfold sliced
  rw [List.length_take, Nat.min_eq_left ha]
  split
  ·rfl
  simp [Addr.add]
 have hil : i < at' := by have := (List.getElem?_eq_some_iff.1 hi).1; rw [List.length_take] at this; omega
 rw [List.getElem?_take_of_lt hil] at hi
 rw [Nat.zero_add, World.ownsRow.cellAt h0 i (by have := (List.getElem?_eq_some_iff.1 hi).1; omega)]
 unfold txts
 rw [List.getElem?_map, hi]; rfl
theorem NamV.hi {w : World} {B : Nat} {p : Option Addr} {n cap : Nat} {ns : List (List UInt8)} (h : NamV w B (.slice p n cap) ns) {at' : Nat} (ha : at' ≤ ns.length) : NamX w (sliced p at' n cap 1) (ns.drop at') := by
 have h0 := h
 rcases h.2 with ⟨hn, h2⟩ | ⟨g, cap', cur, hv, h1, hgg, h3, h4, h5, h6⟩
 ·injection hn with e1 e2 e3
  subst e1 e2 e3
  obtain rfl : ns = [] := List.length_eq_zero_iff.1 h2
  obtain rfl : at' = 0 := by simpa using ha
  exact .inl ⟨rfl, by simp⟩
 injection hv with e1 e2 e3
 subst e1 e2 e3
 by_cases hc : cap = at'
 ·subst hc
  have hd : ns.drop cap = [] := List.drop_of_length_le (by omega)
  rw [hd]
  refine .inr ⟨g, 0, cap - cap, ?_, fun i s hi => by simp at hi⟩
  unfold sliced
  rw [if_pos rfl, show ns.length - cap = 0 by omega]; rfl
 refine .inr ⟨g, at', cap - at', ?_, fun i s hi => ?_⟩
 ·unfold sliced
  rw [if_neg hc, List.length_drop, Nat.mul_one]
  simp only [Option.map_some]
  rw [addr_off rfl, Nat.zero_add]
 rw [List.getElem?_drop] at hi
 rw [World.ownsRow.cellAt h0 (at' + i) (by have := (List.getElem?_eq_some_iff.1 hi).1; omega)]
 unfold txts
 rw [List.getElem?_map, hi]; rfl
theorem JsV.lo {w : World} {B : Nat} {S : Nat → Prop} {p : Option Addr} {n cap : Nat} {rs : List JR} (h : JsV w B S (.slice p n cap) rs) {at' : Nat} (ha : at' ≤ rs.length) : JsX w (sliced p 0 at' cap 8) (rs.take at') := by
 have h0 := h.row
 rcases h.row.2 with ⟨hn, h2⟩ | ⟨g, cap', cur, hv, h1, hgg, h3, h4, h5, h6⟩
 ·injection hn with e1 e2 e3
  subst e1 e2 e3
  obtain rfl : rs = [] := List.length_eq_zero_iff.1 h2
  obtain rfl : at' = 0 := by simpa using ha
  exact .inl ⟨rfl, by simp⟩
 injection hv with e1 e2 e3
 subst e1 e2 e3
 refine .inr ⟨g, 0, cap, ?_, fun i q hi c v hc => ?_⟩
 ·unfold sliced
  rw [List.length_take, Nat.min_eq_left ha]
  split
  ·rfl
  simp [Addr.add]
 have hil : i < at' := by have := (List.getElem?_eq_some_iff.1 hi).1; rw [List.length_take] at this; omega
 rw [List.getElem?_take_of_lt hil] at hi
 have hc8 : c < 8 := (List.getElem?_eq_some_iff.1 hc).1
 have hir := (List.getElem?_eq_some_iff.1 hi).1
 rw [Nat.zero_add, World.ownsRow.cellAt h0 (i * 8 + c) (by omega), jrow_at rs i q hi c hc8]
 exact hc
theorem JsV.hi {w : World} {B : Nat} {S : Nat → Prop} {p : Option Addr} {n cap : Nat} {rs : List JR} (h : JsV w B S (.slice p n cap) rs) {at' : Nat} (ha : at' ≤ rs.length) : JsX w (sliced p at' n cap 8) (rs.drop at') := by
 have h0 := h.row
 rcases h.row.2 with ⟨hn, h2⟩ | ⟨g, cap', cur, hv, h1, hgg, h3, h4, h5, h6⟩
 ·injection hn with e1 e2 e3
  subst e1 e2 e3
  obtain rfl : rs = [] := List.length_eq_zero_iff.1 h2
  obtain rfl : at' = 0 := by simpa using ha
  exact .inl ⟨rfl, by simp⟩
 injection hv with e1 e2 e3
 subst e1 e2 e3
 by_cases hc : cap = at'
 ·subst hc
  have hd : rs.drop cap = [] := List.drop_of_length_le (by omega)
  rw [hd]
  refine .inr ⟨g, 0, cap - cap, ?_, fun i s hi => by simp at hi⟩
  unfold sliced
  rw [if_pos rfl, show rs.length - cap = 0 by omega]; rfl
 refine .inr ⟨g, at' * 8, cap - at', ?_, fun i q hi c v hcv => ?_⟩
 ·unfold sliced
  rw [if_neg hc, List.length_drop]
  simp only [Option.map_some]
  rw [addr_off rfl, Nat.zero_add]
 rw [List.getElem?_drop] at hi
 have hc8 : c < 8 := (List.getElem?_eq_some_iff.1 hcv).1
 have hir := (List.getElem?_eq_some_iff.1 hi).1
 rw [show at' * 8 + i * 8 + c = (at' + i) * 8 + c by omega, World.ownsRow.cellAt h0 ((at' + i) * 8 + c) (by omega), jrow_at rs (at' + i) q hi c hc8]
 exact hcv
theorem run_append_names (w : World) (ty : TypeId) {B : Nat} {v : Value} {ns : List (List UInt8)} (hv : NamV w B v ns) {u : Value} {ms : List (List UInt8)} (hu : NamX w u ms) (hlen : ns.length + ms.length ≤ 100000002) (hB : B ≤ w.heap.size) :
  ∃ v' w', (Builtin.append_ #[28, 28] ty #[v, u]).run Tryz.prog w = .ok v' w' ∧ NamV w' B v' (ns ++ ms) ∧ w.grownBy w' v.ownBlock ∧ ∀ k, v'.ownBlock = some k → v.ownBlock = some k ∨ w.heap.size ≤ k := by
 obtain ⟨i0, hi, hz0, hz1, hz2⟩ := info_parts Tryz.info9
 rcases hu with ⟨rfl, rfl⟩ | ⟨g, off, cap, rfl, hc⟩
 ·exact ⟨v, w, run_append_owned_none (P := Tryz.prog) w B 28 ty 9 i0 1 Tryz.underlying28 hi v ns.length (txts ns) hv, by rw [List.append_nil]; exact hv, grown_refl _ _, fun k hk => .inl hk⟩
 ·have hcs : ∀ (j : Nat) x, (txts ms)[j]? = some x → w.cell? ((⟨g, off, none⟩ : Addr).add j) = some x := by
   intro j x hj
   unfold txts at hj
   rw [List.getElem?_map] at hj
   cases hs : ms[j]? with
   | none => rw [hs] at hj; cases hj
   | some s =>
    rw [hs] at hj
    cases hj
    rw [addr_off rfl]
    exact hc j s hs
  have hone : ∀ x ∈ txts ms, x.oneCell' = true := by
   intro x hx
   obtain ⟨s, _, rfl⟩ := List.mem_map.1 hx
   rfl
  have hl : (txts ms).length = ms.length * 1 := by simp [txts]
  obtain ⟨v', w', h1, h2, h3, _⟩ := run_append_own (P := Tryz.prog) w B 28 ty 9 i0 _ 1 16 Tryz.underlying28 hi hz0 hz1 hz2 rfl (by decide) v ns.length (txts ns) hv ⟨g, off, none⟩ ms.length cap (txts ms) hl hcs hone (by unfold maxLen; omega) (by omega) hB
  have h4 := append_fresh Tryz.underlying28 hi hz0 hz1 hz2 rfl (by decide) hv hl hcs hone (by unfold maxLen; omega) (by omega) h1
  refine ⟨v', w', h1, ?_, h3, h4⟩
  unfold NamV
  rw [List.length_append, show txts (ns ++ ms) = txts ns ++ txts ms by simp [txts]]
  exact h2
theorem jrow_in (qs : List JR) {j : Nat} {x : Value} (h : (jrow qs)[j]? = some x) : ∃ q, qs[j / 8]? = some q ∧ (jcells q)[j % 8]? = some x := by
 have hj := (List.getElem?_eq_some_iff.1 h).1
 rw [jrow_len] at hj
 have hi : j / 8 < qs.length := by omega
 refine ⟨qs[j / 8], List.getElem?_eq_getElem hi, ?_⟩
 rw [← jrow_at qs (j / 8) _ (List.getElem?_eq_getElem hi) (j % 8) (by omega), show j / 8 * 8 + j % 8 = j by omega]
 exact h
theorem run_append_jsons (w : World) (ty : TypeId) {B : Nat} {S : Nat → Prop} {v : Value} {rs : List JR} (hv : JsV w B S v rs) {u : Value} {qs : List JR} (hu : JsX w u qs) (hq : ∀ q ∈ qs, JV w (fun k => S k ∧ v.ownBlock ≠ some k) q) (hlen : rs.length + qs.length ≤ 100000002) (hB : B ≤ w.heap.size) :
  ∃ v' w', (Builtin.append_ #[27, 27] ty #[v, u]).run Tryz.prog w = .ok v' w' ∧ JsV w' B S v' (rs ++ qs) ∧ w.grownBy w' v.ownBlock ∧ ∀ k, v'.ownBlock = some k → v.ownBlock = some k ∨ w.heap.size ≤ k := by
 obtain ⟨i0, hi, hz0, hz1, hz2⟩ := info_parts Tryz.info30
 rcases hu with ⟨rfl, rfl⟩ | ⟨g, off, cap, rfl, hc⟩
 ·exact ⟨v, w, run_append_owned_none (P := Tryz.prog) w B 27 ty 30 i0 8 Tryz.underlying27 hi v rs.length (jrow rs) hv.row, by rw [List.append_nil]; exact hv, grown_refl _ _, fun k hk => .inl hk⟩
 ·have hcs : ∀ (j : Nat) x, (jrow qs)[j]? = some x → w.cell? ((⟨g, off, none⟩ : Addr).add j) = some x := by
   intro j x hj
   obtain ⟨q, hq1, hq2⟩ := jrow_in qs hj
   rw [addr_off rfl, show off + j = off + j / 8 * 8 + j % 8 by omega]
   exact hc (j / 8) q hq1 (j % 8) x hq2
  have hone : ∀ x ∈ jrow qs, x.oneCell' = true := by
   intro x hx
   obtain ⟨q, hq1, hq2⟩ := List.mem_flatMap.1 hx
   exact (hq q hq1).one x hq2
  have hl : (jrow qs).length = qs.length * 8 := jrow_len qs
  obtain ⟨v', w', h1, h2, h3, _⟩ := run_append_own (P := Tryz.prog) w B 27 ty 30 i0 _ 8 112 Tryz.underlying27 hi hz0 hz1 hz2 rfl (by decide) v rs.length (jrow rs) hv.row ⟨g, off, none⟩ qs.length cap (jrow qs) hl hcs hone (by unfold maxLen; omega) (by omega) hB
  have h4 := append_fresh Tryz.underlying27 hi hz0 hz1 hz2 rfl (by decide) hv.row hl hcs hone (by unfold maxLen; omega) (by omega) h1
  refine ⟨v', w', h1, ⟨by rw [jrow_app, List.length_append]; exact h2, fun q hq9 => ?_⟩, h3, h4⟩
  have hq2 : JV w (fun k => S k ∧ v.ownBlock ≠ some k) q := by
   rcases List.mem_append.1 hq9 with h9 | h9
   ·exact hv.each q h9
   exact hq q h9
  have hq3 : JV w (fun k => (S k ∧ v.ownBlock ≠ some k) ∧ k < w.heap.size) q := hq2.mono (fun k hk hs => ⟨hs, hk⟩)
  have hq4 := hq3.apart (Apart.ofGrown (S := fun k => v.ownBlock = some k) h3 (fun k hk => hk)) (fun k hk _ h9 => hk.1.2 h9)
  refine hq4.mono (fun k _ hk => ⟨hk.1.1, fun h9 => ?_⟩)
  rcases h4 k h9 with h8 | h8
  ·exact hk.1.2 h8
  have := hk.2; omega
theorem oper_append_names {w : World} {o : Oper} {a : Act} {Q : Exit → Act → World → Prop} {K : Act → World → Prop} (s x : Operand)
  (ho : o.op = .call { callee := .builtin .append, args := #[s, x], argTypes := #[28, 28] })
  (B : Nat) (v u : Value) (ns ms : List (List UInt8)) (hs : a.eval s = v) (hv : NamV w B v ns) (hx : a.eval x = u) (hu : NamX w u ms) (hlen : ns.length + ms.length ≤ 100000002) (hB : B ≤ w.heap.size)
  (hK : ∀ v' w', NamV w' B v' (ns ++ ms) → w.grownBy w' v.ownBlock → (∀ k, v'.ownBlock = some k → v.ownBlock = some k ∨ w.heap.size ≤ k) → K (a.put o.dst v') w') : Oper.wp Tryz.prog o a w K Q := by
 obtain ⟨v', w', hrun, h1, h2, h3⟩ := run_append_names w o.type hv hu hlen hB
 unfold Oper.wp
 simp [execOp, ho, resolve, invoke, builtin, hs, hx, hrun, Result.andThen]
 exact hK _ _ h1 h2 h3
theorem oper_append_jsons {w : World} {o : Oper} {a : Act} {Q : Exit → Act → World → Prop} {K : Act → World → Prop} (s x : Operand)
  (ho : o.op = .call { callee := .builtin .append, args := #[s, x], argTypes := #[27, 27] })
  (B : Nat) (S : Nat → Prop) (v u : Value) (rs qs : List JR) (hs : a.eval s = v) (hv : JsV w B S v rs) (hx : a.eval x = u) (hu : JsX w u qs) (hq : ∀ q ∈ qs, JV w (fun k => S k ∧ v.ownBlock ≠ some k) q) (hlen : rs.length + qs.length ≤ 100000002) (hB : B ≤ w.heap.size)
  (hK : ∀ v' w', JsV w' B S v' (rs ++ qs) → w.grownBy w' v.ownBlock → (∀ k, v'.ownBlock = some k → v.ownBlock = some k ∨ w.heap.size ≤ k) → K (a.put o.dst v') w') : Oper.wp Tryz.prog o a w K Q := by
 obtain ⟨v', w', hrun, h1, h2, h3⟩ := run_append_jsons w o.type hv hu hq hlen hB
 unfold Oper.wp
 simp [execOp, ho, resolve, invoke, builtin, hs, hx, hrun, Result.andThen]
 exact hK _ _ h1 h2 h3
theorem textA_ge (d : Dec) : d.digits.length ≤ (textA d).length ∧ 1 ≤ (textA d).length := by
 unfold textA
 split
 ·rename_i h; rw [h]; simp
 rename_i h0
 split
 ·simp only [List.length_append, List.length_replicate]; omega
 split
 ·rename_i _ h
  simp only [List.length_append, List.length_cons, List.length_take, List.length_drop]; omega
 split
 ·simp only [List.length_append, List.length_cons, List.length_replicate]; omega
 split
 ·simp only [List.length_append, List.length_cons, List.length_take, List.length_drop]; omega
 simp only [List.length_append, List.length_cons]; omega
theorem textS_ge {d : Dec} (h : mayB d = true) : d.digits.length + 1 ≤ 2 * (textS d).1.length := by
 unfold textS textT
 rw [if_pos h]
 have := textA_ge d
 split
 ·show _ ≤ 2 * (45 :: textA d).length; simp only [List.length_cons]; omega
 show _ ≤ 2 * (textA d).length; omega
theorem quoS_ge (s : List UInt8) : s.length ≤ (quoS s).length := by
 induction s with
 | nil => simp
 | cons c s ih =>
  show (c :: s).length ≤ (quoB c ++ quoS s).length
  have := (quoB_len c).1
  rw [List.length_append, List.length_cons]; omega
theorem quoT_ge (s : List UInt8) : s.length + 2 ≤ (quoT s).length := by
 show s.length + 2 ≤ (34 :: quoS s ++ [34]).length
 have := quoS_ge s
 simp only [List.length_append, List.length_cons, List.length_nil]; omega
theorem szN_lenN (ns : List (List UInt8)) : szN ns ≤ lenN ns := by
 induction ns with
 | nil => simp [szN, lenN]
 | cons u ns ih =>
  simp only [szN, lenN, List.map_cons, List.sum_cons] at ih ⊢
  have := quoT_ge u
  omega
mutual
theorem sz_told : (v : J) → goodJ v = true → szJ v ≤ 2 * (toldJ v).length
 | .mk k b n t l ns, h => by
  obtain ⟨_, h2, h3, h4, h5, _, h7, h8, h9⟩ := good_head h
  have hl := sz_toldL l h8
  simp only [szJ]
  by_cases k2 : k = 2
  ·subst k2
   obtain rfl : l = [] := by rcases h4 with g | g | g <;> first | exact g | exact absurd g (by decide)
   obtain rfl : ns = [] := by rcases h5 with g | g <;> first | exact g | exact absurd g (by decide)
   obtain rfl : t = [] := by rcases h3 with g | g <;> first | exact g | exact absurd g (by decide)
   have := textS_ge h7
   simp only [toldJ]
   simp [szN, szL]
   omega
  obtain rfl : n = Dec.zero := h2.resolve_left k2
  by_cases k3 : k = 3
  ·subst k3
   obtain rfl : l = [] := by rcases h4 with g | g | g <;> first | exact g | exact absurd g (by decide)
   obtain rfl : ns = [] := by rcases h5 with g | g <;> first | exact g | exact absurd g (by decide)
   have := quoT_ge t
   simp only [toldJ]
   simp [szN, szL, Dec.zero]
   omega
  obtain rfl : t = [] := h3.resolve_left k3
  by_cases k4 : k = 4 ∨ k = 5
  ·have h1 := toldL_len l (decide (k = 5)) true ns (fun e => by
    rcases h9 with g | g | g | g | g | g
    iterate 5 (have := of_decide_eq_true e; omega)
    exact g.2.1)
   have hN : szN ns ≤ (if decide (k = 5) = true then lenN ns else 0) := by
    by_cases e : k = 5
    ·rw [if_pos (decide_eq_true e)]; exact szN_lenN ns
    rw [h5.resolve_left e]; simp [szN]
   simp only [toldJ]
   rw [if_neg (by omega), if_neg (by omega), if_neg k2, if_neg k3]
   simp only [List.length_append]
   have e1 : (if k = 5 then ([123] : List UInt8) else [91]).length = 1 := by split <;> rfl
   have e2 : (if k = 5 then ([125] : List UInt8) else [93]).length = 1 := by split <;> rfl
   rw [e1, e2]
   simp only [Dec.zero, List.length_nil]
   have e3 : (if (true = true) ∧ l ≠ [] then 1 else 0) ≤ 1 := by split <;> omega
   omega
  obtain rfl : l = [] := by
   rcases h4 with g | g | g
   ·exact absurd (.inl g) k4
   ·exact absurd (.inr g) k4
   exact g
  obtain rfl : ns = [] := h5.resolve_left (fun e => k4 (.inr e))
  have hk : k = 0 ∨ k = 1 := by
   rcases h9 with g | g | g | g | g | g
   ·exact .inl g
   ·exact .inr g
   ·exact absurd g k2
   ·exact absurd g k3
   ·exact absurd (.inl g) k4
   exact absurd (.inr g.1) k4
  rcases hk with rfl | rfl
  ·simp [toldJ, szN, szL, Dec.zero, wNul]
  cases b <;> simp [toldJ, szN, szL, Dec.zero, boolS]
theorem sz_toldL : (l : List J) → goodL l = true → szL l + 2 * l.length ≤ 2 * lenL l
 | [], _ => by simp [szL, lenL]
 | x :: l, h => by
  rw [goodL, Bool.and_eq_true] at h
  have h1 := sz_told x h.1
  have h2 := sz_toldL l h.2
  have e : lenL (x :: l) = (toldJ x).length + 1 + lenL l := by simp [lenL]
  rw [e]
  simp only [szL, List.length_cons]
  omega
end
theorem chk_sz {v : J} (h : checkJ v = 0) : szJ v ≤ 20000000 := by
 obtain ⟨h1, _, h3⟩ := checkJ_zero.1 h
 have := sz_told v h1
 omega
theorem sort_check {v : J} (h : checkJ v = 0) : checkJ (sortJ v) = 0 := by
 obtain ⟨h1, h2, h3⟩ := checkJ_zero.1 h
 exact checkJ_zero.2 ⟨sort_good v h1, by rw [sort_deep v h1]; exact h2, by rw [sort_len v h1]; exact h3⟩
theorem sorted_eq {v : J} (h : checkJ v = 0) : sortedV v = sortJ v := by rw [sortedV, if_pos h]
theorem print_eq {v : J} (h : checkJ v = 0) : printJ v = toldJ v := by rw [printJ, if_pos h]
theorem bytes_beq (a b : List UInt8) : ((⟨a.toArray⟩ : ByteArray) == ⟨b.toArray⟩) = decide (a = b) := by
 show (a.toArray == b.toArray) = _
 by_cases h : a = b
 ·subst h; simp
 rw [decide_eq_false h, beq_eq_false_iff_ne]
 intro e
 exact h (by simpa using e)
open Go.RowKit
section
variable {α : Type}
theorem insAll_snoc (s : List UInt8) (x : α) : ∀ (ns : List (List UInt8)) (l : List α) (ms : List (List UInt8)) (m : List α), ns.length = l.length → insAll (ns ++ [s]) (l ++ [x]) ms m = (insN s (insAll ns l ms m).1, insP s x (insAll ns l ms m).1 (insAll ns l ms m).2)
 | [], [], ms, m, _ => by simp [insAll]
 | a :: ns, b :: l, ms, m, h => by
  rw [List.cons_append, List.cons_append, insAll, insAll]
  exact insAll_snoc s x ns l _ _ (by simpa using h)
 | [], _ :: _, _, _, h => by simp at h
 | _ :: _, [], _, _, h => by simp at h
end
def srS (k : Int) (l : List J) (ns : List (List UInt8)) (i : Nat) : List (List UInt8) × List J := if k = 5 then insAll (ns.take i) ((sortL l).take i) [] [] else ([], (sortL l).take i)
theorem srS_zero (k : Int) (l : List J) (ns : List (List UInt8)) : srS k l ns 0 = ([], []) := by
 unfold srS
 split <;> simp [insAll]
theorem srS_five {l : List J} {ns : List (List UInt8)} {i : Nat} {x : J} {s : List UInt8} (hx : l[i]? = some x) (hs : ns[i]? = some s) :
  srS 5 l ns (i + 1) = (insN s (srS 5 l ns i).1, insP s (sortJ x) (srS 5 l ns i).1 (srS 5 l ns i).2) := by
 have h1 := (List.getElem?_eq_some_iff.1 hx).1
 have h2 := (List.getElem?_eq_some_iff.1 hs).1
 unfold srS
 rw [if_pos rfl, if_pos rfl, List.take_add_one, List.take_add_one, hs, show (sortL l)[i]? = some (sortJ x) by rw [sortL_map, List.getElem?_map, hx]; rfl]
 exact insAll_snoc s (sortJ x) _ _ _ _ (by rw [List.length_take, List.length_take, sortL_len]; omega)
theorem srS_other {k : Int} (hk : k ≠ 5) {l : List J} {ns : List (List UInt8)} {i : Nat} {x : J} (hx : l[i]? = some x) : srS k l ns (i + 1) = ([], (srS k l ns i).2 ++ [sortJ x]) := by
 unfold srS
 rw [if_neg hk, if_neg hk, List.take_add_one, show (sortL l)[i]? = some (sortJ x) by rw [sortL_map, List.getElem?_map, hx]; rfl]
 rfl
theorem srS_other1 {k : Int} (hk : k ≠ 5) (l : List J) (ns : List (List UInt8)) (i : Nat) : (srS k l ns i).1 = [] := by unfold srS; rw [if_neg hk]
theorem srS_len {k : Int} {l : List J} {ns : List (List UInt8)} (h5 : k = 5 → ns.length = l.length) : ∀ i, i ≤ l.length → (srS k l ns i).2.length = i ∧ (k = 5 → (srS k l ns i).1.length = i) := by
 intro i
 induction i with
 | zero => intro _; rw [srS_zero]; simp
 | succ i ih =>
  intro hi
  obtain ⟨h1, h2⟩ := ih (by omega)
  obtain ⟨x, hx⟩ : ∃ x, l[i]? = some x := ⟨_, List.getElem?_eq_getElem (by omega)⟩
  by_cases hk : k = 5
  ·subst hk
   obtain ⟨s, hs⟩ : ∃ s, ns[i]? = some s := ⟨_, List.getElem?_eq_getElem (by rw [h5 rfl]; omega)⟩
   rw [srS_five hx hs]
   have h3 := h2 rfl
   exact ⟨by rw [insP_len _ _ _ _ (by rw [h1, h3]), h1], fun _ => by rw [insN_len, h3]⟩
  rw [srS_other hk hx]
  exact ⟨by rw [List.length_append, h1]; rfl, fun e => absurd e hk⟩
theorem srS_end {k : Int} {b : Bool} {n : Dec} {t : List UInt8} {l : List J} {ns : List (List UInt8)} (h : goodJ (.mk k b n t l ns) = true) : J.mk k b n t (srS k l ns l.length).2 (srS k l ns l.length).1 = sortJ (.mk k b n t l ns) := by
 obtain ⟨_, _, _, _, h5, _, _, _, h9⟩ := good_head h
 rw [sortJ]
 unfold srS
 by_cases hk : k = 5
 ·have hg : ns.length = l.length ∧ unlikeB ns = true := by
   rcases h9 with g | g | g | g | g | g
   iterate 5 omega
   exact g.2
  rw [if_pos hk, if_pos hk, List.take_of_length_le (by omega), List.take_of_length_le (by rw [sortL_len]; exact Nat.le_refl _), insAll_ord J.zero (unlike_nodup hg.2) (by rw [sortL_len]; exact hg.1)]
 rw [if_neg hk, if_neg hk, List.take_of_length_le (by rw [sortL_len]; exact Nat.le_refl _), h5.resolve_left hk, srtN_nil]
theorem CopI.newN {w wr wX : World} {g x : Nat} {r1 : JR} {lv nv v' : Value} {rs : List JR} {ms ms' : List (List UInt8)} (h : CopI w wr g x r1 lv nv rs ms) (hb : Below wr.heap.size wr wX) (hn : NamV wX (g + 3) v' ms') (hf : ∀ k, v'.ownBlock = some k → wr.heap.size ≤ k) :
  CopI w (wX.setCell ⟨g + 2, 7, none⟩ v') g x r1 lv v' rs ms' := by
 have hs : Apart (fun k => k = g + 2) wX (wX.setCell ⟨g + 2, 7, none⟩ v') := Apart.set (S := fun k => k = g + 2) wX rfl _
 have h' := h.below hb
 have j1 : JsV wX (g + 3) (SepC g x v') lv rs := (h.js.mono (fun k hk hs => ⟨⟨hs.1.1, fun e => by have := hf k e; omega⟩, hs.2⟩)).below hb
 have hlo := h.lo
 refine ⟨h'.be.trans (hs.below h'.be.size (fun i hi e => by omega)), ?_, ?_, ?_, j1.apart hs (fun k hk e => by have := j1.lt hk; omega) (fun k hk _ e => by have := hk.1.1; omega), hn.apart hs (fun k hk _ e => by omega), hlo⟩
 ·exact h'.v.far (p := ⟨g + 2, 7, none⟩) (by show g + 2 ≠ g; omega) _
 ·exact h'.res.far (p := ⟨g + 2, 7, none⟩) (by show g + 2 ≠ g + 1; omega) _
 ·exact h'.out.set 7 _ (by simp [headC])
theorem CopI.newL {w wX : World} {g x : Nat} {r1 : JR} {lv nv v' : Value} {rs rs' : List JR} {ms : List (List UInt8)} (h : CopI w wX g x r1 lv nv rs ms) (hj : JsV wX (g + 3) (SepC g x nv) v' rs') :
  CopI w (wX.setCell ⟨g + 2, 6, none⟩ v') g x r1 v' nv rs' ms := by
 have hs : Apart (fun k => k = g + 2) wX (wX.setCell ⟨g + 2, 6, none⟩ v') := Apart.set (S := fun k => k = g + 2) wX rfl _
 have hlo := h.lo
 refine ⟨h.be.trans (hs.below h.be.size (fun i hi e => by omega)), ?_, ?_, ?_, hj.apart hs (fun k hk e => by have := hj.lt hk; omega) (fun k hk _ e => by have := hk.1.1; omega), h.nm.apart hs (fun k hk _ e => by omega), hlo⟩
 ·exact h.v.far (p := ⟨g + 2, 6, none⟩) (by show g + 2 ≠ g; omega) _
 ·exact h.res.far (p := ⟨g + 2, 6, none⟩) (by show g + 2 ≠ g + 1; omega) _
 ·exact h.out.set 6 _ (by simp [headC])
theorem wpList_append_names {w : World} {ops : Array Oper} {rest : List Oper} {o : Oper} {a : Act} {Q : Exit → Act → World → Prop} (hgd : o.guard = none) (s x : Operand)
  (ho : o.op = .call { callee := .builtin .append, args := #[s, x], argTypes := #[28, 28] })
  (B : Nat) (v u : Value) (ns ms : List (List UInt8)) (hs : a.eval s = v) (hv : NamV w B v ns) (hx : a.eval x = u) (hu : NamX w u ms) (hlen : ns.length + ms.length ≤ 100000002) (hB : B ≤ w.heap.size)
  (hK : ∀ v' w', NamV w' B v' (ns ++ ms) → w.grownBy w' v.ownBlock → (∀ k, v'.ownBlock = some k → v.ownBlock = some k ∨ w.heap.size ≤ k) → wpList Tryz.prog ops Q rest (a.put o.dst v') w') : wpList Tryz.prog ops Q (o :: rest) a w :=
 wpList_plain hgd fun _ hK' => oper_append_names s x ho B v u ns ms hs hv hx hu hlen hB (fun v' w' h1 h2 h3 => hK' _ _ (hK v' w' h1 h2 h3))
theorem wpList_append_jsons {w : World} {ops : Array Oper} {rest : List Oper} {o : Oper} {a : Act} {Q : Exit → Act → World → Prop} (hgd : o.guard = none) (s x : Operand)
  (ho : o.op = .call { callee := .builtin .append, args := #[s, x], argTypes := #[27, 27] })
  (B : Nat) (S : Nat → Prop) (v u : Value) (rs qs : List JR) (hs : a.eval s = v) (hv : JsV w B S v rs) (hx : a.eval x = u) (hu : JsX w u qs) (hq : ∀ q ∈ qs, JV w (fun k => S k ∧ v.ownBlock ≠ some k) q) (hlen : rs.length + qs.length ≤ 100000002) (hB : B ≤ w.heap.size)
  (hK : ∀ v' w', JsV w' B S v' (rs ++ qs) → w.grownBy w' v.ownBlock → (∀ k, v'.ownBlock = some k → v.ownBlock = some k ∨ w.heap.size ≤ k) → wpList Tryz.prog ops Q rest (a.put o.dst v') w') : wpList Tryz.prog ops Q (o :: rest) a w :=
 wpList_plain hgd fun _ hK' => oper_append_jsons s x ho B S v u rs qs hs hv hx hu hq hlen hB (fun v' w' h1 h2 h3 => hK' _ _ (hK v' w' h1 h2 h3))
theorem elem_names : Tryz.prog.elem 28 = 9 := by kernel_rfl
theorem elem_jsons : Tryz.prog.elem 27 = 30 := by kernel_rfl
theorem size_str (w : World) : (sizeOf (Tryz.prog.elem 28)).run Tryz.prog w = .ok 1 w := by
 obtain ⟨i0, hi, hz0, hz1, hz2⟩ := info_parts Tryz.info9
 rw [elem_names]
 simp [sizeOf, typeInfo, hi, hz1]
theorem size_json (w : World) : (sizeOf (Tryz.prog.elem 27)).run Tryz.prog w = .ok 8 w := by
 obtain ⟨i0, hi, hz0, hz1, hz2⟩ := info_parts Tryz.info30
 rw [elem_jsons]
 simp [sizeOf, typeInfo, hi, hz1]
theorem und_names : Tryz.prog.underlying 28 = some (.slice (Tryz.prog.elem 28)) := by rw [elem_names]; exact Tryz.underlying28
theorem und_jsons : Tryz.prog.underlying 27 = some (.slice (Tryz.prog.elem 27)) := by rw [elem_jsons]; exact Tryz.underlying27
theorem wpList_hiN {w : World} {ops : Array Oper} {rest : List Oper} {o : Oper} {a : Act} {Q : Exit → Act → World → Prop} (hgd : o.guard = none) (x y : Operand) (ho : o.op = .slice 28 x (some y) none none) {B : Nat} {p : Option Addr} {n cap at' : Nat} {ns : List (List UInt8)} (hv : NamV w B (.slice p n cap) ns) (hn : n = ns.length)
  (hx : a.eval x = .slice p n cap) (hy : a.eval y = .int .i64 (at' : Int)) (h : at' ≤ ns.length) (hK : ∀ u, NamX w u (ns.drop at') → wpList Tryz.prog ops Q rest (a.put o.dst u) w) : wpList Tryz.prog ops Q (o :: rest) a w := by
 refine wpList_plain hgd fun K hK' => ?_
 have hrun := exec_slice_l (w := w) x y ho und_names (size_str w) hx hy (by omega)
 unfold Oper.wp
 rw [hrun]
 simp only [Oper.upon]
 exact hK' _ _ (hK _ (hv.hi h))
theorem wpList_hiJ {w : World} {ops : Array Oper} {rest : List Oper} {o : Oper} {a : Act} {Q : Exit → Act → World → Prop} (hgd : o.guard = none) (x y : Operand) (ho : o.op = .slice 27 x (some y) none none) {B : Nat} {S : Nat → Prop} {p : Option Addr} {n cap at' : Nat} {rs : List JR} (hv : JsV w B S (.slice p n cap) rs) (hn : n = rs.length)
  (hx : a.eval x = .slice p n cap) (hy : a.eval y = .int .i64 (at' : Int)) (h : at' ≤ rs.length) (hK : ∀ u, JsX w u (rs.drop at') → wpList Tryz.prog ops Q rest (a.put o.dst u) w) : wpList Tryz.prog ops Q (o :: rest) a w := by
 refine wpList_plain hgd fun K hK' => ?_
 have hrun := exec_slice_l (w := w) x y ho und_jsons (size_json w) hx hy (by omega)
 unfold Oper.wp
 rw [hrun]
 simp only [Oper.upon]
 exact hK' _ _ (hK _ (hv.hi h))
theorem NamX.below {w w' : World} {u : Value} {ms : List (List UInt8)} (h : NamX w u ms) (hb : Below w.heap.size w w') : NamX w' u ms := by
 rcases h with h | ⟨g, off, cap, e, hc⟩
 ·exact .inl h
 exact .inr ⟨g, off, cap, e, fun i s hi => (hb.cell (p := ⟨g, off + i, none⟩) (World.block_lt_of_cell? _ _ (hc i s hi))).trans (hc i s hi)⟩
theorem JsX.below {w w' : World} {u : Value} {qs : List JR} (h : JsX w u qs) (hb : Below w.heap.size w w') : JsX w' u qs := by
 rcases h with h | ⟨g, off, cap, e, hc⟩
 ·exact .inl h
 exact .inr ⟨g, off, cap, e, fun i q hi c v hcv => (hb.cell (p := ⟨g, off + i * 8 + c, none⟩) (World.block_lt_of_cell? _ _ (hc i q hi c v hcv))).trans (hc i q hi c v hcv)⟩
def goB (s : List UInt8) (ms : List (List UInt8)) (m : Nat) : Bool := decide (0 < m) && decide (s < ms.getD (m - 1) [])
theorem goB_no {s : List UInt8} {ms : List (List UInt8)} {m : Nat} (h : goB s ms m = false) : posR s ms m = m := by
 cases m with
 | zero => rfl
 | succ m =>
  have h2 : ¬ s < ms.getD m [] := by
   intro e
   rw [goB, decide_eq_true (by omega : 0 < m + 1), show m + 1 - 1 = m from rfl, decide_eq_true e] at h
   cases h
  unfold posR
  rw [if_neg h2]
theorem goB_yes {s : List UInt8} {ms : List (List UInt8)} {m : Nat} (h : goB s ms m = true) : ∃ m1, m = m1 + 1 ∧ posR s ms m = posR s ms m1 := by
 cases m with
 | zero => simp [goB] at h
 | succ m =>
  rw [goB, Bool.and_eq_true, decide_eq_true_iff, decide_eq_true_iff] at h
  refine ⟨m, rfl, ?_⟩
  have h2 : s < ms.getD m [] := h.2
  rw [posR, if_pos h2]
end Go.Proofs.YtfclfaidmipjpaaGreatDoor
