/- Texts of this claim, joined: Zap, Kvl, Apl, Pot, Rsl. -/
import Derived.Test.YtfclfaidmipjpaaGreatDoorCo25
import Derived.Test.YtfclfaidmipjpaaGreatDoorPa01
namespace Go.Proofs.YtfclfaidmipjpaaGreatDoor
set_option maxRecDepth 100000
set_option maxHeartbeats 20000000
open Go.RowKit
def jneg : JR := (.mk (-3) false Dec.zero [] [] [], .slice none 0 0, .slice none 0 0)
def Typ (w : World) (g : Nat) (t : TypeId) : Prop := ∃ cur, w.heap[g]? = some (.cells cur t (0, 0))
theorem Typ.heap {w w' : World} {g : Nat} {t : TypeId} (h : Typ w g t) (e : w'.heap[g]? = w.heap[g]?) : Typ w' g t := by obtain ⟨c, hc⟩ := h; exact ⟨c, e.trans hc⟩
theorem Typ.lt {w : World} {g : Nat} {t : TypeId} (h : Typ w g t) : g < w.heap.size := by obtain ⟨c, hc⟩ := h; exact (Array.getElem?_eq_some_iff.1 hc).1
theorem Typ.free {w : World} {g : Nat} {t : TypeId} (h : Typ w g t) (i : Nat) : w.frozen? ⟨g, i, none⟩ = false := by obtain ⟨c, hc⟩ := h; exact Joins.unfrozen_of_block hc i
theorem Typ.one {w : World} {g : Nat} {t t' : TypeId} (h : Typ w g t) (h' : Typ w g t') : t = t' := by
 obtain ⟨c, hc⟩ := h
 obtain ⟨c', hc'⟩ := h'
 rw [hc] at hc'
 injection hc' with e
 injection e
theorem Typ.set {w : World} {g : Nat} {t : TypeId} (h : Typ w g t) (a : Addr) (ha : a.spot = none) (v : Value) : Typ (w.setCell a v) g t := by
 obtain ⟨b, i, s⟩ := a
 simp only at ha
 subst ha
 by_cases hb : b = g
 ·subst hb
  obtain ⟨c, hc⟩ := h
  exact ⟨_, Joins.block_setCell hc v⟩
 exact h.heap (Below.heap_setCell _ _ _ _ (fun e => hb e.symm))
theorem Typ.sets {g k : Nat} {t : TypeId} : ∀ (vs : List Value) (o : Nat) (w : World), Typ w k t → Typ (w.setCells g o vs) k t
 | [], _, _, h => h
 | v :: r, o, _, h => Typ.sets r (o + 1) _ (h.set ⟨g, o, none⟩ rfl v)
structure Zap (S : Nat → Prop) (w w' : World) : Prop where
 os : w'.os = w.os
 tape : w'.tape = w.tape
 output : w'.output = w.output
 size : w.heap.size ≤ w'.heap.size
 block : ∀ k, k < w.heap.size → ¬ S k → w'.heap[k]? = w.heap[k]?
 typ : ∀ k t, Typ w k t → Typ w' k t
 cells : ∀ k j, (w.cell? ⟨k, j, none⟩).isSome = true → (w'.cell? ⟨k, j, none⟩).isSome = true
 jb : ∀ k, Typ w k 30 → ∀ i, (∀ c, c < 8 → (w.cell? ⟨k, i * 8 + c, none⟩).isSome = true) → (∀ c, c < 8 → w'.cell? ⟨k, i * 8 + c, none⟩ = w.cell? ⟨k, i * 8 + c, none⟩) ∨ (∀ c, c < 8 → w'.cell? ⟨k, i * 8 + c, none⟩ = (jcells jneg)[c]?)
theorem Zap.trans {S : Nat → Prop} {w w1 w2 : World} (h : Zap S w w1) (k : Zap S w1 w2) : Zap S w w2 :=
 ⟨k.os.trans h.os, k.tape.trans h.tape, k.output.trans h.output, Nat.le_trans h.size k.size, fun i hi hn => (k.block i (Nat.lt_of_lt_of_le hi h.size) hn).trans (h.block i hi hn), fun i t ht => k.typ i t (h.typ i t ht), fun i j hj => k.cells i j (h.cells i j hj), fun g ht i hi => by
  rcases k.jb g (h.typ _ _ ht) i (fun c hc => h.cells _ _ (hi c hc)) with h2 | h2
  ·rcases h.jb g ht i hi with h1 | h1
   ·exact .inl (fun c hc => (h2 c hc).trans (h1 c hc))
   exact .inr (fun c hc => (h2 c hc).trans (h1 c hc))
  exact .inr h2⟩
theorem Zap.apart {S : Nat → Prop} {w w' : World} (h : Zap S w w') : Apart S w w' := ⟨h.os, h.tape, h.output, h.size, h.block⟩
theorem Zap.below {S : Nat → Prop} {w w' : World} (h : Below w.heap.size w w') : Zap S w w' :=
 ⟨h.os, h.tape, h.output, h.size, fun k hk _ => h.block k hk, fun k t ht => ht.heap (h.block k ht.lt), fun k j hj => by
  obtain ⟨v, hv⟩ := Option.isSome_iff_exists.1 hj
  rw [h.cell (p := ⟨k, j, none⟩) (World.block_lt_of_cell? _ _ hv), hv]; rfl, fun k ht i _ => .inl (fun c _ => h.cell (p := ⟨k, i * 8 + c, none⟩) ht.lt)⟩
theorem cells_set {w : World} {a b : Addr} {v : Value} (h : (w.cell? b).isSome = true) : ((w.setCell a v).cell? b).isSome = true := by
 by_cases e : a = b
 ·subst e
  obtain ⟨u, hu⟩ := Option.isSome_iff_exists.1 h
  rw [World.cell?_setCell_same _ _ _ hu]; rfl
 rw [World.cell?_setCell_other _ _ _ _ e]; exact h
theorem Zap.putJ {S : Nat → Prop} {w : World} {g i : Nat} (hS : S g) (hc : ∀ c, c < 8 → (w.cell? ⟨g, i * 8 + c, none⟩).isSome = true) : Zap S w (w.setCells g (i * 8) (jcells jneg)) := by
 have ha := Apart.cells (S := S) hS (jcells jneg) (i * 8) w
 refine ⟨ha.os, ha.tape, ha.output, ha.size, ha.block, fun k t ht => Typ.sets _ _ _ ht, fun k j hj => World.isSome_setCells _ _ _ _ _ hj, fun k ht j hj => ?_⟩
 have h8 : (jcells jneg).length = 8 := rfl
 by_cases e : k = g ∧ j = i
 ·obtain ⟨rfl, rfl⟩ := e
  refine .inr (fun c hc8 => ?_)
  rw [World.cell?_setCells_in k (jcells jneg) (j * 8) w (fun c hc8 => hc c (by rw [h8] at hc8; exact hc8)) c (by rw [h8]; exact hc8)]
  exact (List.getElem?_eq_getElem _).symm
 refine .inl (fun c hc8 => World.cell?_setCells_out _ _ _ _ _ (fun e1 _ => ?_))
 rw [h8]
 simp only at e1 ⊢
 have : j ≠ i := fun e2 => e ⟨e1, e2⟩
 omega
theorem Zap.putN {S : Nat → Prop} {w : World} {g i : Nat} (hS : S g) (ht : Typ w g 9) (v : Value) : Zap S w (w.setCell ⟨g, i, none⟩ v) := by
 have ha := Apart.set (S := S) w (a := ⟨g, i, none⟩) hS v
 refine ⟨ha.os, ha.tape, ha.output, ha.size, ha.block, fun k t ht => ht.set _ rfl _, fun k j hj => cells_set hj, fun k hk j hj => .inl (fun c hc => World.cell?_setCell_other _ _ _ _ (fun e => ?_))⟩
 injection e with e _
 subst e
 exact absurd (ht.one hk) (by decide)
def Spo (w : World) (S : Nat → Prop) : Nat → Value → Value → Prop
 | 0, _, _ => False
 | h + 1, lv, nv => ∃ p n c q m e, lv = .slice p n c ∧ nv = .slice q m e ∧ n ≤ 20000000 ∧ m ≤ 20000000 ∧
   (0 < n → ∃ g, p = some ⟨g, 0, none⟩ ∧ S g ∧ Typ w g 30 ∧ ∀ i, i < n → ∃ r : JR, w.rangeAt g (i * 8) (jcells r) ∧ Spo w S h r.2.1 r.2.2) ∧
   (0 < m → ∃ g, q = some ⟨g, 0, none⟩ ∧ S g ∧ Typ w g 9 ∧ ∀ i, i < m → (w.cell? ⟨g, i, none⟩).isSome = true)
theorem Spo.nil (w : World) (S : Nat → Prop) (h : Nat) : Spo w S (h + 1) (.slice none 0 0) (.slice none 0 0) := by
 rw [Spo]
 exact ⟨none, 0, 0, none, 0, 0, rfl, rfl, by omega, by omega, fun h => absurd h (by omega), fun h => absurd h (by omega)⟩
theorem rangeAt_some {w : World} {g o : Nat} {r : JR} (h : w.rangeAt g o (jcells r)) (c : Nat) (hc : c < 8) : (w.cell? ⟨g, o + c, none⟩).isSome = true := by
 rw [h c _ (List.getElem?_eq_getElem (by exact hc))]; rfl
theorem Spo.zap {w w' : World} {S : Nat → Prop} (hz : Zap S w w') : ∀ (h : Nat) (lv nv : Value), Spo w S h lv nv → Spo w' S h lv nv
 | 0, _, _, k => by rw [Spo] at k; exact k.elim
 | h + 1, lv, nv, k => by
  rw [Spo] at k ⊢
  obtain ⟨p, n, c, q, m, e, h1, h2, h3, h4, h5, h6⟩ := k
  refine ⟨p, n, c, q, m, e, h1, h2, h3, h4, fun hn => ?_, fun hm => ?_⟩
  ·obtain ⟨g, e1, e2, e3, e4⟩ := h5 hn
   refine ⟨g, e1, e2, hz.typ _ _ e3, fun i hi => ?_⟩
   obtain ⟨r, hr, hs⟩ := e4 i hi
   rcases hz.jb g e3 i (fun c hc => rangeAt_some hr c hc) with h7 | h7
   ·exact ⟨r, fun c v hc => (h7 c (by have := (List.getElem?_eq_some_iff.1 hc).1; exact this)).trans (hr c v hc), Spo.zap hz h _ _ hs⟩
   refine ⟨jneg, fun c v hc => (h7 c (by have := (List.getElem?_eq_some_iff.1 hc).1; exact this)).trans hc, ?_⟩
   cases h with
   | zero => rw [Spo] at hs; exact hs.elim
   | succ h => exact Spo.nil _ _ _
  obtain ⟨g, e1, e2, e3, e4⟩ := h6 hm
  exact ⟨g, e1, e2, hz.typ _ _ e3, fun i hi => hz.cells _ _ (e4 i hi)⟩
theorem Spo.list {w : World} {S : Nat → Prop} {h : Nat} {p : Option Addr} {n c : Nat} {nv : Value} (hs : Spo w S (h + 1) (.slice p n c) nv) : 0 < n → ∃ g, p = some ⟨g, 0, none⟩ ∧ S g ∧ Typ w g 30 ∧ ∀ i, i < n → ∃ r : JR, w.rangeAt g (i * 8) (jcells r) ∧ Spo w S h r.2.1 r.2.2 := by
 rw [Spo] at hs
 obtain ⟨p', n', c', q, m, e, h1, h2, h3, h4, h5, h6⟩ := hs
 cases h1
 exact h5
theorem Spo.names {w : World} {S : Nat → Prop} {h : Nat} {q : Option Addr} {m e : Nat} {lv : Value} (hs : Spo w S (h + 1) lv (.slice q m e)) : 0 < m → ∃ g, q = some ⟨g, 0, none⟩ ∧ S g ∧ Typ w g 9 ∧ ∀ i, i < m → (w.cell? ⟨g, i, none⟩).isSome = true := by
 rw [Spo] at hs
 obtain ⟨p', n', c', q', m', e', h1, h2, h3, h4, h5, h6⟩ := hs
 cases h2
 exact h6
theorem Spo.forms {w : World} {S : Nat → Prop} {h : Nat} {lv nv : Value} (hs : Spo w S (h + 1) lv nv) : ∃ p n c q m e, lv = .slice p n c ∧ nv = .slice q m e ∧ n ≤ 20000000 ∧ m ≤ 20000000 := by
 rw [Spo] at hs
 obtain ⟨p, n, c, q, m, e, h1, h2, h3, h4, h5, h6⟩ := hs
 exact ⟨p, n, c, q, m, e, h1, h2, h3, h4⟩
theorem JV.spo {w : World} {S : Nat → Prop} {r : JR} (h : JV w S r) (h0 : ¬ S 0) : ∀ d, szJ r.1 ≤ d → szJ r.1 ≤ 20000000 → Spo w S d r.2.1 r.2.2 := by
 induction h with
 | mk r xs hn hl hs ih =>
  intro d hd hz
  obtain ⟨⟨k, b, nn, t, l, ns⟩, lv, nv⟩ := r
  obtain ⟨p, c, h1, h2, h3, h4⟩ := hl
  obtain ⟨q, e, k1, k2, k3, k4⟩ := hn
  change lv = Value.slice p l.length c at h1
  change nv = Value.slice q ns.length e at k1
  subst h1 k1
  simp only [J.l, J.ns] at h2 h3 h4 k2 k3 k4 hs ih
  simp only [szJ] at hd hz
  have hll := szL_len l
  have hnl := szN_len ns
  cases d with
  | zero => omega
  | succ d =>
   rw [Spo]
   refine ⟨p, l.length, c, q, ns.length, e, rfl, rfl, by omega, by omega, fun hn => ?_, fun hm => ?_⟩
   ·obtain ⟨g, off, rfl, ⟨hS, hO⟩, hg, hc⟩ := h4 hn
    obtain ⟨rfl, hT⟩ := hO.resolve_left h0
    refine ⟨g, rfl, hS, hT, fun i hi => ?_⟩
    have hx : l[i]? = some l[i] := List.getElem?_eq_getElem hi
    have hsz := szL_in hx
    refine ⟨(l[i], xs i), fun j v hj => ?_, ih i _ hx d (show szJ l[i] ≤ d by omega) (show szJ l[i] ≤ 20000000 by omega)⟩
    have hj8 : j < 8 := (List.getElem?_eq_some_iff.1 hj).1
    have := hc i _ hx j hj8
    rw [Nat.zero_add] at this
    rw [this]; exact hj
   obtain ⟨g, off, rfl, ⟨hS, hO⟩, hg, hc⟩ := k4 hm
   obtain ⟨rfl, hT⟩ := hO.resolve_left h0
   refine ⟨g, rfl, hS, hT, fun i hi => ?_⟩
   have := hc i _ (List.getElem?_eq_getElem hi)
   rw [Nat.zero_add] at this
   rw [this]; rfl
open Go.RowKit
def jnine : JR := (.mk 9 false Dec.zero [] [] [], .slice none 0 0, .slice none 0 0)
def spareS : List UInt8 := [115, 112, 97, 114, 101]
inductive KV (w : World) (S : Nat → Prop) : JR → Prop where
 | mk (v : J) (rs : List JR) (g c q e : Nat) (hl : w.ownsRow 0 30 8 (.slice (some ⟨g, 0, none⟩) (rs.length + 1) c) (rs.length + 1) (jrow (rs ++ [jnine]))) (hv : v.l = rs.map (·.1))
   (hn : w.ownsRow 0 9 1 (.slice (some ⟨q, 0, none⟩) (v.ns.length + 1) e) (v.ns.length + 1) (txts (v.ns ++ [spareS]))) (hg : S g) (hq : S q) (hs : ∀ x ∈ rs, KV w S x) : KV w S (v, .slice (some ⟨g, 0, none⟩) rs.length c, .slice (some ⟨q, 0, none⟩) v.ns.length e)
theorem KV.apart {S T : Nat → Prop} {w w' : World} {r : JR} (h : KV w S r) (ha : Apart T w w') (hS : ∀ k, S k → k < w.heap.size → ¬ T k) : KV w' S r := by
 induction h with
 | mk v rs g c q e hl hv hn hg hq hs ih =>
  exact .mk v rs g c q e (ownsRow_apart hl ha (fun k hk => by cases hk; exact hS g hg (World.ownsRow.lt hl g rfl).2)) hv (ownsRow_apart hn ha (fun k hk => by cases hk; exact hS q hq (World.ownsRow.lt hn q rfl).2)) hg hq ih
theorem KV.bel {S : Nat → Prop} {w w' : World} {r : JR} (h : KV w S r) (hb : Below w.heap.size w w') : KV w' S r := h.apart (T := fun _ => False) (.ofBelow hb) (fun _ _ _ h => h)
theorem KV.mono {w : World} {S S' : Nat → Prop} {r : JR} (h : KV w S r) (hs : ∀ k, k < w.heap.size → S k → S' k) : KV w S' r := by
 induction h with
 | mk v rs g c q e hl hv hn hg hq _ ih => exact .mk v rs g c q e hl hv hn (hs g (World.ownsRow.lt hl g rfl).2 hg) (hs q (World.ownsRow.lt hn q rfl).2 hq) ih
theorem KV.jv {w : World} {S : Nat → Prop} {r : JR} (h : KV w S r) : JV w S r := by
 induction h with
 | mk v rs g c q e hl hv hn hg hq hs ih =>
  have hlen : v.l.length = rs.length := by rw [hv, List.length_map]
  refine .mk _ (fun i => ((rs[i]?).getD (J.zero, .nilIface, .nilIface)).2) ?_ ?_ (fun i j hi => ?_)
  ·rcases hn.2 with ⟨h1, _⟩ | ⟨g9, c9, cur, e1, _, hgg, h3, h4, h5, h6⟩
   ·cases h1
   injection e1 with e1 e2 e3
   injection e1 with e1
   injection e1 with e1 _ _
   subst e1 e3
   refine ⟨_, e, rfl, show v.ns.length ≤ e by omega, show v.ns.length ≤ maxLen by omega, fun _ => ⟨q, 0, rfl, ⟨hq, .inr ⟨rfl, cur, hgg⟩⟩, (World.ownsRow.lt hn q rfl).2, fun i s hi => ?_⟩⟩
   have hi2 := (List.getElem?_eq_some_iff.1 hi).1
   rw [Nat.zero_add, World.ownsRow.cellAt hn i (by simp only at hi2 ⊢; omega)]
   unfold txts
   rw [List.getElem?_map, List.getElem?_append_left hi2, hi]; rfl
  ·rcases hl.2 with ⟨h1, _⟩ | ⟨g9, c9, cur, e1, _, hgg, h3, h4, h5, h6⟩
   ·cases h1
   injection e1 with e1 e2 e3
   injection e1 with e1
   injection e1 with e1 _ _
   subst e1 e3
   refine ⟨_, c, by rw [hlen], by rw [hlen]; omega, by rw [hlen]; omega, fun _ => ⟨g, 0, rfl, ⟨hg, .inr ⟨rfl, cur, hgg⟩⟩, (World.ownsRow.lt hl g rfl).2, fun i j hi c' hc => ?_⟩⟩
   simp only at hi
   rw [hv, List.getElem?_map] at hi
   cases hr : rs[i]? with
   | none => rw [hr] at hi; cases hi
   | some r =>
    rw [hr] at hi
    simp only [Option.map_some, Option.some.injEq] at hi
    subst hi
    have hi2 := (List.getElem?_eq_some_iff.1 hr).1
    have h7 := World.ownsRow.cellAt hl (i * 8 + c') (by omega)
    rw [Nat.zero_add, h7]
    simp only [Option.getD_some]
    exact jrow_at (rs ++ [jnine]) i r (by rw [List.getElem?_append_left hi2, hr]) c' hc
  simp only at hi
  rw [hv, List.getElem?_map] at hi
  cases hr : rs[i]? with
  | none => rw [hr] at hi; cases hi
  | some r =>
   rw [hr] at hi
   simp only [Option.map_some, Option.some.injEq] at hi
   subst hi
   simp only [Option.getD_some]
   exact ih r (List.mem_of_getElem? hr)
theorem KV.nine {w : World} {S : Nat → Prop} {v : J} {lv nv : Value} (h : KV w S (v, lv, nv)) : ∃ g c q e, lv = .slice (some ⟨g, 0, none⟩) v.l.length c ∧ nv = .slice (some ⟨q, 0, none⟩) v.ns.length e ∧ v.l.length + 1 ≤ c ∧ v.ns.length + 1 ≤ e ∧ c ≤ maxLen ∧ e ≤ maxLen ∧
  w.rangeAt g (v.l.length * 8) (jcells jnine) ∧ w.cell? ⟨q, v.ns.length, none⟩ = some (.string ⟨spareS.toArray⟩) := by
 generalize hr : (v, lv, nv) = r at h
 cases h with
 | mk v rs g c q e hl hv hn hg hq hs =>
  cases hr
  have hlen : v.l.length = rs.length := by rw [hv, List.length_map]
  have hcl : rs.length + 1 ≤ c ∧ c ≤ maxLen := by
   rcases hl.2 with ⟨h1, _⟩ | ⟨g9, c9, cur, e1, _, hgg, h3, h4, h5, h6⟩
   ·cases h1
   injection e1 with _ _ e3
   subst e3
   exact ⟨h3, h4⟩
  have hcn : v.ns.length + 1 ≤ e ∧ e ≤ maxLen := by
   rcases hn.2 with ⟨h1, _⟩ | ⟨g9, c9, cur, e1, _, hgg, h3, h4, h5, h6⟩
   ·cases h1
   injection e1 with _ _ e3
   subst e3
   exact ⟨h3, h4⟩
  refine ⟨g, c, q, e, by rw [hlen], rfl, by rw [hlen]; exact hcl.1, hcn.1, hcl.2, hcn.2, fun j u hj => ?_, ?_⟩
  ·have hj8 : j < 8 := (List.getElem?_eq_some_iff.1 hj).1
   rw [hlen, World.ownsRow.cellAt hl (rs.length * 8 + j) (by omega), jrow_at (rs ++ [jnine]) rs.length jnine (by rw [List.getElem?_append_right (Nat.le_refl _), Nat.sub_self]; rfl) j hj8]
   exact hj
  rw [World.ownsRow.cellAt hn v.ns.length (by omega)]
  unfold txts
  rw [List.getElem?_map, List.getElem?_append_right (Nat.le_refl _), Nat.sub_self]; rfl
theorem KV.grown {w w' : World} {S : Nat → Prop} {v v' : Value} {r : JR} (h : KV w (fun k => S k ∧ v.ownBlock ≠ some k) r) (hg : w.grownBy w' v.ownBlock) (hf : ∀ k, v'.ownBlock = some k → v.ownBlock = some k ∨ w.heap.size ≤ k) : KV w' (fun k => S k ∧ v'.ownBlock ≠ some k) r := by
 have h1 : KV w (fun k => (S k ∧ v.ownBlock ≠ some k) ∧ k < w.heap.size) r := h.mono (fun k hk hs => ⟨hs, hk⟩)
 have h2 := h1.apart (Apart.ofGrown (S := fun k => v.ownBlock = some k) hg (fun k hk => hk)) (fun k hk _ e => hk.1.2 e)
 refine h2.mono (fun k _ hk => ⟨hk.1.1, fun e => ?_⟩)
 rcases hf k e with h9 | h9
 ·exact hk.1.2 h9
 have := hk.2; omega
open Go.RowKit
theorem grown_refl (w : World) (r : Option Nat) : w.grownBy w r := ⟨rfl, rfl, rfl, Nat.le_refl _, fun _ _ _ => rfl⟩
def NamX (w : World) (u : Value) (ms : List (List UInt8)) : Prop :=
 (u = .slice none 0 0 ∧ ms = []) ∨ ∃ g off cap, u = .slice (some ⟨g, off, none⟩) ms.length cap ∧ ∀ i s, ms[i]? = some s → w.cell? ⟨g, off + i, none⟩ = some (.string ⟨s.toArray⟩)
theorem NamX.one (w : World) (n : List UInt8) : NamX (w.alloc (.cells #[.string ⟨n.toArray⟩] 9)) (.slice (some ⟨w.heap.size, 0, none⟩) 1 1) [n] := by
 refine .inr ⟨w.heap.size, 0, 1, rfl, fun i s hi => ?_⟩
 cases i with
 | zero =>
  simp only [List.getElem?_cons_zero, Option.some.injEq] at hi
  subst hi
  rw [World.cell?_alloc_at _ _ _ _ rfl]; rfl
 | succ i => simp at hi
theorem exec_slice_h {w : World} {a : Act} {o : Oper} {t : TypeId} (x y : Operand) (ho : o.op = .slice t x none (some y) none) {p : Option Addr} {n cap at' s : Nat} (ht : Tryz.prog.underlying t = some (.slice (Tryz.prog.elem t))) (hs : (sizeOf (Tryz.prog.elem t)).run Tryz.prog w = .ok s w)
  (hx : a.eval x = .slice p n cap) (hy : a.eval y = .int .i64 (at' : Int)) (h : at' ≤ cap) : (execOp a.eval o).run Tryz.prog w = .ok (.value (sliced p 0 at' cap s)) w := by
 have hr := run_slice_h (P := Tryz.prog) (w := w) t p n cap ht .i64 (at' : Int) (by omega) (by omega)
 have hr2 := run_sliceAt_slice (P := Tryz.prog) (w := w) t (.slice p n cap) none (some (.int .i64 (at' : Int))) none ht
 rw [hr, hs] at hr2
 simp [execOp, ho, hx, hy, hr2, Result.andThen]
theorem run_append_names (w : World) (ty : TypeId) {B : Nat} {v : Value} {ns : List (List UInt8)} (hv : NamV w B v ns) {u : Value} {ms : List (List UInt8)} (hu : NamX w u ms) (hlen : ns.length + ms.length ≤ 100000002) (hB : B ≤ w.heap.size) :
  ∃ v' w', (Builtin.append_ #[28, 28] ty #[v, u]).run Tryz.prog w = .ok v' w' ∧ NamV w' B v' (ns ++ ms) ∧ w.grownBy w' v.ownBlock ∧ ∀ k, v'.ownBlock = some k → v.ownBlock = some k ∨ w.heap.size ≤ k := by
 obtain ⟨i0, hi, hz0, hz1, hz2⟩ := info_parts Tryz.info9
 rcases hu with ⟨rfl, rfl⟩ | ⟨g, off, cap, rfl, hc⟩
 ·exact ⟨v, w, run_append_owned_none (P := Tryz.prog) w B 28 ty 9 i0 1 Tryz.underlying28 hi v ns.length (txts ns) hv, by rw [List.append_nil]; exact hv, grown_refl _ _, fun k hk => .inl hk⟩
 ·have hcs : ∀ (j : Nat) x, (txts ms)[j]? = some x → w.cell? ((⟨g, off, none⟩ : Addr).add j) = some x := by
   intro j x hj
   unfold txts at hj
   rw [List.getElem?_map] at hj
   cases hs : ms[j]? with
   | none => rw [hs] at hj; cases hj
   | some s =>
    rw [hs] at hj
    cases hj
    rw [addr_off rfl]
    exact hc j s hs
  have hone : ∀ x ∈ txts ms, x.oneCell' = true := by
   intro x hx
   obtain ⟨s, _, rfl⟩ := List.mem_map.1 hx
   rfl
  have hl : (txts ms).length = ms.length * 1 := by simp [txts]
  obtain ⟨v', w', h1, h2, h3, _⟩ := run_append_own (P := Tryz.prog) w B 28 ty 9 i0 _ 1 16 Tryz.underlying28 hi hz0 hz1 hz2 rfl (by decide) v ns.length (txts ns) hv ⟨g, off, none⟩ ms.length cap (txts ms) hl hcs hone (by unfold maxLen; omega) (by omega) hB
  have h4 := append_fresh Tryz.underlying28 hi hz0 hz1 hz2 rfl (by decide) hv hl hcs hone (by unfold maxLen; omega) (by omega) h1
  refine ⟨v', w', h1, ?_, h3, h4⟩
  unfold NamV
  rw [List.length_append, show txts (ns ++ ms) = txts ns ++ txts ms by simp [txts]]
  exact h2
theorem oper_append_names {w : World} {o : Oper} {a : Act} {Q : Exit → Act → World → Prop} {K : Act → World → Prop} (s x : Operand)
  (ho : o.op = .call { callee := .builtin .append, args := #[s, x], argTypes := #[28, 28] })
  (B : Nat) (v u : Value) (ns ms : List (List UInt8)) (hs : a.eval s = v) (hv : NamV w B v ns) (hx : a.eval x = u) (hu : NamX w u ms) (hlen : ns.length + ms.length ≤ 100000002) (hB : B ≤ w.heap.size)
  (hK : ∀ v' w', NamV w' B v' (ns ++ ms) → w.grownBy w' v.ownBlock → (∀ k, v'.ownBlock = some k → v.ownBlock = some k ∨ w.heap.size ≤ k) → K (a.put o.dst v') w') : Oper.wp Tryz.prog o a w K Q := by
 obtain ⟨v', w', hrun, h1, h2, h3⟩ := run_append_names w o.type hv hu hlen hB
 unfold Oper.wp
 simp [execOp, ho, resolve, invoke, builtin, hs, hx, hrun, Result.andThen]
 exact hK _ _ h1 h2 h3
theorem bytes_beq (a b : List UInt8) : ((⟨a.toArray⟩ : ByteArray) == ⟨b.toArray⟩) = decide (a = b) := by
 show (a.toArray == b.toArray) = _
 by_cases h : a = b
 ·subst h; simp
 rw [decide_eq_false h, beq_eq_false_iff_ne]
 intro e
 exact h (by simpa using e)
open Go.RowKit
section
variable {α : Type}
end
theorem elem_names : Tryz.prog.elem 28 = 9 := by kernel_rfl
theorem elem_jsons : Tryz.prog.elem 27 = 30 := by kernel_rfl
theorem size_str (w : World) : (sizeOf (Tryz.prog.elem 28)).run Tryz.prog w = .ok 1 w := by
 obtain ⟨i0, hi, hz0, hz1, hz2⟩ := info_parts Tryz.info9
 rw [elem_names]
 simp [sizeOf, typeInfo, hi, hz1]
theorem size_json (w : World) : (sizeOf (Tryz.prog.elem 27)).run Tryz.prog w = .ok 8 w := by
 obtain ⟨i0, hi, hz0, hz1, hz2⟩ := info_parts Tryz.info30
 rw [elem_jsons]
 simp [sizeOf, typeInfo, hi, hz1]
theorem und_names : Tryz.prog.underlying 28 = some (.slice (Tryz.prog.elem 28)) := by rw [elem_names]; exact Tryz.underlying28
theorem und_jsons : Tryz.prog.underlying 27 = some (.slice (Tryz.prog.elem 27)) := by rw [elem_jsons]; exact Tryz.underlying27
theorem NamX.below {w w' : World} {u : Value} {ms : List (List UInt8)} (h : NamX w u ms) (hb : Below w.heap.size w w') : NamX w' u ms := by
 rcases h with h | ⟨g, off, cap, e, hc⟩
 ·exact .inl h
 exact .inr ⟨g, off, cap, e, fun i s hi => (hb.cell (p := ⟨g, off + i, none⟩) (World.block_lt_of_cell? _ _ (hc i s hi))).trans (hc i s hi)⟩
end Go.Proofs.YtfclfaidmipjpaaGreatDoor
