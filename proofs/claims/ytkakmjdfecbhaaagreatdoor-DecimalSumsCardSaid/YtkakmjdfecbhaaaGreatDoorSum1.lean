/- Rows of decimals of the call's own: append; plain laws of the sums' law. -/
import Derived.Test.YtkakmjdfecbhaaaGreatDoorMult
import Derived.Test.YtkakmjdfecbhaaaGreatDoorRef12
import Derived.Test.YtkakmjdfecbhaaaGreatDoorRef13
namespace Go.Proofs.YtkakmjdfecbhaaaGreatDoor
open Go.RowKit

/-- The cells of a row of decimals. -/
def decVals (ds : List Dec) : List Value := ds.flatMap (fun d => [.bool d.neg, .string ⟨d.digits.toArray⟩, .int .i64 d.exp])
theorem decVals_len (ds : List Dec) : (decVals ds).length = ds.length * 3 := by
  induction ds with
  | nil => rfl
  | cons d l ih => rw [List.length_cons, Nat.add_mul, ← ih]; simp [decVals]
theorem decVals_app (xs ys : List Dec) : decVals (xs ++ ys) = decVals xs ++ decVals ys := by simp [decVals]
theorem decVals_at : ∀ (ds : List Dec) (j : Nat), j < ds.length →
    (decVals ds)[j * 3]? = some (.bool (dget ds j).neg) ∧ (decVals ds)[j * 3 + 1]? = some (.string ⟨(dget ds j).digits.toArray⟩) ∧ (decVals ds)[j * 3 + 2]? = some (.int .i64 (dget ds j).exp) := by
  intro ds
  induction ds with
  | nil => intro j hj; simp at hj
  | cons d l ih =>
    intro j hj
    have e : decVals (d :: l) = [.bool d.neg, .string ⟨d.digits.toArray⟩, .int .i64 d.exp] ++ decVals l := by simp [decVals]
    rw [e]
    cases j with
    | zero => exact ⟨rfl, rfl, rfl⟩
    | succ j =>
      have h := ih j (by simp at hj; omega)
      have e2 : dget (d :: l) (j + 1) = dget l j := by simp [dget]
      rw [e2]
      refine ⟨?_, ?_, ?_⟩
      · rw [List.getElem?_append_right (by simp; omega), show (j + 1) * 3 - [Value.bool d.neg, .string ⟨d.digits.toArray⟩, .int .i64 d.exp].length = j * 3 from by simp; omega]; exact h.1
      · rw [List.getElem?_append_right (by simp; omega), show (j + 1) * 3 + 1 - [Value.bool d.neg, .string ⟨d.digits.toArray⟩, .int .i64 d.exp].length = j * 3 + 1 from by simp; omega]; exact h.2.1
      · rw [List.getElem?_append_right (by simp; omega), show (j + 1) * 3 + 2 - [Value.bool d.neg, .string ⟨d.digits.toArray⟩, .int .i64 d.exp].length = j * 3 + 2 from by simp; omega]; exact h.2.2
theorem decVals_one {ds : List Dec} {u : Value} (h : u ∈ decVals ds) : u.oneCell' = true := by
  simp only [decVals, List.mem_flatMap] at h
  obtain ⟨d, _, hu⟩ := h
  simp at hu
  rcases hu with rfl | rfl | rfl <;> rfl

/-- v is a slice that came in and reads as these decimals, however long. -/
def DecsIn (w : World) (v : Value) (ds : List Dec) : Prop :=
  (v = .slice none 0 0 ∧ ds = []) ∨ ∃ ad cap, v = .slice (some ad) ds.length cap ∧ ds.length ≤ cap ∧ ds.length ≤ maxLen ∧ ∀ j, j < ds.length → (dget ds j).digits.length ≤ maxLen ∧ ad.block < w.heap.size ∧
    w.cell? (ad.add (j * 3)) = some (.bool (dget ds j).neg) ∧ w.cell? (ad.add (j * 3 + 1)) = some (.string ⟨(dget ds j).digits.toArray⟩) ∧ w.cell? (ad.add (j * 3 + 2)) = some (.int .i64 (dget ds j).exp)
theorem spot_none {w : World} {ad : Addr} {v : Value} (h : w.cell? ad = some v) : ad.spot = none := by
  unfold World.cell? at h
  split at h
  · split at h
    · cases h
    · rename_i hs; simpa using hs
  · cases h
theorem addr_off {ad : Addr} (h : ad.spot = none) (n : Nat) : ad.add n = ⟨ad.block, ad.off + n, none⟩ := by
  obtain ⟨b, o, s⟩ := ad
  subst h
  unfold Addr.add
  by_cases hn : n = 0
  · simp [hn]
  · simp [hn]
theorem DecsIn.below {w w' : World} {v : Value} {ds : List Dec} (h : DecsIn w v ds) (hb : Below w.heap.size w w') : DecsIn w' v ds := by
  rcases h with h | ⟨ad, cap, h1, h2, h3, h4⟩
  · exact .inl h
  · refine .inr ⟨ad, cap, h1, h2, h3, fun j hj => ?_⟩
    obtain ⟨a1, a2, a3, a4, a5⟩ := h4 j hj
    have hs : ad.spot = none := by
      obtain ⟨_, _, a6, _⟩ := h4 0 (by omega)
      exact spot_none (ad := ad) (by simpa [Addr.add] using a6)
    rw [addr_off hs] at a3 a4 a5 ⊢
    rw [addr_off hs, addr_off hs]
    exact ⟨a1, Nat.lt_of_lt_of_le a2 hb.size, (hb.cell (p := ⟨ad.block, ad.off + j * 3, none⟩) a2).trans a3, (hb.cell (p := ⟨ad.block, ad.off + (j * 3 + 1), none⟩) a2).trans a4, (hb.cell (p := ⟨ad.block, ad.off + (j * 3 + 2), none⟩) a2).trans a5⟩
theorem DecsIn.raw {w : World} {v : Value} {ds : List Dec} (h : DecsIn w v ds) : DecsRaw w v ds := by
  rcases h with ⟨rfl, rfl⟩ | ⟨ad, cap, rfl, h2, h3, h4⟩
  · exact ⟨none, 0, rfl, by simp, fun j hj => by simp at hj, fun h => by simp at h⟩
  · refine ⟨some ad, cap, rfl, h3, fun j hj => (h4 j hj).1, fun hp => ?_⟩
    have hs : ad.spot = none := by
      obtain ⟨_, _, a6, _⟩ := h4 0 hp
      exact spot_none (ad := ad) (by simpa [Addr.add] using a6)
    refine ⟨ad.block, ad.off, by obtain ⟨b, o, s⟩ := ad; simp at hs; rw [hs], (h4 0 hp).2.1, fun j hj => ?_⟩
    obtain ⟨a1, a2, a3, a4, a5⟩ := h4 j hj
    rw [addr_off hs] at a3 a4 a5
    exact ⟨a3, a4, a5⟩
theorem DecsIn.decs {w : World} {v : Value} {ds : List Dec} (h : DecsIn w v ds) (hn : ds.length ≤ 20) (hl : longB ds = false) : DecsAt w v ds := by
  have hlj : ∀ j, j < ds.length → (dget ds j).digits.length ≤ 10000000000 := by
    intro j hj
    have e : dget ds j = ds[j] := by simp [dget, hj]
    have := List.any_eq_false.1 hl ds[j] (List.getElem_mem hj)
    rw [e]
    simp at this
    omega
  have hr := h.raw
  rcases h with ⟨rfl, rfl⟩ | ⟨ad, cap, rfl, h2, h3, h4⟩
  · exact ⟨none, 0, rfl, Nat.le_refl _, by simp, fun j hj => by simp at hj, fun h => by simp at h⟩
  · obtain ⟨p, cap', hv, _, _, hc⟩ := hr
    exact ⟨p, cap', hv, by injection hv with h6 h7 h8; omega, by omega, hlj, hc⟩

/-- v is a row of the call's own, from block B on, that reads as these decimals. -/
def DecW (w : World) (B : Nat) (v : Value) (ds : List Dec) : Prop := w.ownsRow B 24 3 v ds.length (decVals ds)
theorem Tryz.info24 : (Tryz.prog.info? 24).map (fun i => (i.zero, i.size, i.bytes)) = some (some (.agg #[.bool false, .string .empty, .int .i64 0]), 3, 32) := by kernel_rfl
theorem wpList_append_decs {w : World} {ops : Array Oper} {rest : List Oper} {o : Oper} {a : Act} {Q : Exit → Act → World → Prop} (hgd : o.guard = none) (s x : Operand)
    (ho : o.op = .call { callee := .builtin .append, args := #[s, x], argTypes := #[22, 22] })
    (B : Nat) (v : Value) (xs : List Dec) (hs : a.eval s = v) (hown : DecW w B v xs) (y : Value) (ys : List Dec)
    (hx : a.eval x = y) (hy : DecsIn w y ys) (hlen : xs.length + ys.length ≤ 1000) (hbase : B ≤ w.heap.size)
    (h : ∀ v' w', DecW w' B v' (xs ++ ys) → w.grownBy w' v.ownBlock → wpList Tryz.prog ops Q rest (a.put o.dst v') w') :
    wpList Tryz.prog ops Q (o :: rest) a w := by
  obtain ⟨i0, hi, hz0, hz1, hz2⟩ := info_parts Tryz.info24
  rcases hy with ⟨rfl, rfl⟩ | ⟨ad, cap, rfl, h2, h3, h4⟩
  · refine wpList_append_own_none hgd s x 22 ho B 24 i0 3 Tryz.underlying22 hi v xs.length (decVals xs) hs hown hx ?_
    exact h v w (by simpa using hown) (World.grownBy.refl w _)
  · refine wpList_append_own _ hgd s x 22 ho B 24 i0 _ 3 32 Tryz.underlying22 hi hz0 hz1 hz2 rfl (by decide) v xs.length (decVals xs) hs hown ad ys.length cap (decVals ys) hx (decVals_len ys) ?_ ?_ ?_ ?_ hbase ?_
    · intro j u hj
      have hjl : j < ys.length * 3 := by rw [← decVals_len]; exact (List.getElem?_eq_some_iff.1 hj).1
      obtain ⟨_, _, a3, a4, a5⟩ := h4 (j / 3) (by omega)
      obtain ⟨b3, b4, b5⟩ := decVals_at ys (j / 3) (by omega)
      have hj3 : j = j / 3 * 3 ∨ j = j / 3 * 3 + 1 ∨ j = j / 3 * 3 + 2 := by omega
      rcases hj3 with e | e | e <;> rw [e] at hj ⊢
      · rw [b3] at hj; cases hj; exact a3
      · rw [b4] at hj; cases hj; exact a4
      · rw [b5] at hj; cases hj; exact a5
    · intro u hu; exact decVals_one hu
    · unfold maxLen; omega
    · omega
    · intro v' w' h1 h2 _
      refine h v' w' ?_ h2
      unfold DecW
      rw [decVals_app, List.length_append]
      exact h1
theorem DecW.nil (w : World) : DecW (w.alloc (.cells #[] 24)) w.heap.size (.slice (some ⟨w.heap.size, 0, none⟩) 0 0) [] :=
  World.ownsRow_lit w #[] 0 (Nat.le_refl _) (Nat.zero_le _) rfl
theorem DecsIn.open {w : World} {v : Value} {ds : List Dec} (h : DecsIn w v ds) :
    ∃ p cap, v = .slice p ds.length cap ∧ ds.length ≤ cap ∧ ds.length ≤ maxLen ∧ (0 < ds.length → ∃ b off, p = some ⟨b, off, none⟩) := by
  rcases h with ⟨rfl, rfl⟩ | ⟨ad, cap, rfl, h2, h3, h4⟩
  · exact ⟨none, 0, rfl, Nat.le_refl _, Nat.zero_le _, fun h => by simp at h⟩
  · refine ⟨some ad, cap, rfl, h2, h3, fun hp => ?_⟩
    have hs : ad.spot = none := by
      obtain ⟨_, _, a6, _⟩ := h4 0 hp
      exact spot_none (ad := ad) (by simpa [Addr.add] using a6)
    exact ⟨ad.block, ad.off, by obtain ⟨b, o, s⟩ := ad; simp at hs; rw [hs]⟩
theorem DecsIn.at {w : World} {b off n cap : Nat} {ds : List Dec} (h : DecsIn w (.slice (some ⟨b, off, none⟩) n cap) ds) (j : Nat) (hj : j < ds.length) :
    w.cell? ⟨b, off + j * 3, none⟩ = some (.bool (dget ds j).neg) ∧ w.cell? ⟨b, off + j * 3 + 1, none⟩ = some (.string ⟨(dget ds j).digits.toArray⟩) ∧ w.cell? ⟨b, off + j * 3 + 2, none⟩ = some (.int .i64 (dget ds j).exp) := by
  rcases h with ⟨h, _⟩ | ⟨ad, cap, h1, h2, h3, h4⟩
  · simp at h
  · simp only [Value.slice.injEq, Option.some.injEq] at h1
    obtain ⟨rfl, -, -⟩ := h1
    obtain ⟨_, _, a3, a4, a5⟩ := h4 j hj
    rw [addr_off rfl] at a3 a4 a5
    exact ⟨a3, a4, a5⟩
theorem DecsIn.one (w : World) (d : Dec) (hd : d.digits.length ≤ maxLen) :
    DecsIn (w.alloc (.cells #[.bool d.neg, .string ⟨d.digits.toArray⟩, .int .i64 d.exp] 24)) (.slice (some ⟨w.heap.size, 0, none⟩) 1 1) [d] := by
  refine .inr ⟨_, 1, rfl, by simp, by simp [maxLen], fun j hj => ?_⟩
  obtain rfl : j = 0 := by simp at hj; omega
  refine ⟨hd, by simp, ?_, ?_, ?_⟩
  all_goals
    rw [addr_off rfl, World.cell?_alloc_at _ _ _ _ rfl]; rfl
theorem dget_app {ds es : List Dec} {j : Nat} (h : j < ds.length) : dget (ds ++ es) j = dget ds j := by
  simp [dget, List.getElem?_append_left h]
theorem DecW.open {w : World} {B : Nat} {v : Value} {ds : List Dec} (h : DecW w B v ds) (hp : 0 < ds.length) (hd : ∀ j, j < ds.length → (dget ds j).digits.length ≤ maxLen) :
    ∃ g cap, v = .slice (some ⟨g, 0, none⟩) ds.length cap ∧ B ≤ g ∧ g < w.heap.size ∧ ds.length ≤ cap ∧ cap ≤ maxLen ∧ DecsIn w (.slice (some ⟨g, 0, none⟩) ds.length cap) ds := by
  have h' : w.ownsRow B 24 3 v ds.length (decVals ds) := h
  rcases h.2 with ⟨_, h0⟩ | ⟨g, cap, cur, rfl, hb, hg, hnc, hcm, hcs, htk⟩
  · omega
  · refine ⟨g, cap, rfl, hb, (Array.getElem?_eq_some_iff.1 hg).1, hnc, hcm, .inr ⟨_, cap, rfl, hnc, by omega, fun j hj => ⟨hd j hj, (Array.getElem?_eq_some_iff.1 hg).1, ?_⟩⟩⟩
    obtain ⟨b3, b4, b5⟩ := decVals_at ds j hj
    have k0 := h'.cellAt (j * 3) (by omega)
    have k1 := h'.cellAt (j * 3 + 1) (by omega)
    have k2 := h'.cellAt (j * 3 + 2) (by omega)
    rw [addr_off rfl, addr_off rfl, addr_off rfl]
    refine ⟨?_, ?_, ?_⟩
    · show w.cell? ⟨g, 0 + j * 3, none⟩ = _
      rw [Nat.zero_add]; exact k0.trans b3
    · show w.cell? ⟨g, 0 + (j * 3 + 1), none⟩ = _
      rw [Nat.zero_add]; exact k1.trans b4
    · show w.cell? ⟨g, 0 + (j * 3 + 2), none⟩ = _
      rw [Nat.zero_add]; exact k2.trans b5
theorem DecsIn.cut {w : World} {g n cap : Nat} {ds : List Dec} {d : Dec} (h : DecsIn w (.slice (some ⟨g, 0, none⟩) n cap) (ds ++ [d])) :
    DecsIn w (.slice (some ⟨g, 0, none⟩) ds.length cap) ds := by
  rcases h with ⟨h, _⟩ | ⟨ad, cap', h1, h2, h3, h4⟩
  · simp at h
  · simp only [Value.slice.injEq, Option.some.injEq] at h1
    obtain ⟨rfl, -, rfl⟩ := h1
    have hl : (ds ++ [d]).length = ds.length + 1 := by simp
    refine .inr ⟨_, cap, rfl, by omega, by omega, fun j hj => ?_⟩
    have := h4 j (by omega)
    rw [dget_app hj] at this
    exact this
theorem DecsIn.last {w : World} {g n cap : Nat} {ds : List Dec} {d : Dec} (h : DecsIn w (.slice (some ⟨g, 0, none⟩) n cap) (ds ++ [d])) :
    w.cell? ⟨g, 0 + ds.length * 3 + 1, none⟩ = some (.string ⟨d.digits.toArray⟩) := by
  have := (h.at ds.length (by simp)).2.1
  have e : dget (ds ++ [d]) ds.length = d := by simp [dget]
  rw [e] at this
  exact this
theorem longB_get {ds : List Dec} (h : longB ds = false) (j : Nat) (hj : j < ds.length) : (dget ds j).digits.length ≤ 1000 := by
  have e : dget ds j = ds[j] := by simp [dget, hj]
  have := List.any_eq_false.1 h ds[j] (List.getElem_mem hj)
  rw [e]
  simp at this
  omega
theorem mayAll_snoc (ds : List Dec) (j : Nat) (hj : j < ds.length) : mayAll (ds.take (j + 1)) = (mayAll (ds.take j) && mayB (dget ds j)) := by
  rw [take_dget ds j hj]; simp [mayAll]
theorem sum_not {ds : List Dec} (h : mayAll ds = false) : sumS ds = (Dec.zero, 2) := by
  unfold sumS; rw [h]; rfl
theorem sums_no {a b : Dec} (h : goodB a b = false) : cmpS a b = (0, 2) ∧ mulS a b = (Dec.zero, 2) := by
  have h' : mayAll [a, b] = false := by simpa [mayAll, goodB] using h
  unfold cmpS mulS
  rw [h']
  exact ⟨rfl, rfl⟩
theorem cmp_yes {a b : Dec} (h1 : mayB a = true) (h2 : mayB b = true) : (cmpS a b).2 = 0 := by
  have h' : mayAll [a, b] = true := by simp [mayAll, h1, h2]
  unfold cmpS
  rw [h']
  rfl
theorem neg_no {a : Dec} (h : mayB a = false) : negS a = (Dec.zero, 2) := by unfold negS; rw [h]; rfl
theorem neg_yes {a : Dec} (h : mayB a = true) : negS a = (negD a, 0) := by unfold negS; rw [h]; rfl
theorem neq_self (d : Dec) (w : World) : (binOp .neq 24 (.agg #[.bool d.neg, .string ⟨d.digits.toArray⟩, .int .i64 d.exp]) (.agg #[.bool d.neg, .string ⟨d.digits.toArray⟩, .int .i64 d.exp])).run Tryz.prog w = .ok (.bool false) w := by
  rw [run_neq_dec, (sameB_iff d d).2 rfl]; rfl
/-- The number that stands behind the last. -/
def d77 : Dec := ⟨false, [55, 55], 0⟩
theorem with77_len {ds : List Dec} (h : longB ds = false) : ∀ j, j < (ds ++ [d77]).length → (dget (ds ++ [d77]) j).digits.length ≤ maxLen := by
  intro j hj
  have hm : (1000 : Nat) ≤ maxLen := by simp [maxLen]
  by_cases h1 : j < ds.length
  · rw [dget_app h1]; exact Nat.le_trans (longB_get h j h1) hm
  · obtain rfl : j = ds.length := by simp at hj; omega
    have e : dget (ds ++ [d77]) ds.length = d77 := by simp [dget]
    rw [e]; show 2 ≤ _; omega
theorem DecsIn.one77 (w : World) : DecsIn (w.alloc (.cells #[.bool false, .string ⟨#[55, 55]⟩, .int .i64 0] 24)) (.slice (some ⟨w.heap.size, 0, none⟩) 1 1) [d77] := DecsIn.one w d77 (by simp [d77, maxLen])
end Go.Proofs.YtkakmjdfecbhaaaGreatDoor
