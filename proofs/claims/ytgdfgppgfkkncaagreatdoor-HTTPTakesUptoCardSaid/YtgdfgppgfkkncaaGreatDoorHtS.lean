/- Requests that are the same: the reference's Same, the law's lists. Printed by gen_same.py. -/
import Derived.Test.YtgdfgppgfkkncaaGreatDoorHtX
namespace Go.Proofs.YtgdfgppgfkkncaaGreatDoor
open Go.RowKit

/-- v is a slice that reads as these headers. -/
def HdrS (w : World) (v : Value) (hs : List Hdr) : Prop :=
  ∃ p cap, v = .slice p hs.length cap ∧ hs.length ≤ cap ∧ hs.length ≤ maxLen ∧ (0 < hs.length → ∃ b off, p = some ⟨b, off, none⟩ ∧ b < w.heap.size ∧ ∀ i, i < hs.length →
    w.cell? ⟨b, off + i * 2, none⟩ = some (.string ⟨(hs.getD i ⟨[], []⟩).name.toArray⟩) ∧ w.cell? ⟨b, off + i * 2 + 1, none⟩ = some (.string ⟨(hs.getD i ⟨[], []⟩).value.toArray⟩))
theorem HdrS.below {w w' : World} {v : Value} {hs : List Hdr} (h : HdrS w v hs) (hb : Below w.heap.size w w') : HdrS w' v hs := by
  obtain ⟨p, cap, h1, h2, h3, h4⟩ := h
  refine ⟨p, cap, h1, h2, h3, fun h0 => ?_⟩
  obtain ⟨b, off, e, hl, h5⟩ := h4 h0
  exact ⟨b, off, e, Nat.lt_of_lt_of_le hl hb.size, fun i hi => ⟨(hb.cell (p := ⟨b, off + i * 2, none⟩) hl).trans (h5 i hi).1, (hb.cell (p := ⟨b, off + i * 2 + 1, none⟩) hl).trans (h5 i hi).2⟩⟩
theorem HdrS.form {w : World} {v : Value} {hs : List Hdr} (h : HdrS w v hs) : ∃ p cap, v = .slice p hs.length cap ∧ hs.length ≤ cap ∧ hs.length ≤ maxLen ∧ (0 < hs.length → ∃ b off, p = some ⟨b, off, none⟩) := by
  obtain ⟨p, cap, h1, h2, h3, h4⟩ := h
  refine ⟨p, cap, h1, h2, h3, fun h0 => ?_⟩
  obtain ⟨b, off, e, _⟩ := h4 h0
  exact ⟨b, off, e⟩
theorem HdrS.at {w : World} {b off n cap : Nat} {hs : List Hdr} (h : HdrS w (.slice (some ⟨b, off, none⟩) n cap) hs) (i : Nat) (hi : i < hs.length) :
    w.cell? ⟨b, off + i * 2, none⟩ = some (.string ⟨(hs.getD i ⟨[], []⟩).name.toArray⟩) ∧ w.cell? ⟨b, off + i * 2 + 1, none⟩ = some (.string ⟨(hs.getD i ⟨[], []⟩).value.toArray⟩) := by
  obtain ⟨p, c, h1, _, _, h4⟩ := h
  obtain ⟨b', off', e, _, h5⟩ := h4 (by omega)
  simp only [Value.slice.injEq] at h1
  have h6 := h1.1.trans e
  simp only [Option.some.injEq, Addr.mk.injEq] at h6
  obtain ⟨rfl, rfl, -⟩ := h6
  exact h5 i hi
/-- v is a slice that reads as these bytes (an empty one may lie anywhere). -/
def BytG (w : World) (v : Value) (l : List UInt8) : Prop :=
  ∃ p cap, v = .slice p l.length cap ∧ l.length ≤ cap ∧ l.length ≤ maxLen ∧ (0 < l.length → ∃ b off, p = some ⟨b, off, none⟩ ∧ b < w.heap.size ∧ ∀ j, j < l.length → w.cell? ⟨b, off + j, none⟩ = some (.int .u8 ((l.getD j 0).toNat : Int)))
theorem BytS.g {w : World} {v : Value} {l : List UInt8} (h : BytS w v l) : BytG w v l := by
  rcases h with ⟨rfl, rfl⟩ | ⟨b, off, cap, rfl, h2, h3, h4, h5⟩
  · exact ⟨none, 0, rfl, Nat.le_refl _, Nat.zero_le _, fun h => by simp at h⟩
  · exact ⟨_, cap, rfl, h2, h3, fun _ => ⟨b, off, rfl, h4, h5⟩⟩
theorem BytG.below {w w' : World} {v : Value} {l : List UInt8} (h : BytG w v l) (hb : Below w.heap.size w w') : BytG w' v l := by
  obtain ⟨p, cap, h1, h2, h3, h4⟩ := h
  refine ⟨p, cap, h1, h2, h3, fun h0 => ?_⟩
  obtain ⟨b, off, e, hl, h5⟩ := h4 h0
  exact ⟨b, off, e, Nat.lt_of_lt_of_le hl hb.size, fun j hj => (hb.cell (p := ⟨b, off + j, none⟩) hl).trans (h5 j hj)⟩
theorem BytG.open {w : World} {v : Value} {l : List UInt8} (h : BytG w v l) : ∃ p cap, v = .slice p l.length cap ∧ l.length ≤ cap ∧ l.length ≤ maxLen ∧ (0 < l.length → ∃ b off, p = some ⟨b, off, none⟩) := by
  obtain ⟨p, cap, h1, h2, h3, h4⟩ := h
  refine ⟨p, cap, h1, h2, h3, fun h0 => ?_⟩
  obtain ⟨b, off, e, _⟩ := h4 h0
  exact ⟨b, off, e⟩
/-- It is a plain one, or empty. -/
theorem BytG.cases {w : World} {v : Value} {l : List UInt8} (h : BytG w v l) : (l = [] ∧ ∃ p cap, v = .slice p 0 cap) ∨ (l ≠ [] ∧ BytS w v l) := by
  obtain ⟨p, cap, rfl, h2, h3, h4⟩ := h
  cases l with
  | nil => exact .inl ⟨rfl, p, cap, rfl⟩
  | cons c t =>
    obtain ⟨b, off, rfl, hl, h5⟩ := h4 (by simp)
    exact .inr ⟨by simp, .inr ⟨b, off, cap, rfl, h2, h3, hl, h5⟩⟩
theorem BytG.string {w : World} {v : Value} {l : List UInt8} (h : BytG w v l) : (convert 23 9 v).run Tryz.prog w = .ok (.string ⟨l.toArray⟩) w := by
  rcases h.cases with ⟨rfl, p, cap, rfl⟩ | ⟨_, h⟩
  · cases p with
    | none => exact run_convert_bytes_nil w 23 5 Tryz.underlying23 Tryz.underlying5 0 cap 9 Tryz.underlying9
    | some a => exact run_convert_bytes_back w 23 9 5 a cap [] Tryz.underlying23 Tryz.underlying5 Tryz.underlying9 (fun j hj => by simp at hj)
  · exact h.string
theorem hdrVals_at (hs : List Hdr) : ∀ (i : Nat), i < hs.length → (hdrVals hs)[i * 2]? = some (.string ⟨(hs.getD i ⟨[], []⟩).name.toArray⟩) ∧ (hdrVals hs)[i * 2 + 1]? = some (.string ⟨(hs.getD i ⟨[], []⟩).value.toArray⟩) := by
  induction hs with
  | nil => intro i hi; simp at hi
  | cons d l ih =>
    intro i hi
    cases i with
    | zero => exact ⟨rfl, rfl⟩
    | succ i =>
      have h1 := ih i (by simpa using hi)
      have e : hdrVals (d :: l) = .string ⟨d.name.toArray⟩ :: .string ⟨d.value.toArray⟩ :: hdrVals l := rfl
      rw [e, show (i + 1) * 2 = i * 2 + 1 + 1 by omega]
      simpa using h1
theorem HdrV.s {w : World} {B : Nat} {v : Value} {hs : List Hdr} (h : HdrV w B v hs) : HdrS w v hs := by
  rcases h.2 with ⟨rfl, h2⟩ | ⟨g, cap, cur, rfl, h1, hgg, h3, h4, h5, h6⟩
  · exact ⟨none, 0, by rw [h2], by omega, by omega, fun h => by omega⟩
  · refine ⟨_, cap, rfl, h3, by omega, fun _ => ⟨g, 0, rfl, (Array.getElem?_eq_some_iff.1 hgg).1, fun i hi => ?_⟩⟩
    have h9 := hdrVals_at hs i hi
    rw [Nat.zero_add, World.ownsRow.cellAt h (i * 2) (by omega), World.ownsRow.cellAt h (i * 2 + 1) (by omega)]
    exact h9
/-- A request's value as it reads. -/
def ReqS (w : World) (x : Value) (q : Req) : Prop :=
  ∃ hv bv, x = .agg #[.string ⟨q.method.toArray⟩, .string ⟨q.path.toArray⟩, .string ⟨q.query.toArray⟩, hv, bv, .bool q.close] ∧ HdrS w hv q.headers ∧ BytG w bv q.body
theorem ReqV.s {w : World} {B : Nat} {x : Value} {q : Req} (h : ReqV w B x q) : ReqS w x q := by
  obtain ⟨hv, bv, h1, h2, h3⟩ := h
  exact ⟨hv, bv, h1, h2.s, h3.byts.g⟩
theorem ReqS.below {w w' : World} {x : Value} {q : Req} (h : ReqS w x q) (hb : Below w.heap.size w w') : ReqS w' x q := by
  obtain ⟨hv, bv, h1, h2, h3⟩ := h
  exact ⟨hv, bv, h1, h2.below hb, h3.below hb⟩
/-- What Same reads. -/
structure SamS (W : World) (R1 R2 : Nat) (m u q : List UInt8) (cl : Bool) (v1 v2 b1 b2 : Value) (hs : List Hdr) (bd : List UInt8) : Prop where
  row1 : RowAt W R1 [.string ⟨m.toArray⟩, .string ⟨u.toArray⟩, .string ⟨q.toArray⟩, v1, b1, .bool cl]
  row2 : RowAt W R2 [.string ⟨m.toArray⟩, .string ⟨u.toArray⟩, .string ⟨q.toArray⟩, v2, b2, .bool cl]
  h1 : HdrS W v1 hs
  h2 : HdrS W v2 hs
  s1 : BytG W b1 bd
  s2 : BytG W b2 bd
theorem SamS.below {W W' : World} {R1 R2 : Nat} {m u q : List UInt8} {cl : Bool} {v1 v2 b1 b2 : Value} {hs : List Hdr} {bd : List UInt8} (h : SamS W R1 R2 m u q cl v1 v2 b1 b2 hs bd) (hb : Below W.heap.size W W') : SamS W' R1 R2 m u q cl v1 v2 b1 b2 hs bd :=
  ⟨h.row1.below hb, h.row2.below hb, h.h1.below hb, h.h2.below hb, h.s1.below hb, h.s2.below hb⟩
set_option maxHeartbeats 4000000 in
set_option maxRecDepth 100000 in
theorem same_true (w : World) (x1 x2 : Value) (rq : Req) (hx1 : ReqS w x1 rq) (hx2 : ReqS w x2 rq) : Calls Tryz.prog 21 #[x1, x2] w fun e w' => e = .returned (.bool true) ∧ Below w.heap.size w w' := by
  obtain ⟨hv1, bv1, rfl, hh1, hb1⟩ := hx1
  obtain ⟨hv2, bv2, rfl, hh2, hb2⟩ := hx2
  obtain ⟨m, u, q, hs, bd, cl⟩ := rq
  simp only at hh1 hh2 hb1 hb2 ⊢
  obtain ⟨p1, c1, rfl, hc1, hm1, hf1⟩ := hh1.form
  obtain ⟨p2, c2, rfl, hc2, _, hf2⟩ := hh2.form
  obtain ⟨q1, d1, rfl, _⟩ := hb1.open
  obtain ⟨q2, d2, rfl, _⟩ := hb2.open
  have ha1 : Below w.heap.size w (w.alloc (Obj.cells #[Value.string { data := m.toArray }, Value.string { data := u.toArray }, Value.string { data := q.toArray }, Value.slice p1 hs.length c1, Value.slice q1 bd.length d1, Value.bool cl] 40)) := (Below.refl _ _).alloc (Nat.le_refl _) _
  have ha2 : Below (w.alloc (Obj.cells #[Value.string { data := m.toArray }, Value.string { data := u.toArray }, Value.string { data := q.toArray }, Value.slice p1 hs.length c1, Value.slice q1 bd.length d1, Value.bool cl] 40)).heap.size (w.alloc (Obj.cells #[Value.string { data := m.toArray }, Value.string { data := u.toArray }, Value.string { data := q.toArray }, Value.slice p1 hs.length c1, Value.slice q1 bd.length d1, Value.bool cl] 40)) ((w.alloc (Obj.cells #[Value.string { data := m.toArray }, Value.string { data := u.toArray }, Value.string { data := q.toArray }, Value.slice p1 hs.length c1, Value.slice q1 bd.length d1, Value.bool cl] 40)).alloc (Obj.cells #[Value.string { data := m.toArray }, Value.string { data := u.toArray }, Value.string { data := q.toArray }, Value.slice p2 hs.length c2, Value.slice q2 bd.length d2, Value.bool cl] 40)) := (Below.refl _ _).alloc (Nat.le_refl _) _
  have HS : Hid (SamS ((w.alloc (Obj.cells #[Value.string { data := m.toArray }, Value.string { data := u.toArray }, Value.string { data := q.toArray }, Value.slice p1 hs.length c1, Value.slice q1 bd.length d1, Value.bool cl] 40)).alloc (Obj.cells #[Value.string { data := m.toArray }, Value.string { data := u.toArray }, Value.string { data := q.toArray }, Value.slice p2 hs.length c2, Value.slice q2 bd.length d2, Value.bool cl] 40)) w.heap.size (w.heap.size + 1) m u q cl _ _ _ _ hs bd) := ⟨(RowAt.new w #[Value.string { data := m.toArray }, Value.string { data := u.toArray }, Value.string { data := q.toArray }, Value.slice p1 hs.length c1, Value.slice q1 bd.length d1, Value.bool cl] 40).alloc _, by have h9 := RowAt.new (w.alloc (Obj.cells #[Value.string { data := m.toArray }, Value.string { data := u.toArray }, Value.string { data := q.toArray }, Value.slice p1 hs.length c1, Value.slice q1 bd.length d1, Value.bool cl] 40)) #[Value.string { data := m.toArray }, Value.string { data := u.toArray }, Value.string { data := q.toArray }, Value.slice p2 hs.length c2, Value.slice q2 bd.length d2, Value.bool cl] 40; rw [World.size_alloc] at h9; exact h9, (hh1.below ha1).below ha2, (hh2.below ha1).below ha2, (hb1.below ha1).below ha2, (hb2.below ha1).below ha2⟩
  have HB : Hid (Below w.heap.size w ((w.alloc (Obj.cells #[Value.string { data := m.toArray }, Value.string { data := u.toArray }, Value.string { data := q.toArray }, Value.slice p1 hs.length c1, Value.slice q1 bd.length d1, Value.bool cl] 40)).alloc (Obj.cells #[Value.string { data := m.toArray }, Value.string { data := u.toArray }, Value.string { data := q.toArray }, Value.slice p2 hs.length c2, Value.slice q2 bd.length d2, Value.bool cl] 40))) := ha1.trans (ha2.mono ha1.size)
  have Hf1 := Lib.hid hf1
  have Hf2 := Lib.hid hf2
  have hmx : hs.length ≤ 9223372036854775807 := hm1
  clear hh1 hh2 hb1 hb2 ha1 ha2 hf1 hf2 hm1
  go_enter Tryz.func21, Tryz.ntmps21
  go_upto_region 1 with fail
  generalize (w.alloc (Obj.cells #[Value.string { data := m.toArray }, Value.string { data := u.toArray }, Value.string { data := q.toArray }, Value.slice p1 hs.length c1, Value.slice q1 bd.length d1, Value.bool cl] 40)).alloc (Obj.cells #[Value.string { data := m.toArray }, Value.string { data := u.toArray }, Value.string { data := q.toArray }, Value.slice p2 hs.length c2, Value.slice q2 bd.length d2, Value.bool cl] 40) = w1 at *
  have a10 := HS.out.row1.cell 0 _ rfl
  have a11 := HS.out.row1.cell 1 _ rfl
  have a12 := HS.out.row1.cell 2 _ rfl
  have a13 := HS.out.row1.cell 3 _ rfl
  have a14 := HS.out.row1.cell 4 _ rfl
  have a15 := HS.out.row1.cell 5 _ rfl
  have a20 := HS.out.row2.cell 0 _ rfl
  have a21 := HS.out.row2.cell 1 _ rfl
  have a22 := HS.out.row2.cell 2 _ rfl
  have a23 := HS.out.row2.cell 3 _ rfl
  have a24 := HS.out.row2.cell 4 _ rfl
  have a25 := HS.out.row2.cell 5 _ rfl
  have st1 := HS.out.s1.string
  have st2 := HS.out.s2.string
  go_wp2_with fail
  clear st1 st2 a10 a11 a12 a14 a15 a20 a21 a22 a24 a25
  go_loopg [5] hs.length (fun k i wr => ∃ j : Nat, k = hs.length - j ∧ j ≤ hs.length ∧ i = .int .i64 (j : Int) ∧ Below w1.heap.size w1 wr)
  case atStart => exact ⟨0, rfl, by omega, rfl, Below.refl _ _⟩
  case round =>
    obtain ⟨j, hk, hj, rfl, hbr⟩ := hrel
    have Hk := Lib.hid hk
    have HSr := Lib.hid (HS.out.below hbr)
    have HBr := Lib.hid (HB.out.trans (hbr.mono HB.out.size))
    have Hbr := Lib.hid hbr
    replace a13 := HSr.out.row1.cell 3 _ rfl
    replace a23 := HSr.out.row2.cell 3 _ rfl
    clear hk hbr
    by_cases hlt : j < hs.length
    ·
      have hlt2 : (j : Int) < hs.length := by omega
      obtain ⟨g1, o1, rfl⟩ := Hf1.out (by omega)
      obtain ⟨g2, o2, rfl⟩ := Hf2.out (by omega)
      have y1 := HSr.out.h1.at j hlt
      have y2 := HSr.out.h2.at j hlt
      generalize (hs.getD j ⟨[], []⟩).name = nm at *
      generalize (hs.getD j ⟨[], []⟩).value = vl at *
      go_upto_region 6 with fail
      have hS0 : (fun W => W.cell? ⟨w.heap.size, 3, none⟩ = some (.slice (some ⟨g1, o1, none⟩) hs.length c1) ∧ W.cell? ⟨w.heap.size + 1, 3, none⟩ = some (.slice (some ⟨g2, o2, none⟩) hs.length c2) ∧ W.cell? ⟨g1, o1 + j * 2, none⟩ = some (.string ⟨nm.toArray⟩) ∧ W.cell? ⟨g1, o1 + j * 2 + 1, none⟩ = some (.string ⟨vl.toArray⟩) ∧ W.cell? ⟨g2, o2 + j * 2, none⟩ = some (.string ⟨nm.toArray⟩) ∧ W.cell? ⟨g2, o2 + j * 2 + 1, none⟩ = some (.string ⟨vl.toArray⟩)) wr.drew := ⟨a13, a23, y1.1, y1.2, y2.1, y2.2⟩
      refine wp_region_held_drew (S := (fun W => W.cell? ⟨w.heap.size, 3, none⟩ = some (.slice (some ⟨g1, o1, none⟩) hs.length c1) ∧ W.cell? ⟨w.heap.size + 1, 3, none⟩ = some (.slice (some ⟨g2, o2, none⟩) hs.length c2) ∧ W.cell? ⟨g1, o1 + j * 2, none⟩ = some (.string ⟨nm.toArray⟩) ∧ W.cell? ⟨g1, o1 + j * 2 + 1, none⟩ = some (.string ⟨vl.toArray⟩) ∧ W.cell? ⟨g2, o2 + j * 2, none⟩ = some (.string ⟨nm.toArray⟩) ∧ W.cell? ⟨g2, o2 + j * 2 + 1, none⟩ = some (.string ⟨vl.toArray⟩))) (by kernel_rfl) hS0 (fun hHeld0 => ?_)
      refine held_take (i := 0) (v := ?_) rfl (by kernel_rfl) (by kernel_rfl) (by kernel_rfl) (fun _ _ _ h => h) (by rfl) (fun wq hSq => ?_) hHeld0 ?_
      rotate_left
      · (try dsimp only at hSq); go_simp; try with_reducible rfl
      simp only [Act.put, List.setIfInBounds_toArray, List.set_cons_zero, List.set_cons_succ]
      refine held_take (i := 1) (v := ?_) rfl (by kernel_rfl) (by kernel_rfl) (by kernel_rfl) (fun _ _ _ h => h) (by rfl) (fun wq hSq => ?_) hHeld0 ?_
      rotate_left
      · (try dsimp only at hSq); go_simp; try with_reducible rfl
      simp only [Act.put, List.setIfInBounds_toArray, List.set_cons_zero, List.set_cons_succ]
      refine held_take (i := 2) (v := ?_) rfl (by kernel_rfl) (by kernel_rfl) (by kernel_rfl) (fun _ _ _ h => h) (by rfl) (fun wq hSq => ?_) hHeld0 ?_
      rotate_left
      · (try dsimp only at hSq); go_simp; try with_reducible rfl
      simp only [Act.put, List.setIfInBounds_toArray, List.set_cons_zero, List.set_cons_succ]
      refine held_take (i := 3) (v := ?_) rfl (by kernel_rfl) (by kernel_rfl) (by kernel_rfl) (fun _ _ _ h => h) (by rfl) (fun wq hSq => ?_) hHeld0 ?_
      rotate_left
      · (try dsimp only at hSq); go_simp; try with_reducible rfl
      simp only [Act.put, List.setIfInBounds_toArray, List.set_cons_zero, List.set_cons_succ]
      refine held_take (i := 4) (v := ?_) rfl (by kernel_rfl) (by kernel_rfl) (by kernel_rfl) (fun _ _ _ h => h) (by rfl) (fun wq hSq => ?_) hHeld0 ?_
      rotate_left
      · (try dsimp only at hSq); go_simp; try with_reducible rfl
      simp only [Act.put, List.setIfInBounds_toArray, List.set_cons_zero, List.set_cons_succ]
      refine held_take (i := 5) (v := ?_) rfl (by kernel_rfl) (by kernel_rfl) (by kernel_rfl) (fun _ _ _ h => h) (by rfl) (fun wq hSq => ?_) hHeld0 ?_
      rotate_left
      · (try dsimp only at hSq); go_simp; try with_reducible rfl
      simp only [Act.put, List.setIfInBounds_toArray, List.set_cons_zero, List.set_cons_succ]
      refine held_take (i := 6) (v := ?_) rfl (by kernel_rfl) (by kernel_rfl) (by kernel_rfl) (fun _ _ _ h => h) (by rfl) (fun wq hSq => ?_) hHeld0 ?_
      rotate_left
      · (try dsimp only at hSq); go_simp; try with_reducible rfl
      simp only [Act.put, List.setIfInBounds_toArray, List.set_cons_zero, List.set_cons_succ]
      refine held_take (i := 7) (v := ?_) rfl (by kernel_rfl) (by kernel_rfl) (by kernel_rfl) (fun _ _ _ h => h) (by rfl) (fun wq hSq => ?_) hHeld0 ?_
      rotate_left
      · (try dsimp only at hSq); go_simp; try with_reducible rfl
      simp only [Act.put, List.setIfInBounds_toArray, List.set_cons_zero, List.set_cons_succ]
      refine held_take (i := 8) (v := ?_) rfl (by kernel_rfl) (by kernel_rfl) (by kernel_rfl) (fun _ _ _ h => h) (by rfl) (fun wq hSq => ?_) hHeld0 ?_
      rotate_left
      · (try dsimp only at hSq); go_simp; try with_reducible rfl
      simp only [Act.put, List.setIfInBounds_toArray, List.set_cons_zero, List.set_cons_succ]
      refine held_take (i := 9) (v := ?_) rfl (by kernel_rfl) (by kernel_rfl) (by kernel_rfl) (fun _ _ _ h => h) (by rfl) (fun wq hSq => ?_) hHeld0 ?_
      rotate_left
      · (try dsimp only at hSq); go_simp; try with_reducible rfl
      simp only [Act.put, List.setIfInBounds_toArray, List.set_cons_zero, List.set_cons_succ]
      refine held_take (i := 10) (v := ?_) rfl (by kernel_rfl) (by kernel_rfl) (by kernel_rfl) (fun _ _ _ h => h) (by rfl) (fun wq hSq => ?_) hHeld0 ?_
      rotate_left
      · (try dsimp only at hSq); go_simp; try with_reducible rfl
      simp only [Act.put, List.setIfInBounds_toArray, List.set_cons_zero, List.set_cons_succ]
      refine wpAnyH_done (by kernel_rfl) ?_ _
      clear hHeld0
      go_wp2_with fail
      go_roundg (hs.length - (j + 1))
      case measure => have := Hk.out; omega
      case rel => exact ⟨j + 1, rfl, by omega, by go_num, Hbr.out.drew⟩
    ·
      obtain rfl : j = hs.length := by omega
      have hlt2 : ¬ (hs.length : Int) < hs.length := by omega
      go_wp2_with fail
      go_ret
      exact ⟨rfl, HBr.out⟩
theorem reqRow_at (rs : List ReqR) : ∀ (j : Nat) (r : ReqR), rs[j]? = some r → ∀ i, i < 6 → (reqRow rs)[j * 6 + i]? = (reqCells r)[i]? := by
  induction rs with
  | nil => intro j r h; simp at h
  | cons d l ih =>
    intro j r h i hi
    have e : reqRow (d :: l) = reqCells d ++ reqRow l := rfl
    have hl : (reqCells d).length = 6 := rfl
    cases j with
    | zero =>
      simp only [List.getElem?_cons_zero, Option.some.injEq] at h
      subst h
      rw [e, Nat.zero_mul, Nat.zero_add, List.getElem?_append_left (by omega)]
    | succ j =>
      rw [e, List.getElem?_append_right (by omega), hl, show (j + 1) * 6 + i - 6 = j * 6 + i by omega]
      exact ih j r (by simpa using h) i hi
theorem ReqsV.req {w : World} {B : Nat} {v : Value} {rs : List ReqR} (h : ReqsV w B v rs) {r : ReqR} (hr : r ∈ rs) : ReqS w (reqVal r) r.1 := ⟨_, _, rfl, (h.hdr r hr).s, (h.bod r hr).byts.g⟩
theorem ReqsV.at {w : World} {B g n cap : Nat} {rs : List ReqR} (h : ReqsV w B (.slice (some ⟨g, 0, none⟩) n cap) rs) (hn : n = rs.length) {j : Nat} {r : ReqR} (hr : rs[j]? = some r) (i : Nat) (hi : i < 6) : w.cell? ⟨g, j * 6 + i, none⟩ = (reqCells r)[i]? := by
  have hj := (List.getElem?_eq_some_iff.1 hr).1
  rw [h.cell hn (j * 6 + i) (by omega)]
  exact reqRow_at rs j r hr i hi
theorem ReqsV.capm {w : World} {B n cap : Nat} {p : Option Addr} {rs : List ReqR} (h : ReqsV w B (.slice p n cap) rs) : n ≤ 9223372036854775807 := by
  rcases h.row.2 with ⟨hn, h2⟩ | ⟨g, c, cur, e, _, _, h3, h4, _⟩
  · cases hn; omega
  · cases e; unfold maxLen at h4; omega
set_option maxHeartbeats 4000000 in
set_option maxRecDepth 100000 in
/-- Lists of the same requests. -/
theorem lists_true (w : World) (x1 x2 : Value) (rs1 rs2 : List ReqR) (h1 : ReqsV w 0 x1 rs1) (h2 : ReqsV w 0 x2 rs2) (he : rs1.map (·.1) = rs2.map (·.1)) : Calls Tryz.prog 14 #[x1, x2] w fun e w' => e = .returned (.bool true) ∧ Below w.heap.size w w' := by
  obtain ⟨p1, c1, rfl⟩ := h1.forms
  obtain ⟨p2, c2, rfl⟩ := h2.forms
  have hle : rs1.length = rs2.length := by simpa using congrArg List.length he
  have hmx := h2.capm
  rw [hle] at h1 ⊢
  have H1 := Lib.hid h1
  have H2 := Lib.hid h2
  have HE := Lib.hid he
  have HL := Lib.hid hle
  clear h1 h2 he hle
  go_enter Tryz.func14, Tryz.ntmps14
  go_wp2_with fail
  go_loopg [5] rs2.length (fun k i wr => ∃ j : Nat, k = rs2.length - j ∧ j ≤ rs2.length ∧ i = .int .i64 (j : Int) ∧ Below w.heap.size w wr)
  case atStart => exact ⟨0, rfl, by omega, rfl, Below.refl _ _⟩
  case round =>
    obtain ⟨j, hk, hj, rfl, hbr⟩ := hrel
    have Hk := Lib.hid hk
    have Hbr := Lib.hid hbr
    clear hk hbr
    by_cases hlt : j < rs2.length
    ·
      have hlt2 : (j : Int) < rs2.length := by omega
      have Ha1 := Lib.hid (H1.out.below Hbr.out)
      have Ha2 := Lib.hid (H2.out.below Hbr.out)
      obtain ⟨r2, hr2⟩ : ∃ r, rs2[j]? = some r := ⟨_, List.getElem?_eq_getElem hlt⟩
      obtain ⟨r1, hr1⟩ : ∃ r, rs1[j]? = some r := ⟨_, List.getElem?_eq_getElem (by rw [HL.out]; exact hlt)⟩
      have hq : r1.1 = r2.1 := by
        have h9 := congrArg (·[j]?) HE.out
        simp only [List.getElem?_map, hr1, hr2, Option.map_some, Option.some.injEq] at h9
        exact h9
      have HQ1 := Lib.hid (Ha1.out.req (List.mem_of_getElem? hr1))
      have HQ2 := Lib.hid (Ha2.out.req (List.mem_of_getElem? hr2))
      rw [hq] at HQ1
      obtain ⟨g1, o1, e1⟩ : ∃ g1 : Nat, ∃ o1 : Unit, p1 = some ⟨g1, 0, none⟩ := by
        rcases H1.out.row.2 with ⟨h9, h8⟩ | ⟨g, c, cur, h9, _⟩
        · have := HL.out; omega
        · simp only [Value.slice.injEq] at h9; exact ⟨g, (), h9.1⟩
      subst e1
      obtain ⟨g2, o2, e2⟩ : ∃ g2 : Nat, ∃ o2 : Unit, p2 = some ⟨g2, 0, none⟩ := by
        rcases H2.out.row.2 with ⟨h9, h8⟩ | ⟨g, c, cur, h9, _⟩
        · omega
        · simp only [Value.slice.injEq] at h9; exact ⟨g, (), h9.1⟩
      subst e2
      have y10 := Ha1.out.at HL.out.symm hr1 0 (by decide)
      have y20 := Ha2.out.at rfl hr2 0 (by decide)
      have y11 := Ha1.out.at HL.out.symm hr1 1 (by decide)
      have y21 := Ha2.out.at rfl hr2 1 (by decide)
      have y12 := Ha1.out.at HL.out.symm hr1 2 (by decide)
      have y22 := Ha2.out.at rfl hr2 2 (by decide)
      have y13 := Ha1.out.at HL.out.symm hr1 3 (by decide)
      have y23 := Ha2.out.at rfl hr2 3 (by decide)
      have y14 := Ha1.out.at HL.out.symm hr1 4 (by decide)
      have y24 := Ha2.out.at rfl hr2 4 (by decide)
      have y15 := Ha1.out.at HL.out.symm hr1 5 (by decide)
      have y25 := Ha2.out.at rfl hr2 5 (by decide)
      obtain ⟨⟨m1, u1, q1, hs1, bd1, cl1⟩, hv1, bv1⟩ := r1
      obtain ⟨⟨m2, u2, q2, hs2, bd2, cl2⟩, hv2, bv2⟩ := r2
      simp only at hq
      cases hq
      simp only [reqVal] at HQ1 HQ2
      simp only [reqCells, List.getElem?_cons_zero, List.getElem?_cons_succ, Nat.add_zero] at y10 y11 y12 y13 y14 y15 y20 y21 y22 y23 y24 y25
      go_upto_region 6 with fail
      have hS0 : (fun W => W.cell? ⟨g1, j * 6, none⟩ = some (.string ⟨m1.toArray⟩) ∧ W.cell? ⟨g1, j * 6 + 1, none⟩ = some (.string ⟨u1.toArray⟩) ∧ W.cell? ⟨g1, j * 6 + 2, none⟩ = some (.string ⟨q1.toArray⟩) ∧ W.cell? ⟨g1, j * 6 + 3, none⟩ = some (hv1) ∧ W.cell? ⟨g1, j * 6 + 4, none⟩ = some (bv1) ∧ W.cell? ⟨g1, j * 6 + 5, none⟩ = some (.bool cl1) ∧ W.cell? ⟨g2, j * 6, none⟩ = some (.string ⟨m1.toArray⟩) ∧ W.cell? ⟨g2, j * 6 + 1, none⟩ = some (.string ⟨u1.toArray⟩) ∧ W.cell? ⟨g2, j * 6 + 2, none⟩ = some (.string ⟨q1.toArray⟩) ∧ W.cell? ⟨g2, j * 6 + 3, none⟩ = some (hv2) ∧ W.cell? ⟨g2, j * 6 + 4, none⟩ = some (bv2) ∧ W.cell? ⟨g2, j * 6 + 5, none⟩ = some (.bool cl1)) wr.drew := ⟨y10, y11, y12, y13, y14, y15, y20, y21, y22, y23, y24, y25⟩
      have K1 := Lib.hid (HQ1.out.below (Below.refl _ _).drew)
      have K2 := Lib.hid (HQ2.out.below (Below.refl _ _).drew)
      have Kb := Lib.hid Hbr.out.drew
      have Ka1 := Lib.hid (Ha1.out.below (Below.refl _ _).drew)
      have Ka2 := Lib.hid (Ha2.out.below (Below.refl _ _).drew)
      refine wp_region_held_drew (S := (fun W => W.cell? ⟨g1, j * 6, none⟩ = some (.string ⟨m1.toArray⟩) ∧ W.cell? ⟨g1, j * 6 + 1, none⟩ = some (.string ⟨u1.toArray⟩) ∧ W.cell? ⟨g1, j * 6 + 2, none⟩ = some (.string ⟨q1.toArray⟩) ∧ W.cell? ⟨g1, j * 6 + 3, none⟩ = some (hv1) ∧ W.cell? ⟨g1, j * 6 + 4, none⟩ = some (bv1) ∧ W.cell? ⟨g1, j * 6 + 5, none⟩ = some (.bool cl1) ∧ W.cell? ⟨g2, j * 6, none⟩ = some (.string ⟨m1.toArray⟩) ∧ W.cell? ⟨g2, j * 6 + 1, none⟩ = some (.string ⟨u1.toArray⟩) ∧ W.cell? ⟨g2, j * 6 + 2, none⟩ = some (.string ⟨q1.toArray⟩) ∧ W.cell? ⟨g2, j * 6 + 3, none⟩ = some (hv2) ∧ W.cell? ⟨g2, j * 6 + 4, none⟩ = some (bv2) ∧ W.cell? ⟨g2, j * 6 + 5, none⟩ = some (.bool cl1))) (by kernel_rfl) hS0 (fun hHeld0 => ?_)
      generalize wr.drew = wd at *
      refine held_take (i := 0) (v := ?_) rfl (by kernel_rfl) (by kernel_rfl) (by kernel_rfl) (fun _ _ _ h => h) (by rfl) (fun wq hSq => ?_) hHeld0 ?_
      rotate_left
      · (try dsimp only at hSq); go_simp; try with_reducible rfl
      simp only [Act.put, List.setIfInBounds_toArray, List.set_cons_zero, List.set_cons_succ]
      refine held_take (i := 1) (v := ?_) rfl (by kernel_rfl) (by kernel_rfl) (by kernel_rfl) (fun _ _ _ h => h) (by rfl) (fun wq hSq => ?_) hHeld0 ?_
      rotate_left
      · (try dsimp only at hSq); go_simp; try with_reducible rfl
      simp only [Act.put, List.setIfInBounds_toArray, List.set_cons_zero, List.set_cons_succ]
      refine held_take (i := 2) (v := ?_) rfl (by kernel_rfl) (by kernel_rfl) (by kernel_rfl) (fun _ _ _ h => h) (by rfl) (fun wq hSq => ?_) hHeld0 ?_
      rotate_left
      · (try dsimp only at hSq); go_simp; try with_reducible rfl
      simp only [Act.put, List.setIfInBounds_toArray, List.set_cons_zero, List.set_cons_succ]
      refine held_take (i := 3) (v := ?_) rfl (by kernel_rfl) (by kernel_rfl) (by kernel_rfl) (fun _ _ _ h => h) (by rfl) (fun wq hSq => ?_) hHeld0 ?_
      rotate_left
      · (try dsimp only at hSq); go_simp; try with_reducible rfl
      simp only [Act.put, List.setIfInBounds_toArray, List.set_cons_zero, List.set_cons_succ]
      refine held_take (i := 4) (v := ?_) rfl (by kernel_rfl) (by kernel_rfl) (by kernel_rfl) (fun _ _ _ h => h) (by rfl) (fun wq hSq => ?_) hHeld0 ?_
      rotate_left
      · (try dsimp only at hSq); go_simp; try with_reducible rfl
      simp only [Act.put, List.setIfInBounds_toArray, List.set_cons_zero, List.set_cons_succ]
      refine held_take (i := 5) (v := ?_) rfl (by kernel_rfl) (by kernel_rfl) (by kernel_rfl) (fun _ _ _ h => h) (by rfl) (fun wq hSq => ?_) hHeld0 ?_
      rotate_left
      · (try dsimp only at hSq); go_simp; try with_reducible rfl
      simp only [Act.put, List.setIfInBounds_toArray, List.set_cons_zero, List.set_cons_succ]
      refine held_take (i := 6) (v := ?_) rfl (by kernel_rfl) (by kernel_rfl) (by kernel_rfl) (fun _ _ _ h => h) (by rfl) (fun wq hSq => ?_) hHeld0 ?_
      rotate_left
      · (try dsimp only at hSq); go_simp; try with_reducible rfl
      simp only [Act.put, List.setIfInBounds_toArray, List.set_cons_zero, List.set_cons_succ]
      refine held_take (i := 7) (v := ?_) rfl (by kernel_rfl) (by kernel_rfl) (by kernel_rfl) (fun _ _ _ h => h) (by rfl) (fun wq hSq => ?_) hHeld0 ?_
      rotate_left
      · (try dsimp only at hSq); go_simp; try with_reducible rfl
      simp only [Act.put, List.setIfInBounds_toArray, List.set_cons_zero, List.set_cons_succ]
      refine held_step (i := 8) (by kernel_rfl) rfl (by rfl) (fun K hK => ?_)
      go_simp
      refine (same_true wd _ _ _ K1.out K2.out).mono ?_
      rintro e9 w9 ⟨rfl, hb9⟩
      dsimp only
      have Kb9 := Lib.hid (Kb.out.trans (hb9.mono Kb.out.size))
      have L1 := Lib.hid (Ka1.out.below hb9)
      have L2 := Lib.hid (Ka2.out.below hb9)
      clear hb9
      have z10 := L1.out.at HL.out.symm hr1 0 (by decide)
      have z20 := L2.out.at rfl hr2 0 (by decide)
      have z11 := L1.out.at HL.out.symm hr1 1 (by decide)
      have z21 := L2.out.at rfl hr2 1 (by decide)
      have z12 := L1.out.at HL.out.symm hr1 2 (by decide)
      have z22 := L2.out.at rfl hr2 2 (by decide)
      have z13 := L1.out.at HL.out.symm hr1 3 (by decide)
      have z23 := L2.out.at rfl hr2 3 (by decide)
      have z14 := L1.out.at HL.out.symm hr1 4 (by decide)
      have z24 := L2.out.at rfl hr2 4 (by decide)
      have z15 := L1.out.at HL.out.symm hr1 5 (by decide)
      have z25 := L2.out.at rfl hr2 5 (by decide)
      simp only [reqCells, List.getElem?_cons_zero, List.getElem?_cons_succ, Nat.add_zero] at z10 z11 z12 z13 z14 z15 z20 z21 z22 z23 z24 z25
      refine hK.out _ _ ⟨z10, z11, z12, z13, z14, z15, z20, z21, z22, z23, z24, z25⟩ (fun hHeld1 => ?_)
      clear hK K hHeld0
      refine held_take (i := 9) (v := ?_) rfl (by kernel_rfl) (by kernel_rfl) (by kernel_rfl) (fun _ _ _ h => h) (by rfl) (fun wq hSq => ?_) hHeld1 ?_
      rotate_left
      · (try dsimp only at hSq); go_simp; try with_reducible rfl
      simp only [Act.put, List.setIfInBounds_toArray, List.set_cons_zero, List.set_cons_succ]
      refine wpAnyH_done (by kernel_rfl) ?_ _
      clear hHeld1
      go_wp2_with fail
      go_roundg (rs2.length - (j + 1))
      case measure => have := Hk.out; omega
      case rel => exact ⟨j + 1, rfl, by omega, by go_num, Kb9.out⟩
    ·
      obtain rfl : j = rs2.length := by omega
      have hlt2 : ¬ (rs2.length : Int) < rs2.length := by omega
      go_wp2_with fail
      go_ret
      exact ⟨rfl, Hbr.out⟩
end Go.Proofs.YtgdfgppgfkkncaaGreatDoor
