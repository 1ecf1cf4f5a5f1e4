/- Bytes in memory; small functions of HTTP. -/
import Derived.Test.YtgdfgppgfkkncaaGreatDoorProg
import Derived.Test.YtgdfgppgfkkncaaGreatDoorHtP
import Derived.Test.YtgdfgppgfkkncaaGreatDoorReg
import Derived.Handy
import Derived.BigQuiet
import Derived.Deep.QuietTactic
import Derived.Deep.LoopGhost
import Derived.WalkSpells
import Derived.WalkLawsBesides
import Derived.OwnWalk
import Derived.Lib.SmallJoins
import Derived.Lib.Hide
import Derived.OneCell
import Derived.Laws.AppendOwnNone
import Derived.Lib.ConvBytes
namespace Go.Proofs.YtgdfgppgfkkncaaGreatDoor
open Go.RowKit

theorem same {P : Program} {f : FuncId} {args : Array Value} {w : World} {Q : Ending → Prop} (h : Calls P f args w fun e w' => Q e ∧ w' = w) : Calls P f args w fun e w' => Q e ∧ w = w' :=
  h.mono fun _ _ ⟨h1, h2⟩ => ⟨h1, h2.symm⟩
theorem bytes_eq {a b : ByteArray} (h : a.data.toList = b.data.toList) : a = b := by
  apply ByteArray.ext
  exact Array.toList_inj.1 h
theorem bytes_app (a b : List UInt8) : ((⟨a.toArray⟩ : ByteArray) ++ ⟨b.toArray⟩) = ⟨(a ++ b).toArray⟩ := bytes_eq (by simp [ByteArray.data_append])
theorem byte_at (l : List UInt8) (j : Nat) (h : j < l.length) : (⟨l.toArray⟩ : ByteArray)[j]'(by simpa [ByteArray.size] using h) = l.getD j 0 := by
  show l.toArray[j]'(by simpa using h) = _
  simp [h]
theorem below_drewN {B : Nat} {a w : World} (h : Below B a w) (n : Nat) : Below B a (w.drewN n) := by
  have key : ∀ (n : Nat) (w : World), Below B a w → Below B a (w.drewN n) := by
    intro n
    induction n with
    | zero => intro w h; exact h
    | succ n ih => intro w h; exact (ih w h).drew
  exact key n w h
theorem addr_off {ad : Addr} (h : ad.spot = none) (n : Nat) : ad.add n = ⟨ad.block, ad.off + n, none⟩ := by
  obtain ⟨b, o, s⟩ := ad
  subst h
  unfold Addr.add
  by_cases hn : n = 0
  · simp [hn]
  · simp [hn]

/-- Block g begins with these cells, and may be written. -/
structure RowAt (w : World) (g : Nat) (l : List Value) : Prop where
  cell : ∀ (i : Nat) v, l[i]? = some v → w.cell? ⟨g, i, none⟩ = some v
  free : ∀ i : Nat, w.frozen? ⟨g, i, none⟩ = false
  lt : g < w.heap.size
theorem RowAt.new (w : World) (cs : Array Value) (t : TypeId) : RowAt (w.alloc (.cells cs t)) w.heap.size cs.toList :=
  ⟨fun i v h => by rw [World.cell?_alloc_at _ _ _ _ rfl]; simpa using h, fun i => by simp, by simp⟩
theorem RowAt.below {w w' : World} {g : Nat} {l : List Value} (h : RowAt w g l) (hb : Below w.heap.size w w') : RowAt w' g l :=
  ⟨fun i v hi => (hb.cell (p := ⟨g, i, none⟩) h.lt).trans (h.cell i v hi), fun i => (hb.frozen (p := ⟨g, i, none⟩) h.lt).trans (h.free i), Nat.lt_of_lt_of_le h.lt hb.size⟩
theorem RowAt.set {w : World} {g : Nat} {l : List Value} (h : RowAt w g l) (i : Nat) (x : Value) (hi : i < l.length) : RowAt (w.setCell ⟨g, i, none⟩ x) g (l.set i x) := by
  refine ⟨fun j v hj => ?_, fun j => by rw [World.frozen?_setCell]; exact h.free j, by simpa using h.lt⟩
  rw [List.getElem?_set] at hj
  by_cases e : i = j
  · subst e
    rw [if_pos rfl, if_pos hi] at hj
    cases hj
    rw [World.cell?_setCell_same _ _ _ (h.cell i _ (List.getElem?_eq_getElem hi))]
  · rw [if_neg e] at hj
    rw [World.cell?_setCell_other _ _ _ _ (fun e2 => by injection e2 with _ e3; exact e e3)]
    exact h.cell j v hj
theorem RowAt.far {w : World} {g : Nat} {l : List Value} (h : RowAt w g l) {p : Addr} (hp : p.block ≠ g) (x : Value) : RowAt (w.setCell p x) g l :=
  ⟨fun i v hi => by rw [World.cell?_setCell_other _ _ _ _ (fun e => hp (by rw [e]))]; exact h.cell i v hi, fun i => by rw [World.frozen?_setCell]; exact h.free i, by simpa using h.lt⟩
theorem RowAt.drew {w : World} {g : Nat} {l : List Value} (h : RowAt w g l) : RowAt w.drew g l := h.below (Below.refl _ _).drew
theorem RowAt.alloc {w : World} {g : Nat} {l : List Value} (h : RowAt w g l) (o : Obj) : RowAt (w.alloc o) g l := h.below ((Below.refl _ _).alloc (Nat.le_refl _) o)

/-- v is a slice that reads as these bytes. -/
def BytS (w : World) (v : Value) (l : List UInt8) : Prop :=
  (v = .slice none 0 0 ∧ l = []) ∨ ∃ b off cap, v = .slice (some ⟨b, off, none⟩) l.length cap ∧ l.length ≤ cap ∧ l.length ≤ maxLen ∧ b < w.heap.size ∧ ∀ j, j < l.length → w.cell? ⟨b, off + j, none⟩ = some (.int .u8 ((l.getD j 0).toNat : Int))
theorem BytS.below {w w' : World} {v : Value} {l : List UInt8} (h : BytS w v l) (hb : Below w.heap.size w w') : BytS w' v l := by
  rcases h with h | ⟨b, off, cap, h1, h2, h3, h4, h5⟩
  · exact .inl h
  · exact .inr ⟨b, off, cap, h1, h2, h3, Nat.lt_of_lt_of_le h4 hb.size, fun j hj => (hb.cell (p := ⟨b, off + j, none⟩) h4).trans (h5 j hj)⟩
theorem BytS.drew {w : World} {v : Value} {l : List UInt8} (h : BytS w v l) : BytS w.drew v l := h.below (Below.refl _ _).drew
theorem BytS.open {w : World} {v : Value} {l : List UInt8} (h : BytS w v l) : ∃ p cap, v = .slice p l.length cap ∧ l.length ≤ cap ∧ l.length ≤ maxLen ∧ (0 < l.length → ∃ b off, p = some ⟨b, off, none⟩) := by
  rcases h with ⟨rfl, rfl⟩ | ⟨b, off, cap, h1, h2, h3, h4, h5⟩
  · exact ⟨none, 0, rfl, Nat.le_refl _, Nat.zero_le _, fun h => by simp at h⟩
  · exact ⟨_, cap, h1, h2, h3, fun _ => ⟨b, off, rfl⟩⟩
theorem BytS.at {w : World} {b off n cap : Nat} {l : List UInt8} (h : BytS w (.slice (some ⟨b, off, none⟩) n cap) l) (j : Nat) (hj : j < l.length) :
    w.cell? ⟨b, off + j, none⟩ = some (.int .u8 ((l.getD j 0).toNat : Int)) := by
  rcases h with ⟨h, _⟩ | ⟨b', off', cap', h1, _, _, _, h5⟩
  · simp at h
  · simp only [Value.slice.injEq, Option.some.injEq, Addr.mk.injEq] at h1
    obtain ⟨⟨rfl, rfl, -⟩, -, -⟩ := h1
    exact h5 j hj
theorem BytS.string {w : World} {v : Value} {l : List UInt8} (h : BytS w v l) : (convert 23 9 v).run Tryz.prog w = .ok (.string ⟨l.toArray⟩) w := by
  rcases h with ⟨rfl, rfl⟩ | ⟨b, off, cap, rfl, h2, h3, h4, h5⟩
  · exact run_convert_bytes_nil w 23 5 Tryz.underlying23 Tryz.underlying5 0 0 9 Tryz.underlying9
  · refine run_convert_bytes_back w 23 9 5 ⟨b, off, none⟩ cap l Tryz.underlying23 Tryz.underlying5 Tryz.underlying9 (fun j hj => ?_)
    have := h5 j hj
    have e : l.getD j 0 = l[j] := by simp [hj]
    rw [e] at this
    rw [addr_off rfl]
    exact this
theorem BytS.ofString (w : World) (l : List UInt8) (hl : l.length ≤ maxLen) :
    ∃ cap, (convert 9 23 (.string ⟨l.toArray⟩)).run Tryz.prog w = .ok (.slice (some ⟨w.heap.size, 0, none⟩) l.length cap) (Lib.bytesWorld w 5 ⟨l.toArray⟩) ∧
      BytS (Lib.bytesWorld w 5 ⟨l.toArray⟩) (.slice (some ⟨w.heap.size, 0, none⟩) l.length cap) l ∧ Below w.heap.size w (Lib.bytesWorld w 5 ⟨l.toArray⟩) := by
  have hc := Lib.run_convert_string_bytes (P := Tryz.prog) w 9 23 5 ⟨l.toArray⟩ Tryz.underlying9 Tryz.underlying23 Tryz.underlying5
  have hsz : (⟨l.toArray⟩ : ByteArray).size = l.length := by simp [ByteArray.size]
  rw [hsz] at hc
  refine ⟨_, hc, .inr ⟨_, 0, _, rfl, grownCap_ge _ _ _ _, hl, by rw [Lib.bytesWorld_size]; omega, fun j hj => ?_⟩, ⟨rfl, rfl, rfl, by rw [Lib.bytesWorld_size]; omega, fun k hk => Lib.bytesWorld_at_old w _ _ k hk⟩⟩
  rw [Nat.zero_add]
  exact Lib.bytesWorld_cell w 5 ⟨l.toArray⟩ j (by rw [hsz]; exact hj)

set_option maxRecDepth 100000 in
theorem upper_calls (w : World) (c : UInt8) : Calls Tryz.prog 64 #[.int .u8 (c.toNat : Int)] w fun e w' => e = .returned (.bool (upB c)) ∧ w = w' := by
  have h9 : ∀ y : UInt8, (c == y) = decide (c.toNat = y.toNat) := fun y => by rw [Bool.eq_iff_iff, beq_iff_eq, decide_eq_true_eq, ← UInt8.toNat_inj]
  have H9 := Lib.hid h9
  have hc := c.toNat_lt
  clear h9
  go_enter Tryz.func64, Tryz.ntmps64
  go_wp2
  all_goals
    go_ret
    refine ⟨?_, rfl⟩
    refine congrArg (fun b => Ending.returned (Value.bool b)) ?_
    show (_ : Bool) = _
    unfold upB
    try rw [H9.out]
    try rw [H9.out]
    rw [Bool.eq_iff_iff]
    simp
    try omega
set_option maxRecDepth 100000 in
theorem digit_calls (w : World) (c : UInt8) : Calls Tryz.prog 46 #[.int .u8 (c.toNat : Int)] w fun e w' => e = .returned (.bool (dgB c)) ∧ w = w' := by
  have h9 : ∀ y : UInt8, (c == y) = decide (c.toNat = y.toNat) := fun y => by rw [Bool.eq_iff_iff, beq_iff_eq, decide_eq_true_eq, ← UInt8.toNat_inj]
  have H9 := Lib.hid h9
  have hc := c.toNat_lt
  clear h9
  go_enter Tryz.func46, Tryz.ntmps46
  go_wp2
  all_goals
    go_ret
    refine ⟨?_, rfl⟩
    refine congrArg (fun b => Ending.returned (Value.bool b)) ?_
    show (_ : Bool) = _
    unfold dgB
    try rw [H9.out]
    try rw [H9.out]
    rw [Bool.eq_iff_iff]
    simp
    try omega
set_option maxRecDepth 100000 in
theorem addr_calls (w : World) (c : UInt8) : Calls Tryz.prog 66 #[.int .u8 (c.toNat : Int)] w fun e w' => e = .returned (.bool (adB c)) ∧ w = w' := by
  have h9 : ∀ y : UInt8, (c == y) = decide (c.toNat = y.toNat) := fun y => by rw [Bool.eq_iff_iff, beq_iff_eq, decide_eq_true_eq, ← UInt8.toNat_inj]
  have H9 := Lib.hid h9
  have hc := c.toNat_lt
  clear h9
  go_enter Tryz.func66, Tryz.ntmps66
  go_wp2
  all_goals
    go_ret
    refine ⟨?_, rfl⟩
    refine congrArg (fun b => Ending.returned (Value.bool b)) ?_
    show (_ : Bool) = _
    unfold adB
    try rw [H9.out]
    try rw [H9.out]
    rw [Bool.eq_iff_iff]
    simp
    try omega
set_option maxRecDepth 100000 in
theorem valc_calls (w : World) (c : UInt8) : Calls Tryz.prog 70 #[.int .u8 (c.toNat : Int)] w fun e w' => e = .returned (.bool (vaB c)) ∧ w = w' := by
  have h9 : ∀ y : UInt8, (c == y) = decide (c.toNat = y.toNat) := fun y => by rw [Bool.eq_iff_iff, beq_iff_eq, decide_eq_true_eq, ← UInt8.toNat_inj]
  have H9 := Lib.hid h9
  have hc := c.toNat_lt
  clear h9
  go_enter Tryz.func70, Tryz.ntmps70
  go_wp2
  all_goals
    go_ret
    refine ⟨?_, rfl⟩
    refine congrArg (fun b => Ending.returned (Value.bool b)) ?_
    show (_ : Bool) = _
    unfold vaB
    try rw [H9.out]
    try rw [H9.out]
    rw [Bool.eq_iff_iff]
    simp
    try omega
end Go.Proofs.YtgdfgppgfkkncaaGreatDoor
