/- Pieces of bytes, and bytes that are flipped: what HTTPTakes reads and writes. -/
import Derived.Test.YtgdfgppgfkkncaaGreatDoorHpL
import Derived.Test.YtgdfgppgfkkncaaGreatDoorHtG
namespace Go.Proofs.YtgdfgppgfkkncaaGreatDoor
open Go.RowKit

/-- v is a slice of slices of bytes (empty ones anywhere). -/
def PcsS (w : World) (v : Value) (ps : List (Value × List UInt8)) : Prop :=
  ∃ p cap, v = .slice p ps.length cap ∧ ps.length ≤ cap ∧ ps.length ≤ maxLen ∧ (0 < ps.length → ∃ b off, p = some ⟨b, off, none⟩ ∧ b < w.heap.size ∧ ∀ i q, ps[i]? = some q → w.cell? ⟨b, off + i, none⟩ = some q.1) ∧ ∀ q ∈ ps, BytG w q.1 q.2
theorem PcsS.below {w w' : World} {v : Value} {ps : List (Value × List UInt8)} (h : PcsS w v ps) (hb : Below w.heap.size w w') : PcsS w' v ps := by
  obtain ⟨p, cap, h1, h2, h3, h4, h5⟩ := h
  refine ⟨p, cap, h1, h2, h3, fun h0 => ?_, fun q hq => (h5 q hq).below hb⟩
  obtain ⟨b, off, e, hl, h6⟩ := h4 h0
  exact ⟨b, off, e, Nat.lt_of_lt_of_le hl hb.size, fun i q hq => (hb.cell (p := ⟨b, off + i, none⟩) hl).trans (h6 i q hq)⟩
theorem PcsS.form {w : World} {v : Value} {ps : List (Value × List UInt8)} (h : PcsS w v ps) : ∃ p cap, v = .slice p ps.length cap ∧ ps.length ≤ cap ∧ ps.length ≤ maxLen ∧ (0 < ps.length → ∃ b off, p = some ⟨b, off, none⟩) := by
  obtain ⟨p, cap, h1, h2, h3, h4, h5⟩ := h
  refine ⟨p, cap, h1, h2, h3, fun h0 => ?_⟩
  obtain ⟨b, off, e, _⟩ := h4 h0
  exact ⟨b, off, e⟩
theorem PcsS.at {w : World} {b off n cap : Nat} {ps : List (Value × List UInt8)} (h : PcsS w (.slice (some ⟨b, off, none⟩) n cap) ps) {i : Nat} {q : Value × List UInt8} (hq : ps[i]? = some q) : w.cell? ⟨b, off + i, none⟩ = some q.1 ∧ BytG w q.1 q.2 := by
  obtain ⟨p, c, h1, _, _, h4, h5⟩ := h
  have hlt := (List.getElem?_eq_some_iff.1 hq).1
  obtain ⟨b', off', e, _, h6⟩ := h4 (by omega)
  simp only [Value.slice.injEq] at h1
  have h7 := h1.1.trans e
  simp only [Option.some.injEq, Addr.mk.injEq] at h7
  obtain ⟨rfl, rfl, -⟩ := h7
  exact ⟨h6 i q hq, h5 q (List.mem_of_getElem? hq)⟩
/-- Cells that hold some bytes. -/
def SomeB (w : World) (g off n : Nat) : Prop := g < w.heap.size ∧ ∀ j, j < n → (∃ z, w.cell? ⟨g, off + j, none⟩ = some (.int .u8 z)) ∧ w.frozen? ⟨g, off + j, none⟩ = false
theorem SomeB.apart {S : Nat → Prop} {w w' : World} {g off n : Nat} (h : SomeB w g off n) (ha : Apart S w w') (hn : ¬ S g) : SomeB w' g off n :=
  ⟨Nat.lt_of_lt_of_le h.1 ha.size, fun j hj => ⟨by
    obtain ⟨z, hz⟩ := (h.2 j hj).1
    exact ⟨z, (ha.cell (a := ⟨g, off + j, none⟩) h.1 hn).trans hz⟩, (ha.frozen (a := ⟨g, off + j, none⟩) h.1 hn).trans (h.2 j hj).2⟩⟩
theorem SomeB.set {w : World} {g off n : Nat} (h : SomeB w g off n) (g' k : Nat) (z : Int) : SomeB (w.setCell ⟨g', k, none⟩ (.int .u8 z)) g off n := by
  refine ⟨by simpa using h.1, fun j hj => ⟨?_, by rw [World.frozen?_setCell]; exact (h.2 j hj).2⟩⟩
  obtain ⟨y, hy⟩ := (h.2 j hj).1
  by_cases he : (⟨g', k, none⟩ : Addr) = ⟨g, off + j, none⟩
  · rw [he]
    exact ⟨z, World.cell?_setCell_same' _ _ _ (by rw [hy]; rfl)⟩
  · exact ⟨y, by rw [World.cell?_setCell_other _ _ _ _ he]; exact hy⟩
theorem SomeB.ofWait {w : World} {B g off n cap : Nat} {l : List UInt8} (h : WaitV w B (.slice (some ⟨g, off, none⟩) n cap) l) : SomeB w g off l.length := by
  rcases h with ⟨h, _⟩ | ⟨g, off, cap, h1, h2, h3, h4, h5, h6, h7, h8⟩
  · cases h
  · cases h1
    exact ⟨h3, fun j hj => ⟨⟨_, h6 j hj⟩, h8 j (by omega)⟩⟩
theorem SomeB.ofBod {w : World} {B g n cap : Nat} {l : List UInt8} (h : BodV w B (.slice (some ⟨g, 0, none⟩) n cap) l) : SomeB w g 0 l.length :=
  ⟨(h.lt g rfl).2, fun j hj => by
    have h1 := BodV.cells h j hj
    rw [Nat.zero_add]
    exact ⟨⟨_, h1.1⟩, h1.2⟩⟩
theorem SomeB.le {w : World} {g off n n' : Nat} (h : SomeB w g off n) (hn : n' ≤ n) : SomeB w g off n' := ⟨h.1, fun j hj => h.2 j (by omega)⟩
theorem takeS_len (l m : List UInt8) (d : Bool) : (takeS l d m).2.2.1.length ≤ l.length + m.length := by
  cases d with
  | true => simp [takeS]
  | false =>
    have := run_len (l ++ m)
    rw [takeS_live]
    rw [List.length_append] at this
    omega
/-- Between two rounds of HTTPTakes. -/
structure TkI (w wr : World) (C g6 : Nat) (vr : Value) (lw : List UInt8) (dd : Bool) (n : Nat) : Prop where
  conn : ConnAt wr C vr lw dd
  row : RowAt wr g6 [.string ⟨lw.toArray⟩, .bool dd]
  bel : Below w.heap.size w wr
  own : ∀ k, OwnC C vr k → k ≠ g6
  len : lw.length ≤ n
end Go.Proofs.YtgdfgppgfkkncaaGreatDoor
