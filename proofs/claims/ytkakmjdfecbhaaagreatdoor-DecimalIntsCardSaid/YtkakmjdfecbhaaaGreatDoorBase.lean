/- Words that the walks of decimal share: a nat is a row of words that is read as a list; no conditions. -/
import Derived.Test.YtkakmjdfecbhaaaGreatDoorProg
import Derived.Test.YtkakmjdfecbhaaaGreatDoorVal
import Derived.Handy
import Derived.BigQuiet
import Derived.Deep.QuietTactic
import Derived.Deep.LoopGhost
import Derived.WalkSpells
import Derived.WalkLawsBesides
import Derived.OwnWalk
import Derived.Lib.SmallJoins
import Derived.Lib.Hide
import Derived.OneCell
import Derived.Laws.AppendOwnNone
namespace Go.Proofs.YtkakmjdfecbhaaaGreatDoor
open Go.RowKit

/-- The values of a list of words. -/
def u64s (xs : List Nat) : List Value := xs.map (fun (x : Nat) => Value.int .u64 (x : Int))
/-- v is a slice of words from block B on, that reads as xs. -/
def NatV (w : World) (B : Nat) (v : Value) (xs : List Nat) : Prop := w.ownsRow B 90 1 v xs.length (u64s xs)

theorem u64s_len (xs : List Nat) : (u64s xs).length = xs.length := by simp [u64s]
theorem u64s_at (xs : List Nat) (j : Nat) (h : j < xs.length) : (u64s xs)[j]? = some (.int .u64 ((nth xs j : Nat) : Int)) := by
  simp [u64s, nth, List.getElem?_eq_getElem h, List.getD]
theorem u64s_app (xs ys : List Nat) : u64s (xs ++ ys) = u64s xs ++ u64s ys := by simp [u64s]

theorem NatV.nil (w : World) (B : Nat) : NatV w B (.slice none 0 0) [] := World.ownsRow_nil w B _ _
theorem NatV.forms {w : World} {B : Nat} {v : Value} {xs : List Nat} (h : NatV w B v xs) :
    (v = .slice none 0 0 ∧ xs = []) ∨ ∃ g cap, v = .slice (some ⟨g, 0, none⟩) xs.length cap := by
  rcases Joins.ownsRow_forms h with ⟨h1, h2⟩ | h
  · exact .inl ⟨h1, List.length_eq_zero_iff.1 h2⟩
  · exact .inr h
theorem NatV.form {w : World} {B : Nat} {v : Value} {xs : List Nat} (h : NatV w B v xs) : ∃ p cap, v = .slice p xs.length cap := by
  rcases h.forms with ⟨rfl, rfl⟩ | ⟨g, cap, rfl⟩
  · exact ⟨none, 0, rfl⟩
  · exact ⟨_, _, rfl⟩
theorem NatV.below {w w' : World} {B : Nat} {v : Value} {xs : List Nat} (h : NatV w B v xs) (hb : Below w.heap.size w w') : NatV w' B v xs := by
  refine ⟨h.1, ?_⟩
  rcases h.2 with h2 | ⟨g, cap, cur, hv, hg, hh, r⟩
  · exact .inl h2
  · exact .inr ⟨g, cap, cur, hv, hg, by rw [hb.block g (Array.getElem?_eq_some_iff.1 hh).1]; exact hh, r⟩
theorem NatV.le {w : World} {B B' : Nat} {v : Value} {xs : List Nat} (h : NatV w B v xs) (hb : B' ≤ B) : NatV w B' v xs := Joins.ownsRow_le h hb
theorem NatV.cap {w : World} {B g cap : Nat} {n : Nat} {xs : List Nat} (h : NatV w B (.slice (some ⟨g, 0, none⟩) n cap) xs) : n = xs.length ∧ xs.length ≤ cap ∧ cap ≤ maxLen ∧ g < w.heap.size ∧ B ≤ g := by
  rcases h.2 with ⟨h1, _⟩ | ⟨g', cap', cur, hv, hg, hh, h1, h2, r⟩
  · cases h1
  · cases hv
    exact ⟨rfl, h1, h2, (Array.getElem?_eq_some_iff.1 hh).1, hg⟩
theorem NatV.cell {w : World} {B g n cap : Nat} {xs : List Nat} (h : NatV w B (.slice (some ⟨g, 0, none⟩) n cap) xs) (j : Nat) (hj : j < xs.length) :
    w.cell? ⟨g, j, none⟩ = some (.int .u64 ((nth xs j : Nat) : Int)) := by
  obtain ⟨rfl, _⟩ := h.cap
  rw [World.ownsRow.cellAt h j (by omega)]; exact u64s_at xs j hj
theorem NatV.len {w : World} {B : Nat} {v : Value} {xs : List Nat} (h : NatV w B v xs) : xs.length ≤ maxLen := by
  rcases h.2 with ⟨_, h2⟩ | ⟨g, cap, cur, hv, hg, hh, h1, h2, r⟩
  · omega
  · omega

theorem Tryz.info90 : (Tryz.prog.info? 90).map (fun i => (i.zero, i.size, i.bytes)) = some (some (.int .u64 0), 1, 8) := by kernel_rfl
/-- 'append(out, x)' of one word onto a row of the call's own. -/
theorem wpList_append_word {w : World} {ops : Array Oper} {rest : List Oper} {o : Oper} {a : Act} {Q : Exit → Act → World → Prop} {yi : Int} (hgd : o.guard = none) (s x : Operand)
    (ho : o.op = .call { callee := .builtin .append, args := #[s, x], argTypes := #[53, 53] })
    (B : Nat) (v : Value) (xs : List Nat) (hs : a.eval s = v) (hown : NatV w B v xs) (y : Nat)
    (hx : a.eval x = .slice (some ⟨w.heap.size, 0, none⟩) 1 1) (hy : yi = (y : Int)) (hlen : xs.length ≤ 1000000000000) (hbase : B ≤ w.heap.size)
    (h : ∀ v' w', NatV w' B v' (xs ++ [y]) → (w.alloc (.cells #[.int .u64 yi] 90)).grownBy w' v.ownBlock → wpList Tryz.prog ops Q rest (a.put o.dst v') w') :
    wpList Tryz.prog ops Q (o :: rest) a (w.alloc (.cells #[.int .u64 yi] 90)) := by
  obtain ⟨i0, hi, hz0, hz1, hz2⟩ := info_parts Tryz.info90
  subst hy
  refine wpList_append_own _ hgd s x 53 ho B 90 i0 (.int .u64 0) 1 8 Tryz.underlying53 hi hz0 hz1 hz2 rfl (by decide) v xs.length (u64s xs) hs (World.ownsRow.alloc hown _) ⟨w.heap.size, 0, none⟩ 1 1 [.int .u64 (y : Int)] hx rfl ?_ ?_ ?_ ?_ ?_ ?_
  · intro j u hj
    match j, hj with
    | 0, hj => simp at hj; subst hj; exact World.cell?_alloc_at _ _ _ _ rfl
  · intro u hu; simp at hu; subst hu; rfl
  · unfold maxLen; omega
  · omega
  · simp; omega
  · intro v' w' h1 h2 _
    refine h v' w' ?_ h2
    unfold NatV
    rw [u64s_app, List.length_append]
    exact h1
theorem same {P : Program} {f : FuncId} {args : Array Value} {w : World} {e0 : Ending}
    (h : Calls P f args w fun e w' => e = e0 ∧ w' = w) : Calls P f args w fun e w' => e = e0 ∧ w = w' := h.mono fun _ _ ⟨a, b⟩ => ⟨a, b.symm⟩
theorem quiet_same {P : Program} {f : FuncId} {args : Array Value} {w : World} {n : Nat} {v : Value}
    (h : Calls P f args (w.drewN n) fun e w' => e = .returned v ∧ w.drewN n = w') : Calls P f args (w.drewN n) fun e w'' => e = .returned v ∧ ∃ m, w'' = w.drewN m :=
  Calls.quiet_of_same (h.mono fun _ _ ⟨a, b⟩ => ⟨a, b.symm⟩)
theorem below_append {B : Nat} {w wr w1 : World} {v : Value} {os : List Nat} {o : Obj} (hb : Below B w wr) (hB : B ≤ wr.heap.size) (hv : NatV wr B v os)
    (hg : (wr.alloc o).grownBy w1 v.ownBlock) : Below B w w1 := (hb.alloc hB o).grown hg (by simp; omega) (fun k hk => (World.ownsRow.lt hv k hk).1)
theorem NatV.alloc {w : World} {B : Nat} {v : Value} {xs : List Nat} (h : NatV w B v xs) (o : Obj) : NatV (w.alloc o) B v xs := World.ownsRow.alloc h o
theorem Below.drewN {B : Nat} {a w : World} (h : Below B a w) (n : Nat) : Below B a (w.drewN n) := below_drewN h n
theorem u64s_set (os : List Nat) (j y : Nat) : u64s (os.set j y) = (u64s os).set j (.int .u64 (y : Int)) := by simp [u64s, List.map_set]
/-- A store of a word into a row of the call's own. -/
theorem NatV.set {w : World} {B g n cap : Nat} {os : List Nat} (h : NatV w B (.slice (some ⟨g, 0, none⟩) n cap) os) (j y : Nat) (yi : Int) (hy : yi = (y : Int)) :
    NatV (w.setCell ⟨g, j, none⟩ (.int .u64 yi)) B (.slice (some ⟨g, 0, none⟩) n cap) (os.set j y) := by
  subst hy
  obtain ⟨rfl, _⟩ := h.cap
  have := (World.ownsRow.stored h j (.int .u64 (y : Int))).1
  unfold NatV
  rw [u64s_set, List.length_set]
  exact this
theorem NatV.set_other {w : World} {B g : Nat} {v : Value} {xs : List Nat} (hx : NatV w B v xs) (hne : v.ownBlock ≠ some g) (j : Nat) (u : Value) :
    NatV (w.setCell ⟨g, j, none⟩ u) B v xs := ownsRow_setCell_other hx hne u
theorem NatV.frozen {w : World} {B g n cap : Nat} {os : List Nat} (h : NatV w B (.slice (some ⟨g, 0, none⟩) n cap) os) (j : Nat) : w.frozen? ⟨g, j, none⟩ = false := by
  obtain ⟨rfl, _⟩ := h.cap
  exact World.ownsRow.frozenAt h j
theorem wpList_make_words {w : World} {ops : Array Oper} {rest : List Oper} {o : Oper} {a : Act} {Q : Exit → Act → World → Prop}
    (hg : o.guard = none) (l c : Operand) (hop : o.op = Op.makeSlice 53 l c)
    (L C : Int) (n : Nat) (hl : a.eval l = .int .i64 L) (hc : a.eval c = .int .i64 C) (hL : L = (n : Int)) (hC : C = (n : Int)) (b2 : n ≤ 1000000000000)
    (hK : ∀ w', NatV w' w.heap.size (.slice (some ⟨w.heap.size, 0, none⟩) n n) (List.replicate n 0) → Below w.heap.size w w' → wpList Tryz.prog ops Q rest (a.put o.dst (.slice (some ⟨w.heap.size, 0, none⟩) n n)) w') :
    wpList Tryz.prog ops Q (o :: rest) a w := by
  obtain ⟨i0, hi, hz0, hz1, hz2⟩ := info_parts Tryz.info90
  refine wpList_make_full w hg l c 53 hop w.heap.size 90 i0 (.int .u64 0) 1 Tryz.underlying53 hi hz0 hz1 .i64 .i64 L C n hl hc hL hC (by rw [hz2]; omega) (by unfold maxLen; omega) (Nat.le_refl _) ?_
  intro w' h1 h2
  refine hK w' ?_ ((Below.refl _ _).grown h2 (Nat.le_refl _) (fun k hk => by cases hk))
  unfold NatV
  rw [show (madeCells (Value.int IntKind.u64 0).cells (n * 1)).toList = u64s (List.replicate n 0) from ?_] at h1
  · rw [List.length_replicate]; exact h1
  · show (madeCells #[Value.int .u64 0] (n * 1)).toList = _
    rw [toList_madeCells_one, Nat.mul_one]; simp [u64s]
/-- A row of one word, just made. -/
theorem NatV.one (w : World) (yi : Int) (y : Nat) (hy : yi = (y : Int)) : NatV (w.alloc (.cells #[.int .u64 yi] 90)) w.heap.size (.slice (some ⟨w.heap.size, 0, none⟩) 1 1) [y] := by
  subst hy
  exact World.ownsRow_lit w #[.int .u64 (y : Int)] 1 (Nat.le_refl _) (by unfold maxLen; omega) rfl
/-- 'append(xs, ys...)' of words onto a row of the call's own. -/
theorem wpList_append_words {w : World} {ops : Array Oper} {rest : List Oper} {o : Oper} {a : Act} {Q : Exit → Act → World → Prop} (hgd : o.guard = none) (s x : Operand)
    (ho : o.op = .call { callee := .builtin .append, args := #[s, x], argTypes := #[53, 53] })
    (B B2 : Nat) (v vx : Value) (xs ys : List Nat) (hs : a.eval s = v) (hown : NatV w B v xs) (hx : a.eval x = vx) (hsrc : NatV w B2 vx ys)
    (hlen : xs.length + ys.length ≤ 1000000000000) (hbase : B ≤ w.heap.size)
    (h : ∀ v' w', NatV w' B v' (xs ++ ys) → w.grownBy w' v.ownBlock → wpList Tryz.prog ops Q rest (a.put o.dst v') w') :
    wpList Tryz.prog ops Q (o :: rest) a w := by
  obtain ⟨i0, hi, hz0, hz1, hz2⟩ := info_parts Tryz.info90
  rcases hsrc.forms with ⟨rfl, rfl⟩ | ⟨g, cap, rfl⟩
  · refine wpList_append_own_none hgd s x 53 ho B 90 i0 1 Tryz.underlying53 hi v xs.length (u64s xs) hs hown hx ?_
    exact h v w (by rw [List.append_nil]; exact hown) ⟨rfl, rfl, rfl, Nat.le_refl _, fun _ _ _ => rfl⟩
  · refine wpList_append_own _ hgd s x 53 ho B 90 i0 (.int .u64 0) 1 8 Tryz.underlying53 hi hz0 hz1 hz2 rfl (by decide) v xs.length (u64s xs) hs hown ⟨g, 0, none⟩ ys.length cap (u64s ys) hx (by simp [u64s_len]) ?_ ?_ ?_ ?_ hbase ?_
    · intro j u hj
      have hjl : j < ys.length := by
        have := (List.getElem?_eq_some_iff.1 hj).1; rw [u64s_len] at this; exact this
      rw [u64s_at ys j hjl] at hj
      cases hj
      have := hsrc.cell j hjl
      cases j with
      | zero => simpa [Addr.add] using this
      | succ j => simpa [Addr.add] using this
    · intro u hu; simp only [u64s, List.mem_map] at hu; obtain ⟨y, _, rfl⟩ := hu; rfl
    · unfold maxLen; omega
    · omega
    · intro v' w' h1 h2 _
      refine h v' w' ?_ h2
      unfold NatV
      rw [u64s_app, List.length_append]
      exact h1
end Go.Proofs.YtkakmjdfecbhaaaGreatDoor
