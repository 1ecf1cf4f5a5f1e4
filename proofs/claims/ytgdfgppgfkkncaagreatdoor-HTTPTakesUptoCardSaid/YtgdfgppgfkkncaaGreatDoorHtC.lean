/- Bytes that wait: what is kept, and 'append' onto them. -/
import Derived.Test.YtgdfgppgfkkncaaGreatDoorHt6
import Derived.ArgAppend
namespace Go.Proofs.YtgdfgppgfkkncaaGreatDoor
open Go.RowKit

/-- The values of a list of bytes. -/
def u8s (l : List UInt8) : List Value := l.map (fun c => Value.int .u8 (c.toNat : Int))
theorem u8s_len (l : List UInt8) : (u8s l).length = l.length := by simp [u8s]
theorem u8s_app (a b : List UInt8) : u8s (a ++ b) = u8s a ++ u8s b := by simp [u8s]
theorem u8s_at (xs : List UInt8) (j : Nat) (h : j < xs.length) : (u8s xs)[j]? = some (.int .u8 ((xs.getD j 0).toNat : Int)) := by
  simp [u8s, List.getElem?_eq_getElem h]
theorem u8s_one (l : List UInt8) : ∀ u ∈ u8s l, u.oneCell' = true := by
  intro u hu
  obtain ⟨c, _, rfl⟩ := List.mem_map.1 hu
  rfl
theorem u8s_ints (l : List UInt8) : u8s l = (l.map (fun c => (c.toNat : Int))).map (Value.int .u8) := by simp [u8s]
/-- v is a slice of bytes from block B on, that reads as l. -/
def BytV (w : World) (B : Nat) (v : Value) (l : List UInt8) : Prop := w.ownsRow B 5 1 v l.length (u8s l)
theorem Tryz.info5 : (Tryz.prog.info? 5).map (fun i => (i.zero, i.size, i.bytes)) = some (some (.int .u8 0), 1, 1) := by kernel_rfl

/-- All blocks but some stand. -/
structure Apart (S : Nat → Prop) (w w' : World) : Prop where
  os : w'.os = w.os
  tape : w'.tape = w.tape
  output : w'.output = w.output
  size : w.heap.size ≤ w'.heap.size
  block : ∀ k, k < w.heap.size → ¬ S k → w'.heap[k]? = w.heap[k]?
theorem Apart.refl (S : Nat → Prop) (w : World) : Apart S w w := ⟨rfl, rfl, rfl, Nat.le_refl _, fun _ _ _ => rfl⟩
theorem Apart.ofBelow {S : Nat → Prop} {w w' : World} (h : Below w.heap.size w w') : Apart S w w' := ⟨h.os, h.tape, h.output, h.size, fun k hk _ => h.block k hk⟩
theorem Apart.trans {S S' : Nat → Prop} {a b c : World} (h : Apart S a b) (k : Apart S' b c) (hs : ∀ i, i < a.heap.size → S' i → S i) : Apart S a c :=
  ⟨k.os.trans h.os, k.tape.trans h.tape, k.output.trans h.output, Nat.le_trans h.size k.size, fun i hi hn => (k.block i (Nat.lt_of_lt_of_le hi h.size) (fun e => hn (hs i hi e))).trans (h.block i hi hn)⟩
theorem Apart.ofGrown {S : Nat → Prop} {w w' : World} {row : Option Nat} (h : w.grownBy w' row) (hs : ∀ k, row = some k → S k) : Apart S w w' :=
  ⟨h.os, h.tape, h.output, h.size, fun k hk hn => h.block k hk (fun e => hn (hs k e.symm))⟩
theorem Apart.below {S : Nat → Prop} {w w' : World} {B : Nat} (h : Apart S w w') (hB : B ≤ w.heap.size) (hs : ∀ i, i < B → ¬ S i) : Below B w w' :=
  ⟨h.os, h.tape, h.output, h.size, fun k hk => h.block k (by omega) (hs k hk)⟩
theorem Apart.set {S : Nat → Prop} (w : World) {a : Addr} (ha : S a.block) (v : Value) : Apart S w (w.setCell a v) :=
  ⟨rfl, rfl, rfl, by simp, fun k _ hn => Below.heap_setCell _ _ _ _ (fun e => hn (by rw [e]; exact ha))⟩
theorem Apart.cell {S : Nat → Prop} {w w' : World} (h : Apart S w w') {a : Addr} (hl : a.block < w.heap.size) (hn : ¬ S a.block) : w'.cell? a = w.cell? a := World.cell?_of_block (h.block _ hl hn)
theorem Apart.frozen {S : Nat → Prop} {w w' : World} (h : Apart S w w') {a : Addr} (hl : a.block < w.heap.size) (hn : ¬ S a.block) : w'.frozen? a = w.frozen? a := World.frozen?_of_block (h.block _ hl hn)
theorem RowAt.apart {S : Nat → Prop} {w w' : World} {g : Nat} {l : List Value} (h : RowAt w g l) (ha : Apart S w w') (hn : ¬ S g) : RowAt w' g l :=
  ⟨fun i v hi => (ha.cell (a := ⟨g, i, none⟩) h.lt hn).trans (h.cell i v hi), fun i => (ha.frozen (a := ⟨g, i, none⟩) h.lt hn).trans (h.free i), Nat.lt_of_lt_of_le h.lt ha.size⟩
theorem ownsRow_apart {S : Nat → Prop} {w w' : World} {B : Nat} {e : TypeId} {size : Nat} {v : Value} {n : Nat} {xs : List Value} (h : w.ownsRow B e size v n xs) (ha : Apart S w w') (hn : ∀ k, v.ownBlock = some k → ¬ S k) : w'.ownsRow B e size v n xs := by
  rcases h.2 with ⟨hv, h2⟩ | ⟨g', cap, cur, rfl, h1, hgg, h3⟩
  · exact ⟨h.1, .inl ⟨hv, h2⟩⟩
  · exact ⟨h.1, .inr ⟨g', cap, cur, rfl, h1, (ha.block _ (Array.getElem?_eq_some_iff.1 hgg).1 (hn _ rfl)).trans hgg, h3⟩⟩
theorem BytS.apart {S : Nat → Prop} {w w' : World} {v : Value} {l : List UInt8} (h : BytS w v l) (ha : Apart S w w') (hn : ∀ k, v.ownBlock = some k → ¬ S k) : BytS w' v l := by
  rcases h with h | ⟨b, off, cap, rfl, h2, h3, h4, h5⟩
  · exact .inl h
  · exact .inr ⟨b, off, cap, rfl, h2, h3, Nat.lt_of_lt_of_le h4 ha.size, fun j hj => (ha.cell (a := ⟨b, off + j, none⟩) h4 (hn _ rfl)).trans (h5 j hj)⟩

/-- Bytes that wait: a slice of the connection's own, from block B on, with its spare cells. -/
def WaitV (w : World) (B : Nat) (v : Value) (l : List UInt8) : Prop :=
  (v = .slice none 0 0 ∧ l = []) ∨ ∃ g off cap, v = .slice (some ⟨g, off, none⟩) l.length cap ∧ B ≤ g ∧ g < w.heap.size ∧ l.length ≤ cap ∧ cap ≤ maxLen ∧
    (∀ j, j < l.length → w.cell? ⟨g, off + j, none⟩ = some (.int .u8 ((l.getD j 0).toNat : Int))) ∧ (∀ j, j < cap → (w.cell? ⟨g, off + j, none⟩).isSome = true) ∧ ∀ j, j < cap → w.frozen? ⟨g, off + j, none⟩ = false
theorem WaitV.nil (w : World) (B : Nat) : WaitV w B (.slice none 0 0) [] := .inl ⟨rfl, rfl⟩
theorem WaitV.byts {w : World} {B : Nat} {v : Value} {l : List UInt8} (h : WaitV w B v l) : BytS w v l := by
  rcases h with h | ⟨g, off, cap, h1, h2, h3, h4, h5, h6, h7, h8⟩
  · exact .inl h
  · exact .inr ⟨g, off, cap, h1, h4, by omega, h3, h6⟩
theorem WaitV.apart {S : Nat → Prop} {w w' : World} {B : Nat} {v : Value} {l : List UInt8} (h : WaitV w B v l) (ha : Apart S w w') (hn : ∀ k, v.ownBlock = some k → ¬ S k) : WaitV w' B v l := by
  rcases h with h | ⟨g, off, cap, rfl, h2, h3, h4, h5, h6, h7, h8⟩
  · exact .inl h
  · have hg := hn g rfl
    exact .inr ⟨g, off, cap, rfl, h2, Nat.lt_of_lt_of_le h3 ha.size, h4, h5, fun j hj => (ha.cell (a := ⟨g, off + j, none⟩) h3 hg).trans (h6 j hj), fun j hj => by rw [ha.cell (a := ⟨g, off + j, none⟩) h3 hg]; exact h7 j hj, fun j hj => (ha.frozen (a := ⟨g, off + j, none⟩) h3 hg).trans (h8 j hj)⟩
theorem WaitV.below {w w' : World} {B : Nat} {v : Value} {l : List UInt8} (h : WaitV w B v l) (hb : Below w.heap.size w w') : WaitV w' B v l := h.apart (S := fun _ => False) (.ofBelow hb) (fun _ _ h => h)
theorem WaitV.lt {w : World} {B : Nat} {v : Value} {l : List UInt8} (h : WaitV w B v l) {k : Nat} (hk : v.ownBlock = some k) : B ≤ k ∧ k < w.heap.size := by
  rcases h with ⟨rfl, _⟩ | ⟨g, off, cap, rfl, h2, h3, _⟩
  · cases hk
  · cases hk; exact ⟨h2, h3⟩
theorem WaitV.drop {w : World} {B g off n cap : Nat} {l : List UInt8} (h : WaitV w B (.slice (some ⟨g, off, none⟩) n cap) l) (k : Nat) (hk : k ≤ l.length) : WaitV w B (.slice (some ⟨g, off + k, none⟩) (n - k) (cap - k)) (l.drop k) := by
  rcases h with ⟨h, _⟩ | ⟨g, off, cap, h1, h2, h3, h4, h5, h6, h7, h8⟩
  · cases h
  · cases h1
    refine .inr ⟨g, off + k, cap - k, by rw [List.length_drop], h2, h3, by rw [List.length_drop]; omega, by omega, fun j hj => ?_, fun j hj => ?_, fun j hj => by rw [Nat.add_assoc]; exact h8 (k + j) (by omega)⟩
    · rw [List.length_drop] at hj
      rw [Nat.add_assoc, h6 (k + j) (by omega)]
      congr 3
      simp [List.getD_eq_getElem?_getD]
    · rw [Nat.add_assoc]; exact h7 (k + j) (by omega)
theorem waitV_own {w : World} {B B' : Nat} {v : Value} {l : List UInt8} (h : BytV w B v l) (hB : B' ≤ B) : WaitV w B' v l := by
  rcases h.2 with ⟨rfl, h2⟩ | ⟨g, cap, cur, rfl, h1, hgg, h3, h4, h5, h6⟩
  · exact .inl ⟨rfl, List.length_eq_zero_iff.1 h2⟩
  · have hlt := (Array.getElem?_eq_some_iff.1 hgg).1
    refine .inr ⟨g, 0, cap, rfl, by omega, hlt, h3, h4, fun j hj => ?_, fun j hj => ?_, fun j _ => World.ownsRow.frozenAt h _⟩
    · rw [Nat.zero_add, World.ownsRow.cellAt h j (by omega), u8s_at l j hj]
    · rw [Nat.zero_add]
      simp [World.cell?, hgg]
      omega
/-- '[]byte(s)' has spare cells that may be written. -/
theorem waitV_string (w : World) (l : List UInt8) (hl : l.length ≤ 1000000000) : ∃ cap, (convert 9 23 (.string ⟨l.toArray⟩)).run Tryz.prog w = .ok (.slice (some ⟨w.heap.size, 0, none⟩) l.length cap) (Lib.bytesWorld w 5 ⟨l.toArray⟩) ∧
    WaitV (Lib.bytesWorld w 5 ⟨l.toArray⟩) w.heap.size (.slice (some ⟨w.heap.size, 0, none⟩) l.length cap) l ∧ Below w.heap.size w (Lib.bytesWorld w 5 ⟨l.toArray⟩) := by
  have hc := Lib.run_convert_string_bytes (P := Tryz.prog) w 9 23 5 ⟨l.toArray⟩ Tryz.underlying9 Tryz.underlying23 Tryz.underlying5
  have hsz : (⟨l.toArray⟩ : ByteArray).size = l.length := by simp [ByteArray.size]
  have hnew := Lib.bytesWorld_at_new w 5 ⟨l.toArray⟩
  have hcs : (Lib.bytesCells w 5 ⟨l.toArray⟩).size = grownCap w l.length 0 5 := by
    have := grownCap_ge w l.length 0 5
    unfold Lib.bytesCells
    rw [hsz]
    simp; omega
  rw [hsz] at hc
  refine ⟨_, hc, .inr ⟨_, 0, _, rfl, Nat.le_refl _, by rw [Lib.bytesWorld_size]; omega, grownCap_ge _ _ _ _, grownCap_le_maxLen w l.length 0 5 (by unfold maxLen; omega), fun j hj => ?_, fun j hj => ?_, fun j hj => ?_⟩, ⟨rfl, rfl, rfl, by rw [Lib.bytesWorld_size]; omega, fun k hk => Lib.bytesWorld_at_old w _ _ k hk⟩⟩
  · rw [Nat.zero_add]
    exact Lib.bytesWorld_cell w 5 ⟨l.toArray⟩ j (by rw [hsz]; exact hj)
  · rw [Nat.zero_add]
    unfold World.cell?
    rw [hnew]
    simp; omega
  · rw [Nat.zero_add]
    unfold World.frozen?
    rw [hnew]
    simp; omega
theorem run_append_zero (w : World) (ty : TypeId) {B : Nat} {v x : Value} {l : List UInt8} (hv : WaitV w B v l) (hx : BytS w x []) :
    (Builtin.append_ #[23, 23] ty #[v, x]).run Tryz.prog w = .ok v w := by
  obtain ⟨i0, hi, hz0, hz1, hz2⟩ := info_parts Tryz.info5
  obtain ⟨p, cap, rfl, _, _, _⟩ := hx.open
  rcases hv with ⟨rfl, rfl⟩ | ⟨g, off, cap, rfl, h2, h3, h4, _⟩
  · cases p <;> simp [Builtin.append_, run_underlying Tryz.underlying23, sizeOf, typeInfo, hi, Builtin.lenOf, Builtin.firstCells, loadCells, loadCellsFrom]
  · cases p <;> simp [Builtin.append_, run_underlying Tryz.underlying23, sizeOf, typeInfo, hi, Builtin.lenOf, Builtin.firstCells, loadCells, loadCellsFrom, h4, storeCells]
theorem run_append_wait (w : World) (ty : TypeId) {B : Nat} {v x : Value} {l m : List UInt8} (hv : WaitV w B v l) (hx : BytS w x m) (hlen : l.length + m.length ≤ 100000000) (hB : B ≤ w.heap.size) :
    ∃ v' w', (Builtin.append_ #[23, 23] ty #[v, x]).run Tryz.prog w = .ok v' w' ∧ WaitV w' B v' (l ++ m) ∧ w.grownBy w' v.ownBlock ∧ ∀ k, v'.ownBlock = some k → v.ownBlock = some k ∨ w.heap.size ≤ k := by
  obtain ⟨i0, hi, hz0, hz1, hz2⟩ := info_parts Tryz.info5
  by_cases hm : m = []
  · subst hm
    refine ⟨v, w, run_append_zero w ty hv hx, by rw [List.append_nil]; exact hv, ⟨rfl, rfl, rfl, Nat.le_refl _, fun _ _ _ => rfl⟩, fun k hk => .inl hk⟩
  · have hm1 : 0 < m.length := List.length_pos_iff.2 hm
    rcases hx with ⟨_, h⟩ | ⟨b, off, cx, rfl, hx2, hx3, hx4, hx5⟩
    · exact absurd h hm
    have hnew : ∀ j u, (u8s m)[j]? = some u → w.cell? ((⟨b, off, none⟩ : Addr).add j) = some u := by
      intro j u hj
      have hj2 := (List.getElem?_eq_some_iff.1 hj).1
      rw [u8s_len] at hj2
      rw [u8s_at m j hj2] at hj
      cases hj
      rw [addr_off rfl]
      exact hx5 j hj2
    have hmx : (100000000 : Nat) ≤ maxLen := by decide
    rcases hv with ⟨rfl, rfl⟩ | ⟨g, of, cap, rfl, h2, h3, h4, h5, h6, h7, h8⟩
    · obtain ⟨v', w', hr, ho, hg, _⟩ := run_append_own (P := Tryz.prog) w w.heap.size 23 ty 5 i0 _ 1 1 Tryz.underlying23 hi hz0 hz1 hz2 rfl (by decide) (.slice none 0 0) 0 [] (World.ownsRow_nil w _ 5 1) ⟨b, off, none⟩ m.length cx (u8s m) (by rw [u8s_len, Nat.mul_one]) hnew (u8s_one m) (by simp at hlen; omega) (by simp at hlen; omega) (Nat.le_refl _)
      rw [Nat.zero_add, List.nil_append] at ho
      exact ⟨v', w', hr, waitV_own ho hB, hg, fun k hk => .inr (World.ownsRow.lt ho k hk).1⟩
    · by_cases hr : l.length + m.length ≤ cap
      · have hrun := run_append_room_cells (P := Tryz.prog) w 23 ty 5 i0 Tryz.underlying23 hi g of l.length cap ⟨b, off, none⟩ m.length cx (u8s m) (by rw [u8s_len, hz1, Nat.mul_one]) hnew (u8s_one m) hr
          (fun j hj => by rw [u8s_len] at hj; rw [hz1, Nat.mul_one, Nat.add_assoc]; exact h7 _ (by omega)) (fun j hj => by rw [u8s_len] at hj; rw [hz1, Nat.mul_one, Nat.add_assoc]; exact h8 _ (by omega))
        rw [hz1, Nat.mul_one] at hrun
        have hin := World.cell?_setCells_in g (u8s m) (of + l.length) w (fun j hj => by rw [u8s_len] at hj; rw [Nat.add_assoc]; exact h7 _ (by omega))
        have hout : ∀ j, j < l.length → (w.setCells g (of + l.length) (u8s m)).cell? ⟨g, of + j, none⟩ = w.cell? ⟨g, of + j, none⟩ := fun j hj => World.cell?_setCells_out g _ _ _ _ (fun _ _ => .inl (by show of + j < _; omega))
        have hsz : (w.setCells g (of + l.length) (u8s m)).heap.size = w.heap.size := by
          have : ∀ (vs : List Value) (o : Nat) (w : World), (w.setCells g o vs).heap.size = w.heap.size := by
            intro vs
            induction vs with
            | nil => intro o w; rfl
            | cons a t ih => intro o w; rw [World.setCells, ih]; simp
          exact this _ _ _
        have hap : ∀ (vs : List Value) (o : Nat) (w : World), w.grownBy (w.setCells g o vs) (some g) := by
          intro vs
          induction vs with
          | nil => intro o w; exact ⟨rfl, rfl, rfl, Nat.le_refl _, fun _ _ _ => rfl⟩
          | cons a t ih =>
            intro o w
            have h9 := ih (o + 1) (w.setCell ⟨g, o, none⟩ a)
            rw [World.setCells]
            exact ⟨h9.os, h9.tape, h9.output, by have := h9.size; simpa using this, fun k hk hn => (h9.block k (by simpa using hk) hn).trans (Below.heap_setCell _ _ _ _ (fun e => hn (by rw [e])))⟩
        refine ⟨_, _, hrun, .inr ⟨g, of, cap, by rw [List.length_append], h2, by rw [hsz]; exact h3, by rw [List.length_append]; exact hr, h5, fun j hj => ?_, fun j hj => ?_, fun j hj => by rw [World.frozen?_setCells]; exact h8 j hj⟩, hap _ _ _, fun k hk => .inl hk⟩
        · rw [List.length_append] at hj
          by_cases hjl : j < l.length
          · have he : (l ++ m).getD j 0 = l.getD j 0 := by simp [List.getD_eq_getElem?_getD, List.getElem?_append_left hjl]
            rw [hout j hjl, h6 j hjl, he]
          · obtain ⟨i, rfl⟩ : ∃ i, j = l.length + i := ⟨j - l.length, by omega⟩
            rw [← Nat.add_assoc, hin i (by rw [u8s_len]; omega)]
            simp [u8s, List.getElem?_append_right, List.getElem?_eq_getElem (show i < m.length by omega)]
        · by_cases hjl : l.length ≤ j ∧ j < l.length + m.length
          · obtain ⟨i, rfl⟩ : ∃ i, j = l.length + i := ⟨j - l.length, by omega⟩
            rw [← Nat.add_assoc, hin i (by rw [u8s_len]; omega)]
            exact Option.isSome_some
          · have hfar : of + j < of + l.length ∨ of + l.length + m.length ≤ of + j := by omega
            rw [World.cell?_setCells_out g _ _ _ _ (fun _ _ => by rw [u8s_len]; exact hfar)]
            exact h7 j hj
      · obtain ⟨v', w', hrn, ho, hg⟩ := run_append_arg_grows (P := Tryz.prog) w 23 ty 5 i0 _ 1 1 Tryz.underlying23 hi hz0 hz1 hz2 rfl (by decide) ⟨g, of, none⟩ l.length cap (u8s l) (by rw [u8s_len, Nat.mul_one])
          (fun j u hj => by
            have hj2 := (List.getElem?_eq_some_iff.1 hj).1
            rw [u8s_len] at hj2
            rw [u8s_at l j hj2] at hj
            cases hj
            rw [addr_off rfl]; exact h6 j hj2)
          ⟨b, off, none⟩ m.length cx (u8s m) (by rw [u8s_len, Nat.mul_one]) hnew (by omega) (by omega) (by omega)
        have ho2 : BytV w' w.heap.size v' (l ++ m) := by
          unfold BytV
          rw [List.length_append, u8s_app]
          exact ho
        exact ⟨v', w', hrn, waitV_own ho2 hB, ⟨hg.os, hg.tape, hg.output, hg.size, fun k hk _ => hg.block k hk (by simp)⟩, fun k hk => .inr (World.ownsRow.lt ho k hk).1⟩
/-- 'append(wait, x...)', for the walk. -/
theorem wpList_append_wait {w : World} {ops : Array Oper} {rest : List Oper} {o : Oper} {a : Act} {Q : Exit → Act → World → Prop} (hgd : o.guard = none) (s x : Operand)
    (ho : o.op = .call { callee := .builtin .append, args := #[s, x], argTypes := #[23, 23] })
    (B : Nat) (v xv : Value) (l m : List UInt8) (hs : a.eval s = v) (hv : WaitV w B v l) (hx : a.eval x = xv) (hxv : BytS w xv m) (hlen : l.length + m.length ≤ 100000000) (hB : B ≤ w.heap.size)
    (hK : ∀ v' w', WaitV w' B v' (l ++ m) → w.grownBy w' v.ownBlock → (∀ k, v'.ownBlock = some k → v.ownBlock = some k ∨ w.heap.size ≤ k) → wpList Tryz.prog ops Q rest (a.put o.dst v') w') :
    wpList Tryz.prog ops Q (o :: rest) a w := by
  refine wpList_plain hgd fun K hK' => ?_
  obtain ⟨v', w', hrun, h1, h2, h3⟩ := run_append_wait w o.type hv hxv hlen hB
  unfold Oper.wp
  simp [execOp, ho, resolve, invoke, builtin, hs, hx, hrun, Result.andThen]
  exact hK' _ _ (hK _ _ h1 h2 h3)
end Go.Proofs.YtgdfgppgfkkncaaGreatDoor
