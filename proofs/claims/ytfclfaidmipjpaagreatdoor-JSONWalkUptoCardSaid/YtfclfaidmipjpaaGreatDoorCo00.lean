/- Texts of this claim, joined: Reg, JsB, Val, Dig, DecL, ParL. -/
import Derived.Deep.RegionHeld3
import Derived.Deep.DrawnRows
import Derived.Test.YtfclfaidmipjpaaGreatDoorProg
import Derived.Handy
import Derived.BigQuiet
import Derived.Deep.CutBlock
import Derived.Deep.DeepCutAuto
import Derived.WalkSpells
import Derived.WalkLawsBesides
import Derived.Lib.SmallJoins
import Derived.Lib.Hide
import Derived.Laws.AppendOwnNone
namespace Go.Proofs.YtfclfaidmipjpaaGreatDoor
set_option maxRecDepth 100000
set_option maxHeartbeats 20000000
variable {P : Program} {ops : Array Oper} {Q : Exit → Act → World → Prop} {md : Region.Mode} {S : World → Prop}
theorem op_at {i : Nat} {oi : Oper} {rest : List Oper} (h : ops.toList.drop i = oi :: rest) : ops[i]? = some oi := by
 have h1 : (ops.toList.drop i)[0]? = some oi := by rw [h]; rfl
 rw [List.getElem?_drop] at h1
 simpa using h1
theorem held_take {i : Nat} {oi : Oper} {rest : List Oper} {v : Value} {fuel : Nat} {listed : Array Bool} {a : Act} {w : World} (hi : ops.toList.drop i = oi :: rest)
  (hs : Region.noSelect ops = true) (hf : Region.free md ops listed i = true) (hr : (Region.ready md ops listed).contains i = true)
  (hQ : ∀ c a w, Q (.panic c) (a.put oi.dst v) w → Q (.panic c) a w) (hw : Region.wanted oi (yielded ops a.tmps) = true)
  (hy : ∀ w, S w → (execOp a.eval oi).run P w = .ok (.value v) w) (hS : S w)
  (h : wpAnyH P md ops Q S fuel (listed.setIfInBounds i true) (a.put oi.dst v) w) : wpAnyH P md ops Q S (fuel + 1) listed a w :=
 wpAnyH_take (op_at hi) hs hf hr hQ (.inl ⟨hw, hy⟩) hS h
theorem held_step {i : Nat} {o : Oper} {rest : List Oper} {fuel : Nat} {listed : Array Bool} {a : Act} {w : World} (hr : Region.ready md ops listed = [i]) (ho : ops.toList.drop i = o :: rest)
  (hw : Region.wanted o (yielded ops a.tmps) = true)
  (h : ∀ K : Act → World → Prop, Shut (∀ a w, S w → (S w → wpAnyH P md ops Q S fuel (listed.setIfInBounds i true) a w) → K a w) → Oper.wp P o a w K Q) :
  wpAnyH P md ops Q S (fuel + 1) listed a w :=
 wpAnyH_ready hr (by simp) (AllReadyH.cons (op_at ho) (fun K hK => by rw [if_pos hw]; exact h K hK) AllReadyH.nil)
theorem held_ta (i : Nat) {v : Value} {oi : Oper} {rest : List Oper} {fuel : Nat} {listed : Array Bool} {a a' : Act} {w : World} (hS : S w) (h : wpAnyH P md ops Q S fuel (listed.setIfInBounds i true) a' w) (hi : ops.toList.drop i = oi :: rest := by exact rfl)
 (hs : Region.noSelect ops = true := by kernel_rfl) (hf : Region.free md ops listed i = true := by kernel_rfl) (hr : (Region.ready md ops listed).contains i = true := by kernel_rfl)
 (hy : ∀ w, S w → (execOp a.eval oi).run P w = .ok (.value v) w := by intro wq hSq; (try dsimp only at hSq); go_simp; try with_reducible rfl) (hw : Region.wanted oi (yielded ops a.tmps) = true := by rfl)
 (ha : a.put oi.dst v = a' := by simp only [Act.put, List.setIfInBounds_toArray, List.set_cons_zero, List.set_cons_succ]; rfl) (hQ : ∀ c a w, Q (.panic c) (a.put oi.dst v) w → Q (.panic c) a w := by exact fun _ _ _ h => h) : wpAnyH P md ops Q S (fuel + 1) listed a w := by
 subst ha
 exact held_take hi hs hf hr hQ hw hy hS h
theorem held_tv (i : Nat) (v : Value) {oi : Oper} {rest : List Oper} {fuel : Nat} {listed : Array Bool} {a a' : Act} {w : World} (hi : ops.toList.drop i = oi :: rest) (hy : ∀ w, S w → (execOp a.eval oi).run P w = .ok (.value v) w) (hS : S w) (h : wpAnyH P md ops Q S fuel (listed.setIfInBounds i true) a' w)
 (hs : Region.noSelect ops = true := by kernel_rfl) (hf : Region.free md ops listed i = true := by kernel_rfl) (hr : (Region.ready md ops listed).contains i = true := by kernel_rfl)
 (hw : Region.wanted oi (yielded ops a.tmps) = true := by rfl)
 (ha : a.put oi.dst v = a' := by simp only [Act.put, List.setIfInBounds_toArray, List.set_cons_zero, List.set_cons_succ]; rfl) (hQ : ∀ c a w, Q (.panic c) (a.put oi.dst v) w → Q (.panic c) a w := by exact fun _ _ _ h => h) : wpAnyH P md ops Q S (fuel + 1) listed a w := by
 subst ha
 exact held_take hi hs hf hr hQ hw hy hS h
theorem held_sk (i : Nat) {oi : Oper} {rest : List Oper} {fuel : Nat} {listed : Array Bool} {a a' : Act} {w : World} (hS : S w) (h : wpAnyH P md ops Q S fuel (listed.setIfInBounds i true) a' w) (hi : ops.toList.drop i = oi :: rest := by exact rfl)
 (hs : Region.noSelect ops = true := by kernel_rfl) (hf : Region.free md ops listed i = true := by kernel_rfl) (hr : (Region.ready md ops listed).contains i = true := by kernel_rfl) (hw : Region.wanted oi (yielded ops a.tmps) = false := by rfl)
 (ha : a.put oi.dst undef = a' := by simp only [Act.put, List.setIfInBounds_toArray, List.set_cons_zero, List.set_cons_succ]; rfl) (hQ : ∀ c a w, Q (.panic c) (a.put oi.dst undef) w → Q (.panic c) a w := by exact fun _ _ _ h => h) : wpAnyH P md ops Q S (fuel + 1) listed a w := by
 subst ha
 exact wpAnyH_take (op_at hi) hs hf hr hQ (.inr ⟨hw, rfl⟩) hS h
theorem held_st (i : Nat) {o : Oper} {rest : List Oper} {fuel : Nat} {listed : Array Bool} {a : Act} {w : World} (ho : ops.toList.drop i = o :: rest)
 (h : ∀ K : Act → World → Prop, Shut (∀ a w, S w → (S w → wpAnyH P md ops Q S fuel (listed.setIfInBounds i true) a w) → K a w) → Oper.wp P o a w K Q) (hr : Region.ready md ops listed = [i] := by kernel_rfl) (hw : Region.wanted o (yielded ops a.tmps) = true := by rfl) : wpAnyH P md ops Q S (fuel + 1) listed a w := held_step hr ho hw h
theorem held_two {i j : Nat} {o o' : Oper} {rest rest' : List Oper} {fuel : Nat} {listed : Array Bool} {a : Act} {w : World} (hr : Region.ready md ops listed = [i, j]) (ho : ops.toList.drop i = o :: rest) (ho' : ops.toList.drop j = o' :: rest')
  (hw : Region.wanted o (yielded ops a.tmps) = true) (hw' : Region.wanted o' (yielded ops a.tmps) = true)
  (h : ∀ K : Act → World → Prop, Shut (∀ a w, S w → (S w → wpAnyH P md ops Q S fuel (listed.setIfInBounds i true) a w) → K a w) → Oper.wp P o a w K Q)
  (h' : ∀ K : Act → World → Prop, Shut (∀ a w, S w → (S w → wpAnyH P md ops Q S fuel (listed.setIfInBounds j true) a w) → K a w) → Oper.wp P o' a w K Q) :
  wpAnyH P md ops Q S (fuel + 1) listed a w :=
 wpAnyH_ready hr (by simp) (AllReadyH.cons (op_at ho) (fun K hK => by rw [if_pos hw]; exact h K hK) (AllReadyH.cons (op_at ho') (fun K hK => by rw [if_pos hw']; exact h' K hK) AllReadyH.nil))
open Go.RowKit
theorem same {P : Program} {f : FuncId} {args : Array Value} {w : World} {Q : Ending → Prop} (h : Calls P f args w fun e w' => Q e ∧ w' = w) : Calls P f args w fun e w' => Q e ∧ w = w' :=
 h.mono fun _ _ ⟨h1, h2⟩ => ⟨h1, h2.symm⟩
theorem bytes_eq {a b : ByteArray} (h : a.data.toList = b.data.toList) : a = b := by
 apply ByteArray.ext
 exact Array.toList_inj.1 h
theorem byte_at (l : List UInt8) (j : Nat) (h : j < l.length) : (⟨l.toArray⟩ : ByteArray)[j]'(by simpa [ByteArray.size] using h) = l.getD j 0 := by
 show l.toArray[j]'(by simpa using h) = _
 simp [h]
theorem below_drewN {B : Nat} {a w : World} (h : Below B a w) (n : Nat) : Below B a (w.drewN n) := by
 have key : ∀ (n : Nat) (w : World), Below B a w → Below B a (w.drewN n) := by
  intro n
  induction n with
  | zero => intro w h; exact h
  | succ n ih => intro w h; exact (ih w h).drew
 exact key n w h
theorem addr_off {ad : Addr} (h : ad.spot = none) (n : Nat) : ad.add n = ⟨ad.block, ad.off + n, none⟩ := by
 obtain ⟨b, o, s⟩ := ad
 subst h
 unfold Addr.add
 by_cases hn : n = 0
 ·simp [hn]
 simp [hn]
structure RowAt (w : World) (g : Nat) (l : List Value) : Prop where
 cell : ∀ (i : Nat) v, l[i]? = some v → w.cell? ⟨g, i, none⟩ = some v
 free : ∀ i : Nat, w.frozen? ⟨g, i, none⟩ = false
 lt : g < w.heap.size
theorem RowAt.new (w : World) (cs : Array Value) (t : TypeId) : RowAt (w.alloc (.cells cs t)) w.heap.size cs.toList :=
 ⟨fun i v h => by rw [World.cell?_alloc_at _ _ _ _ rfl]; simpa using h, fun i => by simp, by simp⟩
theorem RowAt.below {w w' : World} {g : Nat} {l : List Value} (h : RowAt w g l) (hb : Below w.heap.size w w') : RowAt w' g l :=
 ⟨fun i v hi => (hb.cell (p := ⟨g, i, none⟩) h.lt).trans (h.cell i v hi), fun i => (hb.frozen (p := ⟨g, i, none⟩) h.lt).trans (h.free i), Nat.lt_of_lt_of_le h.lt hb.size⟩
theorem RowAt.set {w : World} {g : Nat} {l : List Value} (h : RowAt w g l) (i : Nat) (x : Value) (hi : i < l.length) : RowAt (w.setCell ⟨g, i, none⟩ x) g (l.set i x) := by
 refine ⟨fun j v hj => ?_, fun j => by rw [World.frozen?_setCell]; exact h.free j, by simpa using h.lt⟩
 rw [List.getElem?_set] at hj
 by_cases e : i = j
 ·subst e
  rw [if_pos rfl, if_pos hi] at hj
  cases hj
  rw [World.cell?_setCell_same _ _ _ (h.cell i _ (List.getElem?_eq_getElem hi))]
 rw [if_neg e] at hj
 rw [World.cell?_setCell_other _ _ _ _ (fun e2 => by injection e2 with _ e3; exact e e3)]
 exact h.cell j v hj
theorem RowAt.far {w : World} {g : Nat} {l : List Value} (h : RowAt w g l) {p : Addr} (hp : p.block ≠ g) (x : Value) : RowAt (w.setCell p x) g l :=
 ⟨fun i v hi => by rw [World.cell?_setCell_other _ _ _ _ (fun e => hp (by rw [e]))]; exact h.cell i v hi, fun i => by rw [World.frozen?_setCell]; exact h.free i, by simpa using h.lt⟩
theorem RowAt.drew {w : World} {g : Nat} {l : List Value} (h : RowAt w g l) : RowAt w.drew g l := h.below (Below.refl _ _).drew
theorem RowAt.alloc {w : World} {g : Nat} {l : List Value} (h : RowAt w g l) (o : Obj) : RowAt (w.alloc o) g l := h.below ((Below.refl _ _).alloc (Nat.le_refl _) o)
def BytS (w : World) (v : Value) (l : List UInt8) : Prop :=
 (v = .slice none 0 0 ∧ l = []) ∨ ∃ b off cap, v = .slice (some ⟨b, off, none⟩) l.length cap ∧ l.length ≤ cap ∧ l.length ≤ maxLen ∧ b < w.heap.size ∧ ∀ j, j < l.length → w.cell? ⟨b, off + j, none⟩ = some (.int .u8 ((l.getD j 0).toNat : Int))
theorem BytS.below {w w' : World} {v : Value} {l : List UInt8} (h : BytS w v l) (hb : Below w.heap.size w w') : BytS w' v l := by
 rcases h with h | ⟨b, off, cap, h1, h2, h3, h4, h5⟩
 ·exact .inl h
 exact .inr ⟨b, off, cap, h1, h2, h3, Nat.lt_of_lt_of_le h4 hb.size, fun j hj => (hb.cell (p := ⟨b, off + j, none⟩) h4).trans (h5 j hj)⟩
theorem BytS.open {w : World} {v : Value} {l : List UInt8} (h : BytS w v l) : ∃ p cap, v = .slice p l.length cap ∧ l.length ≤ cap ∧ l.length ≤ maxLen ∧ (0 < l.length → ∃ b off, p = some ⟨b, off, none⟩) := by
 rcases h with ⟨rfl, rfl⟩ | ⟨b, off, cap, h1, h2, h3, h4, h5⟩
 ·exact ⟨none, 0, rfl, Nat.le_refl _, Nat.zero_le _, fun h => by simp at h⟩
 exact ⟨_, cap, h1, h2, h3, fun _ => ⟨b, off, rfl⟩⟩
theorem BytS.at {w : World} {b off n cap : Nat} {l : List UInt8} (h : BytS w (.slice (some ⟨b, off, none⟩) n cap) l) (j : Nat) (hj : j < l.length) :
  w.cell? ⟨b, off + j, none⟩ = some (.int .u8 ((l.getD j 0).toNat : Int)) := by
 rcases h with ⟨h, _⟩ | ⟨b', off', cap', h1, _, _, _, h5⟩
 ·simp at h
 ·simp only [Value.slice.injEq, Option.some.injEq, Addr.mk.injEq] at h1
  obtain ⟨⟨rfl, rfl, -⟩, -, -⟩ := h1
  exact h5 j hj
theorem BytS.string {w : World} {v : Value} {l : List UInt8} (h : BytS w v l) : (convert 22 9 v).run Tryz.prog w = .ok (.string ⟨l.toArray⟩) w := by
 rcases h with ⟨rfl, rfl⟩ | ⟨b, off, cap, rfl, h2, h3, h4, h5⟩
 ·exact run_convert_bytes_nil w 22 5 Tryz.underlying22 Tryz.underlying5 0 0 9 Tryz.underlying9
 refine run_convert_bytes_back w 22 9 5 ⟨b, off, none⟩ cap l Tryz.underlying22 Tryz.underlying5 Tryz.underlying9 (fun j hj => ?_)
 have := h5 j hj
 have e : l.getD j 0 = l[j] := by simp [hj]
 rw [e] at this
 rw [addr_off rfl]
 exact this
def u8s (l : List UInt8) : List Value := l.map (fun c => Value.int .u8 (c.toNat : Int))
theorem u8s_len (l : List UInt8) : (u8s l).length = l.length := by simp [u8s]
theorem u8s_app (a b : List UInt8) : u8s (a ++ b) = u8s a ++ u8s b := by simp [u8s]
theorem u8s_at (xs : List UInt8) (j : Nat) (h : j < xs.length) : (u8s xs)[j]? = some (.int .u8 ((xs.getD j 0).toNat : Int)) := by
 simp [u8s, List.getElem?_eq_getElem h]
theorem u8s_one (l : List UInt8) : ∀ u ∈ u8s l, u.oneCell' = true := by
 intro u hu
 obtain ⟨c, _, rfl⟩ := List.mem_map.1 hu
 rfl
def BytV (w : World) (B : Nat) (v : Value) (l : List UInt8) : Prop := w.ownsRow B 5 1 v l.length (u8s l)
theorem Tryz.info5 : (Tryz.prog.info? 5).map (fun i => (i.zero, i.size, i.bytes)) = some (some (.int .u8 0), 1, 1) := by kernel_rfl
structure Apart (S : Nat → Prop) (w w' : World) : Prop where
 os : w'.os = w.os
 tape : w'.tape = w.tape
 output : w'.output = w.output
 size : w.heap.size ≤ w'.heap.size
 block : ∀ k, k < w.heap.size → ¬ S k → w'.heap[k]? = w.heap[k]?
theorem Apart.refl (S : Nat → Prop) (w : World) : Apart S w w := ⟨rfl, rfl, rfl, Nat.le_refl _, fun _ _ _ => rfl⟩
theorem Apart.ofBelow {S : Nat → Prop} {w w' : World} (h : Below w.heap.size w w') : Apart S w w' := ⟨h.os, h.tape, h.output, h.size, fun k hk _ => h.block k hk⟩
theorem Apart.trans {S S' : Nat → Prop} {a b c : World} (h : Apart S a b) (k : Apart S' b c) (hs : ∀ i, i < a.heap.size → S' i → S i) : Apart S a c :=
 ⟨k.os.trans h.os, k.tape.trans h.tape, k.output.trans h.output, Nat.le_trans h.size k.size, fun i hi hn => (k.block i (Nat.lt_of_lt_of_le hi h.size) (fun e => hn (hs i hi e))).trans (h.block i hi hn)⟩
theorem Apart.ofGrown {S : Nat → Prop} {w w' : World} {row : Option Nat} (h : w.grownBy w' row) (hs : ∀ k, row = some k → S k) : Apart S w w' :=
 ⟨h.os, h.tape, h.output, h.size, fun k hk hn => h.block k hk (fun e => hn (hs k e.symm))⟩
theorem Apart.below {S : Nat → Prop} {w w' : World} {B : Nat} (h : Apart S w w') (hB : B ≤ w.heap.size) (hs : ∀ i, i < B → ¬ S i) : Below B w w' :=
 ⟨h.os, h.tape, h.output, h.size, fun k hk => h.block k (by omega) (hs k hk)⟩
theorem Apart.set {S : Nat → Prop} (w : World) {a : Addr} (ha : S a.block) (v : Value) : Apart S w (w.setCell a v) :=
 ⟨rfl, rfl, rfl, by simp, fun k _ hn => Below.heap_setCell _ _ _ _ (fun e => hn (by rw [e]; exact ha))⟩
theorem Apart.cell {S : Nat → Prop} {w w' : World} (h : Apart S w w') {a : Addr} (hl : a.block < w.heap.size) (hn : ¬ S a.block) : w'.cell? a = w.cell? a := World.cell?_of_block (h.block _ hl hn)
theorem Apart.frozen {S : Nat → Prop} {w w' : World} (h : Apart S w w') {a : Addr} (hl : a.block < w.heap.size) (hn : ¬ S a.block) : w'.frozen? a = w.frozen? a := World.frozen?_of_block (h.block _ hl hn)
theorem RowAt.apart {S : Nat → Prop} {w w' : World} {g : Nat} {l : List Value} (h : RowAt w g l) (ha : Apart S w w') (hn : ¬ S g) : RowAt w' g l :=
 ⟨fun i v hi => (ha.cell (a := ⟨g, i, none⟩) h.lt hn).trans (h.cell i v hi), fun i => (ha.frozen (a := ⟨g, i, none⟩) h.lt hn).trans (h.free i), Nat.lt_of_lt_of_le h.lt ha.size⟩
theorem ownsRow_apart {S : Nat → Prop} {w w' : World} {B : Nat} {e : TypeId} {size : Nat} {v : Value} {n : Nat} {xs : List Value} (h : w.ownsRow B e size v n xs) (ha : Apart S w w') (hn : ∀ k, v.ownBlock = some k → ¬ S k) : w'.ownsRow B e size v n xs := by
 rcases h.2 with ⟨hv, h2⟩ | ⟨g', cap, cur, rfl, h1, hgg, h3⟩
 ·exact ⟨h.1, .inl ⟨hv, h2⟩⟩
 exact ⟨h.1, .inr ⟨g', cap, cur, rfl, h1, (ha.block _ (Array.getElem?_eq_some_iff.1 hgg).1 (hn _ rfl)).trans hgg, h3⟩⟩
def WaitV (w : World) (B : Nat) (v : Value) (l : List UInt8) : Prop :=
 (v = .slice none 0 0 ∧ l = []) ∨ ∃ g off cap, v = .slice (some ⟨g, off, none⟩) l.length cap ∧ B ≤ g ∧ g < w.heap.size ∧ l.length ≤ cap ∧ cap ≤ maxLen ∧
  (∀ j, j < l.length → w.cell? ⟨g, off + j, none⟩ = some (.int .u8 ((l.getD j 0).toNat : Int))) ∧ (∀ j, j < cap → (w.cell? ⟨g, off + j, none⟩).isSome = true) ∧ ∀ j, j < cap → w.frozen? ⟨g, off + j, none⟩ = false
theorem WaitV.nil (w : World) (B : Nat) : WaitV w B (.slice none 0 0) [] := .inl ⟨rfl, rfl⟩
theorem WaitV.byts {w : World} {B : Nat} {v : Value} {l : List UInt8} (h : WaitV w B v l) : BytS w v l := by
 rcases h with h | ⟨g, off, cap, h1, h2, h3, h4, h5, h6, h7, h8⟩
 ·exact .inl h
 exact .inr ⟨g, off, cap, h1, h4, by omega, h3, h6⟩
theorem WaitV.apart {S : Nat → Prop} {w w' : World} {B : Nat} {v : Value} {l : List UInt8} (h : WaitV w B v l) (ha : Apart S w w') (hn : ∀ k, v.ownBlock = some k → ¬ S k) : WaitV w' B v l := by
 rcases h with h | ⟨g, off, cap, rfl, h2, h3, h4, h5, h6, h7, h8⟩
 ·exact .inl h
 have hg := hn g rfl
 exact .inr ⟨g, off, cap, rfl, h2, Nat.lt_of_lt_of_le h3 ha.size, h4, h5, fun j hj => (ha.cell (a := ⟨g, off + j, none⟩) h3 hg).trans (h6 j hj), fun j hj => by rw [ha.cell (a := ⟨g, off + j, none⟩) h3 hg]; exact h7 j hj, fun j hj => (ha.frozen (a := ⟨g, off + j, none⟩) h3 hg).trans (h8 j hj)⟩
theorem WaitV.below {w w' : World} {B : Nat} {v : Value} {l : List UInt8} (h : WaitV w B v l) (hb : Below w.heap.size w w') : WaitV w' B v l := h.apart (S := fun _ => False) (.ofBelow hb) (fun _ _ h => h)
theorem WaitV.lt {w : World} {B : Nat} {v : Value} {l : List UInt8} (h : WaitV w B v l) {k : Nat} (hk : v.ownBlock = some k) : B ≤ k ∧ k < w.heap.size := by
 rcases h with ⟨rfl, _⟩ | ⟨g, off, cap, rfl, h2, h3, _⟩
 ·cases hk
 cases hk; exact ⟨h2, h3⟩
theorem waitV_own {w : World} {B B' : Nat} {v : Value} {l : List UInt8} (h : BytV w B v l) (hB : B' ≤ B) : WaitV w B' v l := by
 rcases h.2 with ⟨rfl, h2⟩ | ⟨g, cap, cur, rfl, h1, hgg, h3, h4, h5, h6⟩
 ·exact .inl ⟨rfl, List.length_eq_zero_iff.1 h2⟩
 have hlt := (Array.getElem?_eq_some_iff.1 hgg).1
 refine .inr ⟨g, 0, cap, rfl, by omega, hlt, h3, h4, fun j hj => ?_, fun j hj => ?_, fun j _ => World.ownsRow.frozenAt h _⟩
 ·rw [Nat.zero_add, World.ownsRow.cellAt h j (by omega), u8s_at l j hj]
 rw [Nat.zero_add]
 simp [World.cell?, hgg]
 omega
theorem waitV_string (w : World) (l : List UInt8) (hl : l.length ≤ 1000000000) : ∃ cap, (convert 9 22 (.string ⟨l.toArray⟩)).run Tryz.prog w = .ok (.slice (some ⟨w.heap.size, 0, none⟩) l.length cap) (Lib.bytesWorld w 5 ⟨l.toArray⟩) ∧
  WaitV (Lib.bytesWorld w 5 ⟨l.toArray⟩) w.heap.size (.slice (some ⟨w.heap.size, 0, none⟩) l.length cap) l ∧ Below w.heap.size w (Lib.bytesWorld w 5 ⟨l.toArray⟩) := by
 have hc := Lib.run_convert_string_bytes (P := Tryz.prog) w 9 22 5 ⟨l.toArray⟩ Tryz.underlying9 Tryz.underlying22 Tryz.underlying5
 have hsz : (⟨l.toArray⟩ : ByteArray).size = l.length := by simp [ByteArray.size]
 have hnew := Lib.bytesWorld_at_new w 5 ⟨l.toArray⟩
 have hcs : (Lib.bytesCells w 5 ⟨l.toArray⟩).size = grownCap w l.length 0 5 := by
  have := grownCap_ge w l.length 0 5
  unfold Lib.bytesCells
  rw [hsz]
  simp; omega
 rw [hsz] at hc
 refine ⟨_, hc, .inr ⟨_, 0, _, rfl, Nat.le_refl _, by rw [Lib.bytesWorld_size]; omega, grownCap_ge _ _ _ _, grownCap_le_maxLen w l.length 0 5 (by unfold maxLen; omega), fun j hj => ?_, fun j hj => ?_, fun j hj => ?_⟩, ⟨rfl, rfl, rfl, by rw [Lib.bytesWorld_size]; omega, fun k hk => Lib.bytesWorld_at_old w _ _ k hk⟩⟩
 ·rw [Nat.zero_add]
  exact Lib.bytesWorld_cell w 5 ⟨l.toArray⟩ j (by rw [hsz]; exact hj)
 ·rw [Nat.zero_add]
  unfold World.cell?
  rw [hnew]
  simp; omega
 ·rw [Nat.zero_add]
  unfold World.frozen?
  rw [hnew]
  simp; omega
theorem run_append_zero (w : World) (ty : TypeId) {B : Nat} {v x : Value} {l : List UInt8} (hv : WaitV w B v l) (hx : BytS w x []) :
  (Builtin.append_ #[22, 22] ty #[v, x]).run Tryz.prog w = .ok v w := by
 obtain ⟨i0, hi, hz0, hz1, hz2⟩ := info_parts Tryz.info5
 obtain ⟨p, cap, rfl, _, _, _⟩ := hx.open
 rcases hv with ⟨rfl, rfl⟩ | ⟨g, off, cap, rfl, h2, h3, h4, _⟩
 ·cases p <;> simp [Builtin.append_, run_underlying Tryz.underlying22, sizeOf, typeInfo, hi, Builtin.lenOf, Builtin.firstCells, loadCells, loadCellsFrom]
 ·cases p <;> simp [Builtin.append_, run_underlying Tryz.underlying22, sizeOf, typeInfo, hi, Builtin.lenOf, Builtin.firstCells, loadCells, loadCellsFrom, h4, storeCells]
theorem run_append_wait (w : World) (ty : TypeId) {B : Nat} {v x : Value} {l m : List UInt8} (hv : WaitV w B v l) (hx : BytS w x m) (hlen : l.length + m.length ≤ 100000000) (hB : B ≤ w.heap.size) :
  ∃ v' w', (Builtin.append_ #[22, 22] ty #[v, x]).run Tryz.prog w = .ok v' w' ∧ WaitV w' B v' (l ++ m) ∧ w.grownBy w' v.ownBlock ∧ ∀ k, v'.ownBlock = some k → v.ownBlock = some k ∨ w.heap.size ≤ k := by
 obtain ⟨i0, hi, hz0, hz1, hz2⟩ := info_parts Tryz.info5
 by_cases hm : m = []
 ·subst hm
  refine ⟨v, w, run_append_zero w ty hv hx, by rw [List.append_nil]; exact hv, ⟨rfl, rfl, rfl, Nat.le_refl _, fun _ _ _ => rfl⟩, fun k hk => .inl hk⟩
 ·have hm1 : 0 < m.length := List.length_pos_iff.2 hm
  rcases hx with ⟨_, h⟩ | ⟨b, off, cx, rfl, hx2, hx3, hx4, hx5⟩
  ·exact absurd h hm
  have hnew : ∀ j u, (u8s m)[j]? = some u → w.cell? ((⟨b, off, none⟩ : Addr).add j) = some u := by
   intro j u hj
   have hj2 := (List.getElem?_eq_some_iff.1 hj).1
   rw [u8s_len] at hj2
   rw [u8s_at m j hj2] at hj
   cases hj
   rw [addr_off rfl]
   exact hx5 j hj2
  have hmx : (100000000 : Nat) ≤ maxLen := by decide
  rcases hv with ⟨rfl, rfl⟩ | ⟨g, of, cap, rfl, h2, h3, h4, h5, h6, h7, h8⟩
  ·obtain ⟨v', w', hr, ho, hg, _⟩ := run_append_own (P := Tryz.prog) w w.heap.size 22 ty 5 i0 _ 1 1 Tryz.underlying22 hi hz0 hz1 hz2 rfl (by decide) (.slice none 0 0) 0 [] (World.ownsRow_nil w _ 5 1) ⟨b, off, none⟩ m.length cx (u8s m) (by rw [u8s_len, Nat.mul_one]) hnew (u8s_one m) (by simp at hlen; omega) (by simp at hlen; omega) (Nat.le_refl _)
   rw [Nat.zero_add, List.nil_append] at ho
   exact ⟨v', w', hr, waitV_own ho hB, hg, fun k hk => .inr (World.ownsRow.lt ho k hk).1⟩
  by_cases hr : l.length + m.length ≤ cap
  ·have hrun := run_append_room_cells (P := Tryz.prog) w 22 ty 5 i0 Tryz.underlying22 hi g of l.length cap ⟨b, off, none⟩ m.length cx (u8s m) (by rw [u8s_len, hz1, Nat.mul_one]) hnew (u8s_one m) hr
    (fun j hj => by rw [u8s_len] at hj; rw [hz1, Nat.mul_one, Nat.add_assoc]; exact h7 _ (by omega)) (fun j hj => by rw [u8s_len] at hj; rw [hz1, Nat.mul_one, Nat.add_assoc]; exact h8 _ (by omega))
   rw [hz1, Nat.mul_one] at hrun
   have hin := World.cell?_setCells_in g (u8s m) (of + l.length) w (fun j hj => by rw [u8s_len] at hj; rw [Nat.add_assoc]; exact h7 _ (by omega))
   have hout : ∀ j, j < l.length → (w.setCells g (of + l.length) (u8s m)).cell? ⟨g, of + j, none⟩ = w.cell? ⟨g, of + j, none⟩ := fun j hj => World.cell?_setCells_out g _ _ _ _ (fun _ _ => .inl (by show of + j < _; omega))
   have hsz : (w.setCells g (of + l.length) (u8s m)).heap.size = w.heap.size := by
    have : ∀ (vs : List Value) (o : Nat) (w : World), (w.setCells g o vs).heap.size = w.heap.size := by
     intro vs
     induction vs with
     | nil => intro o w; rfl
     | cons a t ih => intro o w; rw [World.setCells, ih]; simp
    exact this _ _ _
   have hap : ∀ (vs : List Value) (o : Nat) (w : World), w.grownBy (w.setCells g o vs) (some g) := by
    intro vs
    induction vs with
    | nil => intro o w; exact ⟨rfl, rfl, rfl, Nat.le_refl _, fun _ _ _ => rfl⟩
    | cons a t ih =>
     intro o w
     have h9 := ih (o + 1) (w.setCell ⟨g, o, none⟩ a)
     rw [World.setCells]
     exact ⟨h9.os, h9.tape, h9.output, by have := h9.size; simpa using this, fun k hk hn => (h9.block k (by simpa using hk) hn).trans (Below.heap_setCell _ _ _ _ (fun e => hn (by rw [e])))⟩
   refine ⟨_, _, hrun, .inr ⟨g, of, cap, by rw [List.length_append], h2, by rw [hsz]; exact h3, by rw [List.length_append]; exact hr, h5, fun j hj => ?_, fun j hj => ?_, fun j hj => by rw [World.frozen?_setCells]; exact h8 j hj⟩, hap _ _ _, fun k hk => .inl hk⟩
   ·rw [List.length_append] at hj
    by_cases hjl : j < l.length
    ·have he : (l ++ m).getD j 0 = l.getD j 0 := by simp [List.getD_eq_getElem?_getD, List.getElem?_append_left hjl]
     rw [hout j hjl, h6 j hjl, he]
    obtain ⟨i, rfl⟩ : ∃ i, j = l.length + i := ⟨j - l.length, by omega⟩
    rw [← Nat.add_assoc, hin i (by rw [u8s_len]; omega)]
    simp [u8s, List.getElem?_append_right, List.getElem?_eq_getElem (show i < m.length by omega)]
   ·by_cases hjl : l.length ≤ j ∧ j < l.length + m.length
    ·obtain ⟨i, rfl⟩ : ∃ i, j = l.length + i := ⟨j - l.length, by omega⟩
     rw [← Nat.add_assoc, hin i (by rw [u8s_len]; omega)]
     exact Option.isSome_some
    have hfar : of + j < of + l.length ∨ of + l.length + m.length ≤ of + j := by omega
    rw [World.cell?_setCells_out g _ _ _ _ (fun _ _ => by rw [u8s_len]; exact hfar)]
    exact h7 j hj
  obtain ⟨v', w', hrn, ho, hg⟩ := run_append_arg_grows (P := Tryz.prog) w 22 ty 5 i0 _ 1 1 Tryz.underlying22 hi hz0 hz1 hz2 rfl (by decide) ⟨g, of, none⟩ l.length cap (u8s l) (by rw [u8s_len, Nat.mul_one])
   (fun j u hj => by
    have hj2 := (List.getElem?_eq_some_iff.1 hj).1
    rw [u8s_len] at hj2
    rw [u8s_at l j hj2] at hj
    cases hj
    rw [addr_off rfl]; exact h6 j hj2)
   ⟨b, off, none⟩ m.length cx (u8s m) (by rw [u8s_len, Nat.mul_one]) hnew (by omega) (by omega) (by omega)
  have ho2 : BytV w' w.heap.size v' (l ++ m) := by
   unfold BytV
   rw [List.length_append, u8s_app]
   exact ho
  exact ⟨v', w', hrn, waitV_own ho2 hB, ⟨hg.os, hg.tape, hg.output, hg.size, fun k hk _ => hg.block k hk (by simp)⟩, fun k hk => .inr (World.ownsRow.lt ho k hk).1⟩
theorem wpList_append_wait {w : World} {ops : Array Oper} {rest : List Oper} {o : Oper} {a : Act} {Q : Exit → Act → World → Prop} (hgd : o.guard = none) (s x : Operand)
  (ho : o.op = .call { callee := .builtin .append, args := #[s, x], argTypes := #[22, 22] })
  (B : Nat) (v xv : Value) (l m : List UInt8) (hs : a.eval s = v) (hv : WaitV w B v l) (hx : a.eval x = xv) (hxv : BytS w xv m) (hlen : l.length + m.length ≤ 100000000) (hB : B ≤ w.heap.size)
  (hK : ∀ v' w', WaitV w' B v' (l ++ m) → w.grownBy w' v.ownBlock → (∀ k, v'.ownBlock = some k → v.ownBlock = some k ∨ w.heap.size ≤ k) → wpList Tryz.prog ops Q rest (a.put o.dst v') w') :
  wpList Tryz.prog ops Q (o :: rest) a w := by
 refine wpList_plain hgd fun K hK' => ?_
 obtain ⟨v', w', hrun, h1, h2, h3⟩ := run_append_wait w o.type hv hxv hlen hB
 unfold Oper.wp
 simp [execOp, ho, resolve, invoke, builtin, hs, hx, hrun, Result.andThen]
 exact hK' _ _ (hK _ _ h1 h2 h3)
def base : Nat := 1000000000
def val : List Nat → Nat
 | [] => 0
 | x :: xs => x + base * val xs
theorem nil_or_snoc {α : Type} (l : List α) : l = [] ∨ ∃ zs y, l = zs ++ [y] := by
 rcases List.eq_nil_or_concat l with h | ⟨zs, y, h⟩
 ·exact .inl h
 exact .inr ⟨zs, y, by rw [h, List.concat_eq_append]⟩
def dval (l : List UInt8) : Nat := l.foldl (fun a c => 10 * a + (c.toNat - 48)) 0
def Dig (l : List UInt8) : Prop := ∀ c ∈ l, 48 ≤ c.toNat ∧ c.toNat ≤ 57
def trim0 (l : List UInt8) : List UInt8 := l.dropWhile (· == 48)
theorem foldl_dval (l : List UInt8) : ∀ a, l.foldl (fun a c => 10 * a + (c.toNat - 48)) a = a * 10 ^ l.length + dval l := by
 unfold dval
 induction l with
 | nil => intro a; simp
 | cons c l ih =>
  intro a
  simp only [List.foldl_cons, List.length_cons]
  rw [ih, ih (10 * 0 + (c.toNat - 48)), Nat.pow_succ, Nat.add_mul, Nat.add_mul, Nat.mul_comm (10 ^ l.length) 10, ← Nat.mul_assoc, Nat.mul_comm a 10]
  omega
theorem dval_append (a b : List UInt8) : dval (a ++ b) = dval a * 10 ^ b.length + dval b := by
 rw [dval, List.foldl_append, foldl_dval]; rfl
theorem dval_snoc (a : List UInt8) (c : UInt8) : dval (a ++ [c]) = 10 * dval a + (c.toNat - 48) := by
 rw [dval, List.foldl_append]; rfl
theorem dval_cons (c : UInt8) (l : List UInt8) : dval (c :: l) = (c.toNat - 48) * 10 ^ l.length + dval l := by
 have := dval_append [c] l
 simpa [dval] using this
theorem Dig_nil : Dig [] := by intro c h; simp at h
theorem Dig_append {a b : List UInt8} : Dig (a ++ b) ↔ Dig a ∧ Dig b := by
 constructor
 ·intro h; exact ⟨fun c hc => h c (by simp [hc]), fun c hc => h c (by simp [hc])⟩
 intro ⟨h1, h2⟩ c hc
 rcases List.mem_append.1 hc with h | h
 ·exact h1 c h
 exact h2 c h
theorem Dig_take {l : List UInt8} (h : Dig l) (k : Nat) : Dig (l.take k) := fun c hc => h c (List.mem_of_mem_take hc)
theorem Dig_drop {l : List UInt8} (h : Dig l) (k : Nat) : Dig (l.drop k) := fun c hc => h c (List.mem_of_mem_drop hc)
theorem dval_lt {l : List UInt8} (h : Dig l) : dval l < 10 ^ l.length := by
 induction l with
 | nil => simp [dval]
 | cons c l ih =>
  rw [dval_cons, List.length_cons, Nat.pow_succ]
  have h1 := h c (by simp)
  have h2 := ih (fun x hx => h x (by simp [hx]))
  have h3 : (c.toNat - 48) * 10 ^ l.length ≤ 9 * 10 ^ l.length := Nat.mul_le_mul_right _ (by omega)
  omega
theorem take_snoc8 (l : List UInt8) (j : Nat) (h : j < l.length) : l.take (j + 1) = l.take j ++ [l.getD j 0] := by
 rw [List.take_add_one, List.getElem?_eq_getElem h]; simp [List.getElem?_eq_getElem h]
theorem Dig_getD {l : List UInt8} (h : Dig l) (j : Nat) (hj : j < l.length) : 48 ≤ (l.getD j 0).toNat ∧ (l.getD j 0).toNat ≤ 57 := by
 have : l.getD j 0 = l[j] := by simp [hj]
 rw [this]; exact h _ (List.getElem_mem hj)
theorem dval_take_lt {l : List UInt8} (h : Dig l) (hl : l.length ≤ 9) (j : Nat) : dval (l.take j) < 1000000000 := by
 have h1 := dval_lt (Dig_take h j)
 have h3 : 10 ^ (l.take j).length ≤ 10 ^ 9 := Nat.pow_le_pow_right (by omega) (by simp; omega)
 omega
theorem dval_trim0 (l : List UInt8) : dval (trim0 l) = dval l := by
 unfold trim0
 induction l with
 | nil => rfl
 | cons c l ih =>
  rw [List.dropWhile_cons]
  split
  ·rename_i h
   have : c = 48 := by simpa using h
   subst this
   rw [ih, dval_cons]; simp
  rfl
theorem Dig_trim0 {l : List UInt8} (h : Dig l) : Dig (trim0 l) := fun c hc => h c ((List.dropWhile_sublist _).subset hc)
theorem trim0_trim0 (l : List UInt8) : trim0 (trim0 l) = trim0 l := by
 unfold trim0
 induction l with
 | nil => rfl
 | cons c l ih =>
  rw [List.dropWhile_cons]
  split
  ·exact ih
  rename_i h; rw [List.dropWhile_cons, if_neg h]
theorem ofNat_digit (d : Nat) (h : d < 10) : (UInt8.ofNat (48 + d)).toNat = 48 + d := by simp [UInt8.toNat_ofNat']; omega
structure Dec where
 neg : Bool
 digits : List UInt8
 exp : Int
def digB (c : UInt8) : Bool := decide (48 ≤ c.toNat) && decide (c.toNat ≤ 57)
theorem digB_iff (c : UInt8) : digB c = true ↔ 48 ≤ c.toNat ∧ c.toNat ≤ 57 := by simp [digB]
def digAll (l : List UInt8) : Bool := l.all digB
theorem digAll_iff (l : List UInt8) : digAll l = true ↔ Dig l := by
 simp only [digAll, List.all_eq_true, digB_iff]; rfl
def Dec.zero : Dec := ⟨false, [], 0⟩
def mayB (d : Dec) : Bool := match d.digits with
 | [] => !d.neg && decide (d.exp = 0)
 | c :: t => digAll (c :: t) && decide (t.length + 1 ≤ 100) && !(c == 48) && !((c :: t).getD t.length 0 == 48) && decide (-1000 ≤ d.exp) && decide (d.exp ≤ 1000)
def chk (d : Dec) : Int := if mayB d then 0 else 2
def trimR (l : List UInt8) : List UInt8 := (l.reverse.dropWhile (· == 48)).reverse
def decOf (neg : Bool) (a : List UInt8) (exp : Int) : Dec := ⟨neg, trimR a, exp + a.length - (trimR a).length⟩
def madeS (neg : Bool) (l : List UInt8) (exp : Int) : Dec × Int :=
 if trim0 l = [] then (Dec.zero, 0) else if mayB (decOf neg (trim0 l) exp) then (decOf neg (trim0 l) exp, 0) else (Dec.zero, 4)
theorem trimR_len (l : List UInt8) : (trimR l).length ≤ l.length := by
 have := (List.dropWhile_sublist (p := (· == (48 : UInt8))) (l := l.reverse)).length_le
 simpa [trimR] using this
theorem trim0_len (l : List UInt8) : (trim0 l).length ≤ l.length := (List.dropWhile_sublist _).length_le
def oneS (of : List UInt8) (r : List UInt8) : UInt8 × List UInt8 := match r with
 | [] => (0, [])
 | c :: t => if of.contains c then (c, t) else (0, c :: t)
def digsS (r : List UInt8) : List UInt8 := r.takeWhile digB
def restS (r : List UInt8) : List UInt8 := r.dropWhile digB
def powerS (s : List UInt8) : Int := if 7 < (trim0 s).length then 10000000 else dval (trim0 s)
def parseEnd (neg : Bool) (all : List UInt8) (exp : Int) (r : List UInt8) : Dec × Int := if r = [] then madeS neg all exp else (Dec.zero, 170)
def parseE (neg : Bool) (all : List UInt8) (exp : Int) (r : List UInt8) : Dec × Int :=
 if (oneS [101, 69] r).1 = 0 then parseEnd neg all exp (oneS [101, 69] r).2 else
 if digsS (oneS [43, 45] (oneS [101, 69] r).2).2 = [] then (Dec.zero, 170) else
 parseEnd neg all (exp + (if (oneS [43, 45] (oneS [101, 69] r).2).1 = 45 then -powerS (digsS (oneS [43, 45] (oneS [101, 69] r).2).2) else powerS (digsS (oneS [43, 45] (oneS [101, 69] r).2).2))) (restS (oneS [43, 45] (oneS [101, 69] r).2).2)
def parseP (neg : Bool) (all : List UInt8) (r : List UInt8) : Dec × Int :=
 if (oneS [46] r).1 = 46 then
  if digsS (oneS [46] r).2 = [] then (Dec.zero, 170) else parseE neg (all ++ digsS (oneS [46] r).2) (-((digsS (oneS [46] r).2).length : Int)) (restS (oneS [46] r).2)
 else parseE neg all 0 (oneS [46] r).2
def parseA (neg : Bool) (r : List UInt8) : Dec × Int :=
 if digsS r = [] ∨ ((digsS r).getD 0 0 = 48 ∧ 1 < (digsS r).length) then (Dec.zero, 170) else parseP neg (digsS r) (restS r)
def parseS (text : List UInt8) : Dec × Int :=
 if 1000 < text.length then (Dec.zero, 3) else parseA ((oneS [45] text).1 == 45) (oneS [45] text).2
theorem digs_rest (r : List UInt8) : digsS r ++ restS r = r := List.takeWhile_append_dropWhile
theorem digs_len (r : List UInt8) : (digsS r).length + (restS r).length = r.length := by
 rw [← List.length_append, digs_rest]
theorem one_len (of r : List UInt8) : (oneS of r).2.length ≤ r.length := by
 unfold oneS
 split
 ·simp
 split
 ·simp
 simp
theorem Dig_digs (r : List UInt8) : Dig (digsS r) := by
 intro c hc
 have : ∀ (l : List UInt8), c ∈ l.takeWhile digB → digB c = true := by
  intro l
  induction l with
  | nil => simp
  | cons a l ih =>
   rw [List.takeWhile_cons]
   split
   ·rename_i h
    intro hm
    rcases List.mem_cons.1 hm with h1 | h1
    ·rw [h1]; exact h
    exact ih h1
   simp
 exact (digB_iff c).1 (this r hc)
theorem power_bd (s : List UInt8) (h : Dig s) : 0 ≤ powerS s ∧ powerS s ≤ 10000000 := by
 unfold powerS
 split
 ·omega
 have h1 := dval_lt (Dig_trim0 h)
 have h2 : 10 ^ (trim0 s).length ≤ 10 ^ 7 := Nat.pow_le_pow_right (by omega) (by omega)
 omega
theorem digs_at (r : List UInt8) (n : Nat) (h1 : digAll (r.take n) = true) (hn : n ≤ r.length) (h2 : n = r.length ∨ digB (r.getD n 0) = false) : digsS r = r.take n ∧ restS r = r.drop n := by
 induction r generalizing n with
 | nil => simp [digsS, restS]
 | cons c r ih =>
  cases n with
  | zero =>
   have hc : digB c = false := by simpa using h2
   simp [digsS, restS, hc]
  | succ n =>
   simp only [List.take_succ_cons, digAll, List.all_cons, Bool.and_eq_true] at h1
   have := ih n h1.2 (by simpa using hn) (by simpa using h2)
   simp only [digsS, restS] at this ⊢
   simp [h1.1, this.1, this.2]
end Go.Proofs.YtfclfaidmipjpaaGreatDoor
