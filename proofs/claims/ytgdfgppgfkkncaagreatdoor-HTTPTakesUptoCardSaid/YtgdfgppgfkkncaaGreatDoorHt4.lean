/- The iterator over a value's pieces. -/
import Derived.Test.YtgdfgppgfkkncaaGreatDoorHt3
import Derived.RangeFuncNested
import Derived.RangeFuncBound
import Derived.RangeFuncCalls
import Derived.RangeFuncLeaves
import Derived.RangeFuncFrom
import Derived.Shelf.Abstract
import Derived.OwnWalkIn
import Derived.TacticsInMore
import Derived.LoopNIn
import Derived.LoopIn
namespace Go.Proofs.YtgdfgppgfkkncaaGreatDoor
open Go.RowKit

attribute [local go_sem] Oper.semAt_some

theorem grown_none {w w' : World} (h : Below w.heap.size w w') : w.grownBy w' none := ⟨h.os, h.tape, h.output, h.size, fun k hk _ => h.block k hk⟩
/-- What holds cells holds the same cells. -/
structure CK (W W' : World) : Prop where
  size : W.heap.size ≤ W'.heap.size
  block : ∀ (k : Nat) (o : Obj), W.heap[k]? = some o → o.isCells = true → W'.heap[k]? = some o
theorem CK.refl (W : World) : CK W W := ⟨Nat.le_refl _, fun _ _ h _ => h⟩
theorem CK.trans {A B C : World} (h : CK A B) (k : CK B C) : CK A C := ⟨Nat.le_trans h.size k.size, fun i o hi ho => k.block i o (h.block i o hi ho) ho⟩
theorem CK.of_below {W W' : World} (h : Below W.heap.size W W') : CK W W' := ⟨h.size, fun k _ hk _ => (h.block k (Array.getElem?_eq_some_iff.1 hk).1).trans hk⟩
theorem CK.cell {W W' : World} (h : CK W W') {a : Addr} {v : Value} (hc : W.cell? a = some v) : W'.cell? a = some v := by
  unfold World.cell? at hc ⊢
  split at hc
  · rename_i cs t fr hk
    have := h.block _ _ hk rfl
    rw [this]
    exact hc
  · cases hc
theorem CK.put0 (W : World) (l : Nat) (o o' : Obj) (h : W.heap[l]? = some o) (ho : o.isCells = false) : CK W (W.putObj l o') := by
  have hl := (Array.getElem?_eq_some_iff.1 h).1
  refine ⟨by simp [World.putObj], fun k o2 hk h2 => ?_⟩
  by_cases e : k = l
  · subst e
    rw [h] at hk
    cases hk
    rw [ho] at h2; cases h2
  · exact (World.putObj_heap_other e).trans hk

theorem CK.put {w : World} (W : World) (l : Nat) (o o' : Obj) (_ : w.heap.size ≤ l) (h : W.heap[l]? = some o) (ho : o.isCells = false) (_ : o.isWalk = false) : CK W (W.putObj l o') := CK.put0 W l o o' h ho

/-- A piece that is not too long. -/
abbrev PieceT := { x : List UInt8 // x.length ≤ 1000000000 }
def piecesT (s : List UInt8) (hs : s.length ≤ 1000000000) : List PieceT :=
  (cut1 44 [] s).attach.map (fun p => ⟨trimS p.1, by have h1 := cut1_len 44 s [] p.1 p.2; have h2 := trimS_len p.1; simp at h1; omega⟩)
theorem piecesT_len (s : List UInt8) (hs : s.length ≤ 1000000000) : (piecesT s hs).length = (cut1 44 [] s).length := by simp [piecesT]
theorem piecesT_at (s : List UInt8) (hs : s.length ≤ 1000000000) (k : Nat) (hk : k < (cut1 44 [] s).length) : ((piecesT s hs)[k]'(by rw [piecesT_len]; exact hk)).1 = trimS ((cut1 44 [] s)[k]) := by simp [piecesT]

theorem cut1_count (a : UInt8) : ∀ (s acc : List UInt8), (cut1 a acc s).length ≤ s.length + 1 := by
  intro s
  induction s with
  | nil => intro acc; simp [cut1]
  | cons c r ih =>
    intro acc
    rw [cut1_cons]
    split
    · have := ih []; simp; omega
    · have := ih (acc ++ [c]); simp; omega
set_option maxRecDepth 100000 in
set_option maxHeartbeats 4000000 in
theorem pieces1_in (n : Nat) (hn : 1 ≤ n) (l Bs : Nat) (s : List UInt8) (hs : s.length ≤ 1000000000) (J Jx : List PieceT → World → Prop) (W : World)
    (he : Env W) (hJa : AbidesFrom W.heap.size J)
    (hY : ∀ pre x W1, J pre W1 → pre.length < (cut1 44 [] s).length → YieldAt Fence.wide (n - 1) Tryz.prog l #[.string ⟨x.1.toArray⟩] W1 fun e W' =>
      (e = .returned (.bool true) ∧ J (pre ++ [x]) W' ∧ CK W1 W') ∨ (e = .returned (.bool false) ∧ Jx (pre ++ [x]) W'))
    (hBs : W.cell? ⟨Bs, 0, none⟩ = some (.string ⟨s.toArray⟩)) (h0 : J [] W) :
    CallsIn Fence.wide n Tryz.prog 72 #[.func (.yield l) #[] #[], .pointer (some ⟨Bs, 0, none⟩)] W fun e W' => (∃ v, e = .returned v) ∧
      ((∃ ys, ys = piecesT s hs ∧ J ys W') ∨ (∃ pre, (∃ k, k ≤ (cut1 44 [] s).length ∧ pre = (piecesT s hs).take k) ∧ Jx pre W')) := by
  have He := Lib.hid he
  clear he
  refine callsIn_of_wp Tryz.func72 rfl trivial ?_ rfl
  simp only [Tryz.ntmps72, List.size_toArray, List.length_cons, List.length_nil, Nat.reduceAdd, Nat.reduceSub, Array.replicate_succ, Array.replicate_zero, List.push_toArray, List.append_toArray, List.nil_append, List.cons_append]
  gi_wp2_with fail
  refine ⟨trivial, ?_⟩
  refine (callsIn_wide.2 (split_calls W He.out s [44] (by omega) (by simp))).mono ?_
  rintro e w2 ⟨rfl, hw2⟩
  rw [cut1_nil_split] at hw2 ⊢
  have hb2 : Below W.heap.size W w2 := by rw [hw2]; exact (Below.refl _ _).alloc (Nat.le_refl _) _
  have hck : ∀ j, j < (cut1 44 [] s).length → w2.cell? ⟨W.heap.size, j, none⟩ = some (.string ⟨((cut1 44 [] s).getD j []).toArray⟩) := fun j hj => by
    rw [hw2, World.cell?_alloc_at _ _ _ _ rfl]; simp [strs, hj]
  have hJ2 : J ((piecesT s hs).take 0) w2 := hJa _ _ _ none h0 (grown_none hb2) (fun r e => by cases e)
  have hpl : ∀ j, j < (cut1 44 [] s).length → ((cut1 44 [] s).getD j []).length ≤ s.length := fun j hj => by
    have h1 := cut1_len 44 s [] ((cut1 44 [] s)[j]) (List.getElem_mem hj)
    simp [hj] at h1 ⊢; exact h1
  have hlen : ∀ p ∈ cut1 44 [] s, True := fun _ _ => trivial
  have hcl : (cut1 44 [] s).length ≤ s.length + 1 := cut1_count 44 s []
  have Hck := Lib.hid hck
  have Hpl := Lib.hid hpl
  have HJ2 := Lib.hid hJ2
  clear hck hpl hJ2 hw2 hBs h0 hlen
  have hck0 := CK.refl w2
  gi_wp2_with fail
  gi_loopw [8] (fun i wr => ∃ k : Nat, k ≤ (cut1 44 [] s).length ∧ i = .int .i64 k ∧ J ((piecesT s hs).take k) wr ∧ CK w2 wr) (fun i _ => (cut1 44 [] s).length - (intOf i).toNat)
  case atStart => exact ⟨0, Nat.zero_le _, rfl, HJ2.out, hck0⟩
  case round =>
    obtain ⟨k, hk, rfl, hJs, hk2⟩ := hrel
    have HJs := Lib.hid hJs
    clear hJs hck0
    by_cases hlt : k < (cut1 44 [] s).length
    · have hc := hk2.cell (Hck.out k hlt)
      have hpk := Hpl.out k hlt
      have hxe : ((piecesT s hs)[k]'(by rw [piecesT_len]; exact hlt)).1 = trimS ((cut1 44 [] s).getD k []) := by rw [piecesT_at s hs k hlt]; simp [hlt]
      have htk : (piecesT s hs).take (k + 1) = (piecesT s hs).take k ++ [(piecesT s hs)[k]'(by rw [piecesT_len]; exact hlt)] := by
        rw [List.take_add_one, List.getElem?_eq_getElem (by rw [piecesT_len]; exact hlt)]; rfl
      have Hxe := Lib.hid hxe
      have Htk := Lib.hid htk
      clear hxe htk
      generalize (piecesT s hs)[k]'(by rw [piecesT_len]; exact hlt) = x at *
      generalize (cut1 44 [] s).getD k [] = p at *
      gi_wp2_with fail
      refine ⟨trivial, ?_⟩
      refine (callsIn_wide.2 (trim_calls _ p (by unfold maxLen; omega))).mono ?_
      rintro e w3 ⟨rfl, hb3⟩
      have hJ3 : J ((piecesT s hs).take k) w3 := hJa _ _ _ none HJs.out (grown_none hb3) (fun r e => by cases e)
      obtain ⟨fn, tmps, assign, body, hy, hR⟩ := hY _ x w3 hJ3 (by rw [List.length_take, piecesT_len]; omega)
      rw [Hxe.out] at hy
      have hk3 := hk2.trans (CK.of_below hb3)
      clear hc hb3 hJ3 hk2
      gi_wp2
      refine hR.mono ?_
      rintro e W3 (⟨rfl, hJ4, hk4⟩ | ⟨rfl, hJx4⟩)
      · have HJ4 := Lib.hid hJ4
        clear hJ4 hy
        gi_wp2
        go_roundw
        case rel => exact ⟨k + 1, by omega, by simp, by rw [Htk.out]; exact HJ4.out, hk3.trans hk4⟩
        case measure => simp [intOf]; omega
      · have HJ4 := Lib.hid hJx4
        clear hJx4 hy
        gi_wp2
        refine bodyPost_ret (results_none rfl _ _ _) rfl ?_
        exact ⟨⟨_, rfl⟩, .inr ⟨_, ⟨k + 1, by omega, Htk.out.symm⟩, HJ4.out⟩⟩
    · obtain rfl : k = (cut1 44 [] s).length := by omega
      gi_wp2
      go_end0
      refine ⟨⟨_, rfl⟩, .inl ⟨_, rfl, ?_⟩⟩
      have := HJs.out
      rw [List.take_of_length_le (by rw [piecesT_len]; exact Nat.le_refl _)] at this
      exact this
end Go.Proofs.YtgdfgppgfkkncaaGreatDoor
