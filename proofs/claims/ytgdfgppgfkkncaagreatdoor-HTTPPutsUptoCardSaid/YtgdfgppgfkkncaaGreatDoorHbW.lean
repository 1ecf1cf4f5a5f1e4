/- bytes.Buffer: Write of a nil slice; what a buffer keeps. -/
import Derived.Test.YtgdfgppgfkkncaaGreatDoorHtY
import Derived.Test.YtgdfgppgfkkncaaGreatDoorHtZ
import Derived.Lib.BufferMore
import Derived.Laws.IdiomCopy
namespace Go.Proofs.YtgdfgppgfkkncaaGreatDoor
open Go.RowKit

abbrev Buf (B b : Nat) (l : List UInt8) (w : World) : Prop := Lib.IsBuffer 106 5 B b (u8s l) w
theorem Buf.apart {S : Nat → Prop} {B b : Nat} {l : List UInt8} {w w' : World} (h : Buf B b l w) (ha : Apart S w w') (hS : ∀ k, S k → w.heap.size ≤ k) : Buf B b l w' := by
  obtain ⟨hB, v, lr, h1, h2, h3⟩ := h
  have hlt : ∀ k, k < w.heap.size → ¬ S k := fun k hk hs => by have := hS k hs; omega
  exact ⟨hB, v, lr, (ha.block _ (Array.getElem?_eq_some_iff.1 h1).1 (hlt _ (Array.getElem?_eq_some_iff.1 h1).1)).trans h1, ownsRow_apart h2 ha (fun k hk => hlt k (World.ownsRow.lt h2 k hk).2), h3⟩
theorem Buf.below {B b : Nat} {l : List UInt8} {w w' : World} (h : Buf B b l w) (hb : Below w.heap.size w w') : Buf B b l w' := h.apart (S := fun _ => False) (.ofBelow hb) (fun _ h => h.elim)
theorem u8s_cells (l : List UInt8) : Lib.byteCells l = u8s l := rfl
theorem writeS_calls (B b : Nat) (l m : List UInt8) (w : World) (h : Buf B b l w) (hBw : B ≤ w.heap.size) (hl : l.length + m.length ≤ 1000000000000) :
    Calls Tryz.prog 55 #[.pointer (some ⟨b, 0, none⟩), .string ⟨m.toArray⟩] w fun e w' => (∃ v, e = .returned v) ∧ Buf B b (l ++ m) w' ∧ Below B w w' := by
  refine (Tryz.Buffer_WriteString B b (u8s l) ⟨m.toArray⟩ w h hBw (u8s_one l) (by rw [u8s_len]; simp [ByteArray.size]; omega)).mono ?_
  rintro e w' ⟨rfl, h1, h2⟩
  refine ⟨⟨_, rfl⟩, ?_, h2⟩
  unfold Buf
  rw [u8s_app]
  exact h1
set_option maxRecDepth 100000 in
theorem tryGrow_calls (b : Nat) (ao : Option Addr) (l cap : Nat) (w : World) (c0 : w.cell? ⟨b, 0, none⟩ = some (.slice ao l cap)) (f0 : w.frozen? ⟨b, 0, none⟩ = false) (hl : l ≤ cap) (hm : cap ≤ 9223372036854775807) :
    Calls Tryz.prog 87 #[.pointer (some ⟨b, 0, none⟩), .int .i64 0] w fun e w' => e = .returned (.tuple #[.int .i64 l, .bool true]) ∧ w' = w.setCell ⟨b, 0, none⟩ (.slice ao l cap) := by
  go_enter Tryz.func87, Tryz.ntmps87
  go_wp2_with fail
  go_ret2
  exact ⟨rfl, rfl⟩
set_option maxRecDepth 100000 in
theorem writeN_calls (B b : Nat) (l : List UInt8) (w : World) (px : Option Addr) (c : Nat) (h : Buf B b l w) :
    Calls Tryz.prog 56 #[.pointer (some ⟨b, 0, none⟩), .slice px 0 c] w fun e w' => (∃ v, e = .returned v) ∧ Buf B b l w' ∧ Below B w w' := by
  obtain ⟨hB, v, lr, h1, h2, h3⟩ := h
  have hlt := (Array.getElem?_eq_some_iff.1 h1).1
  have c0 : w.cell? ⟨b, 0, none⟩ = some v := by simp [World.cell?, h1]
  have c2 : w.cell? ⟨b, 2, none⟩ = some (.int .i8 lr) := by simp [World.cell?, h1]
  have f0 : w.frozen? ⟨b, 0, none⟩ = false := by simp [World.frozen?, h1]
  have f2 : w.frozen? ⟨b, 2, none⟩ = false := by simp [World.frozen?, h1]
  obtain ⟨ao, cap, rfl, hlc, hcm⟩ : ∃ ao cap, v = .slice ao (u8s l).length cap ∧ (u8s l).length ≤ cap ∧ cap ≤ 9223372036854775807 := by
    rcases h2.2 with ⟨rfl, h9⟩ | ⟨g, cap, cur, rfl, _, _, h9, h8, _⟩
    · exact ⟨none, 0, by rw [h9], by omega, by omega⟩
    · exact ⟨_, cap, rfl, h9, by unfold maxLen at h8; omega⟩
  have hcp : ∀ d dLen dCap W, (Builtin.copy_ #[23, 23] 3 #[.slice d dLen dCap, .slice px 0 c]).run Tryz.prog W = .ok (goInt 0) W := fun d dLen dCap W => run_copy_none W 23 23 3 5 d px dLen dCap 0 c Tryz.underlying23 (by kernel_rfl) (Nat.zero_min _)
  have HF : Hid (Buf B b l ((w.setCell ⟨b, 2, none⟩ (.int .i8 0)).setCell ⟨b, 0, none⟩ (.slice ao (u8s l).length cap)) ∧ Below B w ((w.setCell ⟨b, 2, none⟩ (.int .i8 0)).setCell ⟨b, 0, none⟩ (.slice ao (u8s l).length cap))) := by
    refine ⟨⟨hB, _, 0, ?_, ?_, h3⟩, ((Below.refl _ _).setCell (p := ⟨b, 2, none⟩) hB _).setCell (p := ⟨b, 0, none⟩) hB _⟩
    · exact (Lib.heap_setCell_same (Lib.heap_setCell_same h1 _) _).trans rfl
    · exact ownsRow_apart (S := fun k => k = b) h2 ((Apart.set (S := fun k => k = b) w (a := ⟨b, 2, none⟩) rfl _).tset (a := ⟨b, 0, none⟩) rfl _) (fun k hk e => h3 (by rw [hk, e]))
  generalize (u8s l).length = n at *
  clear h1 h2 h3
  have hc0' : (w.setCell ⟨b, 2, none⟩ (.int .i8 0)).cell? ⟨b, 0, none⟩ = some (.slice ao n cap) := by rw [World.cell?_setCell_other _ _ _ _ (fun e => by injection e with _ e; cases e)]; exact c0
  have hf0' : (w.setCell ⟨b, 2, none⟩ (.int .i8 0)).frozen? ⟨b, 0, none⟩ = false := by rw [World.frozen?_setCell]; exact f0
  go_enter Tryz.func56, Tryz.ntmps56
  go_wp2_with fail
  refine (tryGrow_calls b ao n cap _ hc0' hf0' hlc hcm).mono ?_
  rintro e w2 ⟨rfl, rfl⟩
  by_cases hcn : cap = n
  · subst hcn
    go_wp2_with fail
    go_ret2
    exact ⟨⟨_, rfl⟩, HF.out⟩
  · go_wp2_with fail
    go_ret2
    exact ⟨⟨_, rfl⟩, HF.out⟩
/-- Write, whatever comes. -/
theorem write_calls (B b : Nat) (l m : List UInt8) (w : World) (x : Value) (h : Buf B b l w) (hBw : B ≤ w.heap.size) (hx : BytG w x m) (hxB : m ≠ [] → ∀ k, x.ownBlock = some k → k < B) (hl : l.length + m.length ≤ 1000000000000) :
    Calls Tryz.prog 56 #[.pointer (some ⟨b, 0, none⟩), x] w fun e w' => (∃ v, e = .returned v) ∧ Buf B b (l ++ m) w' ∧ Below B w w' := by
  rcases hx.cases with ⟨rfl, px, cap, rfl⟩ | ⟨hm, hx⟩
  · rw [List.append_nil]; exact writeN_calls B b l w px cap h
  · rcases hx with ⟨_, h9⟩ | ⟨g, off, cap, rfl, h2, h3, h4, h5⟩
    · exact absurd h9 hm
    refine (Tryz.Buffer_Write B b (u8s l) (u8s m) ⟨g, off, none⟩ m.length cap w h hBw (u8s_one l) (u8s_len m) (hxB hm _ rfl) (fun j v hj => ?_) (u8s_one m) (by rw [u8s_len]; omega)).mono ?_
    · have hj2 := (List.getElem?_eq_some_iff.1 hj).1
      rw [u8s_len] at hj2
      rw [u8s_at m j hj2] at hj
      cases hj
      rw [addr_off rfl]; exact h5 j hj2
    · rintro e w' ⟨rfl, h1, h2⟩
      refine ⟨⟨_, rfl⟩, ?_, h2⟩
      unfold Buf
      rw [u8s_app]
      exact h1
theorem bufBytes_calls (B b : Nat) (l : List UInt8) (w : World) (h : Buf B b l w) :
    Calls Tryz.prog 57 #[.pointer (some ⟨b, 0, none⟩)] w fun e w' => ∃ v, e = .returned v ∧ BytV w' B v l ∧ Below w.heap.size w w' := by
  refine (Tryz.Buffer_Bytes B b (u8s l) w h).mono ?_
  rintro e w' ⟨v, rfl, h1, n, rfl⟩
  refine ⟨v, rfl, ?_, below_drewN (Below.refl _ _) n⟩
  unfold BytV
  rw [u8s_len] at h1
  exact h1
end Go.Proofs.YtgdfgppgfkkncaaGreatDoor
