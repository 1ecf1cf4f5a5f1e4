/- A connection's small functions. -/
import Derived.Test.YtgdfgppgfkkncaaGreatDoorHtC
namespace Go.Proofs.YtgdfgppgfkkncaaGreatDoor
open Go.RowKit

/-- A connection: its bytes lie in blocks behind its own. -/
structure ConnAt (w : World) (C : Nat) (v : Value) (l : List UInt8) (dead : Bool) : Prop where
  row : RowAt w C [v, .bool true, .bool dead]
  wait : WaitV w (C + 1) v l
theorem ConnAt.below {w w' : World} {C : Nat} {v : Value} {l : List UInt8} {d : Bool} (h : ConnAt w C v l d) (hb : Below w.heap.size w w') : ConnAt w' C v l d := ⟨h.row.below hb, h.wait.below hb⟩
/-- The blocks of a connection. -/
def OwnC (C : Nat) (v : Value) (k : Nat) : Prop := k = C ∨ v.ownBlock = some k
theorem ConnAt.apart {S : Nat → Prop} {w w' : World} {C : Nat} {v : Value} {l : List UInt8} {d : Bool} (h : ConnAt w C v l d) (ha : Apart S w w') (hn : ∀ k, OwnC C v k → ¬ S k) : ConnAt w' C v l d :=
  ⟨h.row.apart ha (hn _ (.inl rfl)), h.wait.apart ha (fun k hk => hn k (.inr hk))⟩
theorem ConnAt.own {w : World} {C : Nat} {v : Value} {l : List UInt8} {d : Bool} (h : ConnAt w C v l d) {k : Nat} (hk : OwnC C v k) : C ≤ k ∧ k < w.heap.size := by
  rcases hk with rfl | hk
  · exact ⟨Nat.le_refl _, h.row.lt⟩
  · have := h.wait.lt hk; omega
theorem WaitV.form {w : World} {B : Nat} {v : Value} {l : List UInt8} (h : WaitV w B v l) : ∃ p cap, v = .slice p l.length cap ∧ l.length ≤ cap ∧ (p = none → l = [] ∧ cap = 0) := by
  rcases h with ⟨rfl, rfl⟩ | ⟨g, off, cap, rfl, h2, h3, h4, _⟩
  · exact ⟨none, 0, rfl, Nat.le_refl _, fun _ => ⟨rfl, rfl⟩⟩
  · exact ⟨_, cap, rfl, h4, fun e => by cases e⟩
set_option maxRecDepth 100000
theorem none_calls (w : World) {C : Nat} {v : Value} {l : List UInt8} {d : Bool} (h : ConnAt w C v l d) :
    Calls Tryz.prog 33 #[.pointer (some ⟨C, 0, none⟩)] w fun e w' => e = .returned (.bool false) ∧ w = w' := by
  have c1 := h.row.cell 1 _ rfl
  clear h
  go_enter Tryz.func33, Tryz.ntmps33
  go_wp2
  all_goals
    go_ret
    exact ⟨rfl, rfl⟩
theorem none_nil (w : World) : Calls Tryz.prog 33 #[.pointer none] w fun e w' => e = .returned (.bool true) ∧ w = w' := by
  go_enter Tryz.func33, Tryz.ntmps33
  go_wp2
  all_goals
    go_ret
    exact ⟨rfl, rfl⟩
theorem none_zero (w : World) {C : Nat} (c1 : w.cell? ⟨C, 1, none⟩ = some (.bool false)) : Calls Tryz.prog 33 #[.pointer (some ⟨C, 0, none⟩)] w fun e w' => e = .returned (.bool true) ∧ w = w' := by
  go_enter Tryz.func33, Tryz.ntmps33
  go_wp2
  all_goals
    go_ret
    exact ⟨rfl, rfl⟩
/-- A connection that is none. -/
inductive NoConn (w : World) : Value → Prop where
  | nil : NoConn w (.pointer none)
  | zero (C : Nat) (h : w.cell? ⟨C, 1, none⟩ = some (.bool false)) : NoConn w (.pointer (some ⟨C, 0, none⟩))
theorem none_none (w : World) {p : Value} (h : NoConn w p) : Calls Tryz.prog 33 #[p] w fun e w' => e = .returned (.bool true) ∧ w = w' := by
  cases h with
  | nil => exact none_nil w
  | zero C h => exact none_zero w h
theorem dead_calls (w : World) {C : Nat} {v : Value} {l : List UInt8} {d : Bool} (h : ConnAt w C v l d) :
    Calls Tryz.prog 16 #[.pointer (some ⟨C, 0, none⟩)] w fun e w' => e = .returned (.bool d) ∧ w = w' := by
  have c2 := h.row.cell 2 _ rfl
  have hn := none_calls w h
  clear h
  go_enter Tryz.func16, Tryz.ntmps16
  go_wp2_with fail
  refine hn.mono ?_
  rintro e w' ⟨rfl, rfl⟩
  go_wp2
  all_goals
    go_ret
    exact ⟨rfl, rfl⟩
theorem dead_none (w : World) {p : Value} (h : NoConn w p) : Calls Tryz.prog 16 #[p] w fun e w' => e = .returned (.bool true) ∧ w = w' := by
  have hn := none_none w h
  go_enter Tryz.func16, Tryz.ntmps16
  go_wp2_with fail
  refine hn.mono ?_
  rintro e w' ⟨rfl, rfl⟩
  go_wp2
  all_goals
    go_ret
    exact ⟨rfl, rfl⟩
theorem waiting_calls (w : World) {C : Nat} {v : Value} {l : List UInt8} {d : Bool} (h : ConnAt w C v l d) :
    Calls Tryz.prog 17 #[.pointer (some ⟨C, 0, none⟩)] w fun e w' => e = .returned (.int .i64 l.length) ∧ w = w' := by
  obtain ⟨p, cap, rfl, hcap, hp⟩ := h.wait.form
  have c0 := h.row.cell 0 _ rfl
  have hn := none_calls w h
  clear h hp
  go_enter Tryz.func17, Tryz.ntmps17
  go_wp2_with fail
  refine hn.mono ?_
  rintro e w' ⟨rfl, rfl⟩
  go_wp2
  all_goals
    go_ret
    exact ⟨rfl, rfl⟩
theorem waiting_none (w : World) {p : Value} (h : NoConn w p) : Calls Tryz.prog 17 #[p] w fun e w' => e = .returned (.int .i64 0) ∧ w = w' := by
  have hn := none_none w h
  go_enter Tryz.func17, Tryz.ntmps17
  go_wp2_with fail
  refine hn.mono ?_
  rintro e w' ⟨rfl, rfl⟩
  go_wp2
  all_goals
    go_ret
    exact ⟨rfl, rfl⟩
theorem new_calls (w : World) : Calls Tryz.prog 10 #[] w fun e w' => e = .returned (.pointer (some ⟨w.heap.size, 0, none⟩)) ∧ ConnAt w' w.heap.size (.slice none 0 0) [] false ∧ Below w.heap.size w w' := by
  go_enter Tryz.func10, Tryz.ntmps10
  go_wp2_with fail
  go_ret
  exact ⟨rfl, ⟨RowAt.new w #[.slice none 0 0, .bool true, .bool false] 70, WaitV.nil _ _⟩, (Below.refl _ _).alloc (Nat.le_refl _) _⟩
theorem shut_calls (w : World) {C : Nat} {v : Value} {l : List UInt8} {d : Bool} (h : ConnAt w C v l d) :
    Calls Tryz.prog 36 #[.pointer (some ⟨C, 0, none⟩)] w fun e w' => e = .returned (.tuple #[]) ∧ ConnAt w' C (.slice none 0 0) [] true ∧ Apart (OwnC C v) w w' := by
  obtain ⟨p, cap, rfl, hcap, hp⟩ := h.wait.form
  have c0 := h.row.cell 0 _ rfl
  have c2 := h.row.cell 2 _ rfl
  have f0 := h.row.free 0
  have f2 := h.row.free 2
  have Hrow := Lib.hid h.row
  clear h hp
  go_enter Tryz.func36, Tryz.ntmps36
  go_wp2_with fail
  go_end0
  refine ⟨rfl, ⟨(Hrow.out.set 2 (.bool true) (by simp)).set 0 (.slice none 0 0) (by simp), WaitV.nil _ _⟩, (Apart.set w (.inl rfl) _).trans (Apart.set _ (S := OwnC C _) (.inl rfl) _) (fun _ _ h => h)⟩
theorem put_calls (w : World) {C : Nat} {v x : Value} {l m : List UInt8} {d : Bool} (h : ConnAt w C v l d) (hx : BytS w x m) (hlen : l.length + m.length ≤ 100000000) :
    Calls Tryz.prog 34 #[.pointer (some ⟨C, 0, none⟩), x] w fun e w' => e = .returned (.tuple #[]) ∧ ∃ v', ConnAt w' C v' (l ++ m) d ∧ Apart (OwnC C v) w w' ∧ ∀ k, v'.ownBlock = some k → v.ownBlock = some k ∨ w.heap.size ≤ k := by
  have c0 := h.row.cell 0 _ rfl
  have Hrow := Lib.hid h.row
  have Hw := Lib.hid h.wait
  have hlt := h.row.lt
  clear h
  obtain ⟨lm, hlm⟩ : ∃ x, l ++ m = x := ⟨_, rfl⟩
  rw [hlm]
  have Hlm := Lib.hid hlm
  clear hlm
  go_enter Tryz.func34, Tryz.ntmps34
  go_wp2_with (at_builtin; go_must (refine wpList_append_wait rfl _ _ rfl (C + 1) v x l m rfl Hw.out rfl hx hlen hlt ?_))
  intro v' w1 hv' hg hown
  rw [Hlm.out] at hv'
  have hne : some C ≠ v.ownBlock := fun e => by have := (Hw.out.lt e.symm).1; omega
  have Hr1 := Lib.hid (Hrow.out.grown hg hne)
  have c0 := Hr1.out.cell 0 _ rfl
  have f0 := Hr1.out.free 0
  obtain ⟨p, cap, rfl, hcap, hp⟩ := hv'.form
  have Hv := Lib.hid hv'
  have Hg := Lib.hid hg
  have Ho := Lib.hid hown
  clear hv' hg hown hp hx
  go_wp2_with fail
  go_end0
  refine ⟨rfl, _, ⟨Hr1.out.set 0 _ (by simp), Hv.out.apart (S := fun k => k = C) (Apart.set (S := fun k => k = C) _ rfl _) (fun k hk e => by have := (Hv.out.lt hk).1; omega)⟩, (Apart.ofGrown (S := OwnC C v) Hg.out (fun k hk => .inr hk)).trans (Apart.set _ (S := OwnC C v) (.inl rfl) _) (fun _ _ h => h), Ho.out⟩
end Go.Proofs.YtgdfgppgfkkncaaGreatDoor
