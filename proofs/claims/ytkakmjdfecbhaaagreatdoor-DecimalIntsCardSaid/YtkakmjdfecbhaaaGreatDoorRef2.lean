/- The walks of the reference's Plain, noughts, Made: over any world. -/
import Derived.Test.YtkakmjdfecbhaaaGreatDoorRef1
import Derived.Test.YtkakmjdfecbhaaaGreatDoorReg
namespace Go.Proofs.YtkakmjdfecbhaaaGreatDoor
open Go.RowKit

theorem trim0_step (l : List UInt8) (j : Nat) (h : j < l.length) (h1 : trim0 l = trim0 (l.drop j)) (hc : l.getD j 0 = 48) : trim0 l = trim0 (l.drop (j + 1)) := by
  rw [h1, List.drop_eq_getElem_cons h]
  have e : l.getD j 0 = l[j] := by simp [h]
  rw [← e, hc]; rfl
theorem trim0_stop (l : List UInt8) (j : Nat) (h : j < l.length) (h1 : trim0 l = trim0 (l.drop j)) (hc : l.getD j 0 ≠ 48) : trim0 l = l.drop j := by
  rw [h1, List.drop_eq_getElem_cons h]
  have e : l.getD j 0 = l[j] := by simp [h]
  rw [← e]
  unfold trim0
  rw [List.dropWhile_cons, if_neg (by simpa using hc)]
theorem plainR_calls (w : World) (l : List UInt8) (hl : l.length ≤ 1000000000000) :
    Calls Tryz.prog 63 #[.string ⟨l.toArray⟩] w fun e w' => e = .returned (.string ⟨(trim0 l).toArray⟩) ∧ w = w' := by
  go_enter Tryz.func63, Tryz.ntmps63
  go_wp2_with fail
  go_loopg [3] l.length (fun k i wr => ∃ j : Nat, k = l.length - j ∧ j ≤ l.length ∧ i = .int .i64 j ∧ trim0 l = trim0 (l.drop j) ∧ w = wr)
  case atStart => exact ⟨0, rfl, by omega, rfl, by simp, rfl⟩
  case round =>
    obtain ⟨j, hk, hj, rfl, hd, rfl⟩ := hrel
    have Hk := Lib.hid hk
    have Hd := Lib.hid hd
    clear hk hd
    have hx1 : (⟨l.toArray⟩ : ByteArray).extract j l.length = ⟨(l.drop j).toArray⟩ := by rw [Lib.extract_eq]; rw [List.take_of_length_le (by simp)]
    by_cases hlt : j < l.length
    · have hlt' : (j : Int) < l.length := by omega
      have hij := may_at l j hlt
      have Hs := Lib.hid (trim0_step l j hlt Hd.out)
      have Hn := Lib.hid (trim0_stop l j hlt Hd.out)
      generalize l.getD j 0 = c at *
      by_cases h1 : c = 48
      · subst h1
        go_wp2_with fail
        go_roundg (l.length - (j + 1))
        case measure => have := Hk.out; omega
        case rel => exact ⟨j + 1, rfl, by omega, by go_num, Hs.out (by first | trivial | rfl), rfl⟩
      · have h1' : ((c.toNat : Int) == 48) = false := by
          rw [beq_eq_false_iff_ne]; intro h; exact h1 (UInt8.toNat_inj.1 (by show c.toNat = 48; omega))
        have Hf := Lib.hid (Hn.out h1)
        clear Hn Hs h1
        go_wp2_with fail
        go_ret
        exact ⟨by rw [Hf.out]; rfl, rfl⟩
    · obtain rfl : j = l.length := by omega
      have Hf : Hid (trim0 l = []) := by show _ = _; rw [Hd.out]; simp [trim0]
      go_wp2_with fail
      go_ret
      exact ⟨by rw [Hf.out]; rfl, rfl⟩

theorem noughtsR_calls (w : World) (n : Int) (h1 : -1000000 ≤ n) (h2 : n ≤ 1000000) :
    Calls Tryz.prog 52 #[.int .i64 n] w fun e w' => e = .returned (.string ⟨(List.replicate n.toNat (48 : UInt8)).toArray⟩) ∧ Below w.heap.size w w' := by
  obtain ⟨m, hm, hmm⟩ : ∃ m : Nat, max 0 n = (m : Int) ∧ n.toNat = m := ⟨n.toNat, by omega, rfl⟩
  have Hmm := Lib.hid hmm
  have hm9 : m ≤ 1000000 := by omega
  clear hmm
  go_enter Tryz.func52, Tryz.ntmps52
  go_wp2_with (at_make; go_must (refine wpList_make_bytes rfl _ _ rfl _ _ m rfl rfl (by omega) (by omega) (by omega) ?_))
  intro w0 hv0 hb0
  clear hm
  go_wp2_with fail
  go_loopg [4] m (fun k i wr => ∃ (j : Nat) (os : List UInt8), k = m - j ∧ j ≤ m ∧ i = .int .i64 j ∧ BytV wr w.heap.size (.slice (some ⟨w.heap.size, 0, none⟩) m m) os ∧ os.length = m ∧ os.take j = List.replicate j 48 ∧ Below w.heap.size w wr)
  case atStart => exact ⟨0, List.replicate m 0, rfl, by omega, rfl, hv0, by simp, by simp, hb0⟩
  case round =>
    obtain ⟨j, os, hk, hj, rfl, hos, hlos, htk, hbel⟩ := hrel
    have Hk := Lib.hid hk
    have Hlos := Lib.hid hlos
    have Htk := Lib.hid htk
    clear hk hlos htk hv0 hb0
    by_cases hlt : j < m
    · have hlt' : (j : Int) < m := by omega
      have hq1 : j < os.length := by have := Hlos.out; omega
      have c2 := hos.cell j hq1
      have f2 := hos.frozen j
      go_wp2_with fail
      go_roundg (m - (j + 1))
      case measure => have := Hk.out; omega
      case rel =>
        refine ⟨j + 1, os.set j 48, rfl, by omega, by go_num, hos.set j 48 48 rfl, by rw [List.length_set]; exact Hlos.out, ?_, hbel.setCell (Nat.le_refl _) _⟩
        rw [take_snoc8 _ _ (by rw [List.length_set]; exact hq1), List.replicate_succ', List.take_set_of_le (Nat.le_refl j), Htk.out]
        simp [hq1]
    · obtain rfl : j = m := by omega
      have hconv := hos.string
      have Hf : Hid (os = List.replicate j 48) := by
        show os = _
        rw [← Htk.out, List.take_of_length_le (by rw [Hlos.out]; exact Nat.le_refl _)]
      go_wp2_with fail
      go_ret
      exact ⟨by rw [Hmm.out, ← Hf.out]; rfl, hbel⟩

theorem trimR_snoc48 (l : List UInt8) : trimR (l ++ [48]) = trimR l := by simp [trimR]
theorem trimR_stop (l : List UInt8) (c : UInt8) (h : c ≠ 48) : trimR (l ++ [c]) = l ++ [c] := by simp [trimR, h]
theorem trimR_take (t : List UInt8) (m : Nat) (h : m < t.length) (h1 : trimR t = trimR (t.take (m + 1))) (hc : t.getD m 0 = 48) : trimR t = trimR (t.take m) := by
  rw [h1, take_snoc8 t m h, hc, trimR_snoc48]
theorem trimR_end (t : List UInt8) (m : Nat) (h : m < t.length) (h1 : trimR t = trimR (t.take (m + 1))) (hc : t.getD m 0 ≠ 48) : trimR t = t.take (m + 1) := by
  rw [h1, take_snoc8 t m h, trimR_stop _ _ hc]
theorem trimR_nil_iff (l : List UInt8) (h : trim0 l = l) : trimR l = [] ↔ l = [] := by
  constructor
  · intro h1
    cases l with
    | nil => rfl
    | cons c t =>
      exfalso
      have hc := trim0_head h
      have key : ∀ l : List UInt8, l.dropWhile (· == 48) = [] → ∀ y ∈ l, y = 48 := by
        intro l
        induction l with
        | nil => simp
        | cons a l ih =>
          intro h2 y hy
          rw [List.dropWhile_cons] at h2
          by_cases ha : (a == 48) = true
          · rw [if_pos ha] at h2
            rcases List.mem_cons.1 hy with rfl | hy
            · simpa using ha
            · exact ih h2 y hy
          · rw [if_neg ha] at h2; cases h2
      simp only [trimR, List.reverse_eq_nil_iff] at h1
      exact hc (key _ h1 c (by simp))
  · rintro rfl; rfl
theorem DecAt.drew {w : World} {b : Nat} {d : Dec} (h : DecAt w b d) : DecAt w.drew b d := ⟨h.c0, h.c1, h.c2, h.f0, h.f1, h.f2, h.lt⟩
/-- What Made answers. -/
def MadeOut (neg : Bool) (l : List UInt8) (exp : Int) (e : Ending) : Prop :=
  ∃ x b, e = .returned (.tuple #[DecV x, .bool b]) ∧ ((b = true ∧ madeS neg l exp = (x, 0)) ∨ (b = false ∧ madeS neg l exp = (Dec.zero, 4)))

set_option maxHeartbeats 2000000 in
set_option maxRecDepth 100000 in
theorem madeR_calls (w : World) (neg : Bool) (l : List UInt8) (exp : Int) (hl : l.length ≤ 10000000000) (h1 : -1000000000000 ≤ exp) (h2 : exp ≤ 1000000000000) :
    Calls Tryz.prog 35 #[.bool neg, .string ⟨l.toArray⟩, .int .i64 exp] w fun e w' => MadeOut neg l exp e ∧ Below w.heap.size w w' := by
  have hl0 := trim0_len l
  have htt := trim0_trim0 l
  have hms : madeS neg l exp = if trim0 l = [] then (Dec.zero, 0) else if mayB (decOf neg (trim0 l) exp) then (decOf neg (trim0 l) exp, 0) else (Dec.zero, 4) := rfl
  have Hms := Lib.hid hms
  have Htt := Lib.hid htt
  clear hms htt
  have hrz := DecAt.at w Dec.zero _ rfl
  have Hrz := Lib.hid hrz
  clear hrz
  have hbz : Below w.heap.size w (w.alloc (Obj.cells #[Value.bool false, Value.string { data := #[] }, Value.int IntKind.i64 0] 24)) := (Below.refl _ _).alloc (Nat.le_refl _) _
  go_enter Tryz.func35, Tryz.ntmps35
  go_wp2_with fail
  refine (plainR_calls _ l (by omega)).mono ?_
  rintro e w1 ⟨rfl, rfl⟩
  have Hrz2 : Hid (DecAt (w.alloc (Obj.cells #[Value.bool false, Value.string { data := #[] }, Value.int IntKind.i64 0] 24)) w.heap.size Dec.zero) := Hrz.out
  clear Hrz
  generalize w.alloc (Obj.cells #[Value.bool false, Value.string { data := #[] }, Value.int IntKind.i64 0] 24) = w1 at *
  generalize trim0 l = t at *
  go_wp2_with fail
  go_loopg [2, 8] t.length (fun k x s wr => ∃ m : Nat, k = m ∧ m ≤ t.length ∧ s = .string ⟨(t.take m).toArray⟩ ∧ x = .int .i64 (exp + (t.length - m : Nat)) ∧ trimR t = trimR (t.take m) ∧ w1 = wr)
  case atStart => exact ⟨t.length, rfl, by omega, by rw [List.take_of_length_le (Nat.le_refl _)], by simp, by rw [List.take_of_length_le (Nat.le_refl _)], rfl⟩
  case round =>
    obtain ⟨m, hk, hm, rfl, rfl, htr, rfl⟩ := hrel
    have Hk := Lib.hid hk
    have Htr := Lib.hid htr
    clear hk htr
    by_cases hm0 : m = 0
    · subst hm0
      have ht0 : t = [] := (trimR_nil_iff t Htt.out).1 (by rw [Htr.out]; rfl)
      subst ht0
      have Hms2 : Hid (madeS neg l exp = (Dec.zero, 0)) := by show madeS neg l exp = _; rw [Hms.out]; rfl
      have c0 := Hrz2.out.c0
      have c1 := Hrz2.out.c1
      have c2 := Hrz2.out.c2
      have f0 := Hrz2.out.f0
      have f1 := Hrz2.out.f1
      have f2 := Hrz2.out.f2
      simp only [Dec.zero] at c0 c1 c2
      go_wp2_with fail
      refine bodyPost_ret (v := .tuple #[.agg #[.bool false, .string ⟨#[]⟩, .int .i64 0], .bool true]) (by simp [results, Tryz.results35, go_sem, c0, c1, c2]) rfl ?_
      refine ⟨⟨Dec.zero, true, rfl, .inl ⟨rfl, Hms2.out⟩⟩, ?_⟩
      exact ((hbz.setCell (Nat.le_refl _) _).setCell (Nat.le_refl _) _).setCell (Nat.le_refl _) _
    · obtain ⟨k, rfl⟩ : ∃ k, m = k + 1 := ⟨m - 1, by omega⟩
      have hidx : (⟨(t.take (k + 1)).toArray⟩ : ByteArray)[k]'(by simp [ByteArray.size]; omega) = t.getD k 0 := by
        rw [may_at _ _ (by simp; omega)]; simp
      have hsz : (⟨(t.take (k + 1)).toArray⟩ : ByteArray).size = k + 1 := by simp [ByteArray.size]; omega
      have hext : (⟨(t.take (k + 1)).toArray⟩ : ByteArray).extract 0 k = ⟨(t.take k).toArray⟩ := by rw [Lib.extract_eq]; simp [List.take_take]
      have Hs := Lib.hid (trimR_take t k (by omega) Htr.out)
      have Hn := Lib.hid (trimR_end t k (by omega) Htr.out)
      have hlen : (t.take (k + 1)).length = k + 1 := by simp; omega
      have Hlen := Lib.hid hlen
      clear hlen
      have hg : (t.take (k + 1)).getD k 0 = t.getD k 0 := by simp
      have Hg := Lib.hid hg
      clear hg
      generalize t.getD k 0 = c at *
      by_cases h1 : c = 48
      · subst h1
        clear Hn Hg
        go_wp2_with fail
        go_roundg k
        case measure => have := Hk.out; omega
        case rel => exact ⟨k, rfl, by omega, rfl, by rw [show ((t.length - k : Nat) : Int) = ((t.length - (k + 1) : Nat) : Int) + 1 by omega]; go_num, Hs.out (by first | trivial | rfl), rfl⟩
      · have h1' : ((c.toNat : Int) == 48) = false := by
          rw [beq_eq_false_iff_ne]; intro h; exact h1 (UInt8.toNat_inj.1 (by show c.toNat = 48; omega))
        have hR := Hn.out h1
        obtain ⟨E, hE⟩ : ∃ E, E = exp + ((t.length - (k + 1) : Nat) : Int) := ⟨_, rfl⟩
        have hE1 : -1000000000000 ≤ E := by omega
        have hE2 : E ≤ 1100000000000 := by omega
        rw [← hE]
        have hdo : decOf neg t exp = ⟨neg, t.take (k + 1), E⟩ := by
          have e1 : exp + (t.length : Int) - ((t.take (k + 1)).length : Int) = E := by have h9 : ((t.take (k + 1)).length : Int) = ((k + 1 : Nat) : Int) := congrArg Nat.cast Hlen.out; rw [hE, h9]; omega
          unfold decOf; rw [hR, e1]
        have hne : t ≠ [] := by intro e; subst e; simp at hm
        have Hms2 : Hid (madeS neg l exp = if mayB ⟨neg, t.take (k + 1), E⟩ then (⟨neg, t.take (k + 1), E⟩, 0) else (Dec.zero, 4)) := by show madeS neg l exp = _; rw [Hms.out, if_neg hne, hdo]
        have hRl : (t.take (k + 1)).length ≤ 100000000000 := by rw [Hlen.out]; omega
        obtain ⟨x, R, hxR⟩ : ∃ x R, t.take (k + 1) = x :: R := by
          cases hq : t.take (k + 1) with
          | nil => have := Hlen.out; rw [hq] at this; simp at this
          | cons x R => exact ⟨x, R, rfl⟩
        obtain rfl : k = R.length := by have h9 := Hlen.out; rw [hxR] at h9; simpa using h9.symm
        have hg2 := Hg.out
        rw [hxR] at hg2
        have hix : (⟨(x :: R).toArray⟩ : ByteArray)[R.length]'(by simp [ByteArray.size]) = c := by rw [may_at (x :: R) R.length (by simp)]; exact hg2
        clear hidx hsz hext hg2 Hg
        rw [hxR] at Hms2 hRl ⊢
        clear hR hdo hne hE Hs Hn Hlen Hms Htt Htr Hk hxR h1
        have hd := DecAt.at w1 ⟨neg, x :: R, E⟩ _ rfl
        have Hd := Lib.hid hd
        clear hd
        have Hz := Lib.hid (Hrz2.out.alloc (Obj.cells #[Value.bool neg, Value.string { data := (x :: R).toArray }, Value.int IntKind.i64 E] 24))
        have hbd := hbz.alloc hbz.size (Obj.cells #[Value.bool neg, Value.string { data := (x :: R).toArray }, Value.int IntKind.i64 E] 24)
        have hne2 : w.heap.size ≠ w1.heap.size := Nat.ne_of_lt Hrz2.out.lt
        clear Hrz2
        go_wp2_with fail
        generalize w1.alloc (Obj.cells #[Value.bool neg, Value.string { data := (x :: R).toArray }, Value.int IntKind.i64 E] 24) = w2 at *
        have hS0 : (fun w' => w'.cell? ⟨w1.heap.size, 0, none⟩ = some (.bool neg) ∧ w'.cell? ⟨w1.heap.size, 1, none⟩ = some (.string ⟨(x :: R).toArray⟩) ∧ w'.cell? ⟨w1.heap.size, 2, none⟩ = some (.int .i64 E)) w2.drew := ⟨Hd.out.c0, Hd.out.c1, Hd.out.c2⟩
        refine wp_region_held_drew (S := (fun w' => w'.cell? ⟨w1.heap.size, 0, none⟩ = some (.bool neg) ∧ w'.cell? ⟨w1.heap.size, 1, none⟩ = some (.string ⟨(x :: R).toArray⟩) ∧ w'.cell? ⟨w1.heap.size, 2, none⟩ = some (.int .i64 E))) (by kernel_rfl) hS0 (fun hHeld0 => ?_)
        refine held_take (i := 0) (v := ?_) rfl (by kernel_rfl) (by kernel_rfl) (by kernel_rfl) (fun _ _ _ h => h) (by rfl) (fun w hSw => ?_) hHeld0 ?_
        rotate_left
        · (try dsimp only at hSw); go_simp; try with_reducible rfl
        simp only [Act.put, List.setIfInBounds_toArray, List.set_cons_zero, List.set_cons_succ]
        refine held_take (i := 1) (v := ?_) rfl (by kernel_rfl) (by kernel_rfl) (by kernel_rfl) (fun _ _ _ h => h) (by rfl) (fun w hSw => ?_) hHeld0 ?_
        rotate_left
        · (try dsimp only at hSw); go_simp; try with_reducible rfl
        simp only [Act.put, List.setIfInBounds_toArray, List.set_cons_zero, List.set_cons_succ]
        refine held_step (i := 2) (by kernel_rfl) rfl (by rfl) (fun K hK => ?_)
        go_simp
        refine (mayR_calls _ ⟨neg, x :: R, E⟩ hRl).mono ?_
        rintro e w3 ⟨rfl, hb3⟩
        dsimp only
        have Hd3 := Lib.hid (Hd.out.drew.under hb3)
        have Hz3 := Lib.hid (Hz.out.drew.under hb3)
        have hb4 := hbd.drew.trans (hb3.mono hbd.size)
        clear Hd Hz hbd hb3
        have z0 := Hz3.out.c0
        have z1 := Hz3.out.c1
        have z2 := Hz3.out.c2
        have g0 := Hz3.out.f0
        have g1 := Hz3.out.f1
        have g2 := Hz3.out.f2
        refine hK.out _ _ ⟨Hd3.out.c0, Hd3.out.c1, Hd3.out.c2⟩ (fun hHeld1 => ?_)
        clear hK K hHeld0
        refine held_step (i := 3) (by kernel_rfl) rfl (by rfl) (fun K hK => ?_)
        go_simp
        refine hK.out _ _ ⟨by rw [World.cell?_setCell_far _ _ _ _ hne2, World.cell?_setCell_far _ _ _ _ hne2, World.cell?_setCell_far _ _ _ _ hne2]; exact Hd3.out.c0, by rw [World.cell?_setCell_far _ _ _ _ hne2, World.cell?_setCell_far _ _ _ _ hne2, World.cell?_setCell_far _ _ _ _ hne2]; exact Hd3.out.c1, by rw [World.cell?_setCell_far _ _ _ _ hne2, World.cell?_setCell_far _ _ _ _ hne2, World.cell?_setCell_far _ _ _ _ hne2]; exact Hd3.out.c2⟩ (fun hHeld2 => ?_)
        clear hK K hHeld1
        refine held_take (i := 4) (v := ?_) rfl (by kernel_rfl) (by kernel_rfl) (by kernel_rfl) (fun _ _ _ h => h) (by rfl) (fun w hSw => ?_) hHeld2 ?_
        rotate_left
        · (try dsimp only at hSw); go_simp; try with_reducible rfl
        simp only [Act.put, List.setIfInBounds_toArray, List.set_cons_zero, List.set_cons_succ]
        refine wpAnyH_done (by kernel_rfl) ?_ _
        clear hHeld2
        clear hS0
        have hbf := ((hb4.setCell (p := ⟨w.heap.size, 0, none⟩) (Nat.le_refl _) (.bool neg)).setCell (p := ⟨w.heap.size, 1, none⟩) (Nat.le_refl _) (.string ⟨(x :: R).toArray⟩)).setCell (p := ⟨w.heap.size, 2, none⟩) (Nat.le_refl _) (.int .i64 E)
        go_wp2_with fail
        refine bodyPost_ret (v := .tuple #[.agg #[.bool neg, .string ⟨(x :: R).toArray⟩, .int .i64 E], .bool (mayB ⟨neg, x :: R, E⟩)]) (by simp [results, Tryz.results35, go_sem, z0, z1, z2]) rfl ?_
        refine ⟨⟨⟨neg, x :: R, E⟩, mayB ⟨neg, x :: R, E⟩, rfl, ?_⟩, hbf⟩
        have := Hms2.out
        cases hm : mayB ⟨neg, x :: R, E⟩ with
        | true => rw [hm] at this; exact .inl ⟨rfl, this⟩
        | false => rw [hm] at this; exact .inr ⟨rfl, this⟩
end Go.Proofs.YtkakmjdfecbhaaaGreatDoor
