/- The walk of the reference's request. Printed by gen_hr7.py. -/
import Derived.Test.YtgdfgppgfkkncaaGreatDoorHr3
namespace Go.Proofs.YtgdfgppgfkkncaaGreatDoor
open Go.RowKit

/-- The result's cells and the request's. -/
structure RqI (w : World) (W : World) (m u q : List UInt8) : Prop where
  r1 : RowAt W w.heap.size [.string ⟨#[]⟩, .string ⟨#[]⟩, .string ⟨#[]⟩, .slice none 0 0, .slice none 0 0, .bool false]
  r2 : RowAt W (w.heap.size + 1) [.string ⟨m.toArray⟩, .string ⟨u.toArray⟩, .string ⟨q.toArray⟩, .slice none 0 0, .slice none 0 0, .bool false]
  b : Below w.heap.size w W
theorem RqI.set0 {w W : World} {m u q : List UInt8} (h : RqI w W m u q) (m' : List UInt8) : RqI w (W.setCell ⟨w.heap.size + 1, 0, none⟩ (.string ⟨m'.toArray⟩)) m' u q :=
  ⟨h.r1.far (p := ⟨w.heap.size + 1, 0, none⟩) (by show w.heap.size + 1 ≠ w.heap.size; omega) _, h.r2.set 0 _ (by simp), h.b.setCell (p := ⟨w.heap.size + 1, 0, none⟩) (by show w.heap.size ≤ w.heap.size + 1; omega) _⟩
theorem RqI.set1 {w W : World} {m u q : List UInt8} (h : RqI w W m u q) (u' : List UInt8) : RqI w (W.setCell ⟨w.heap.size + 1, 1, none⟩ (.string ⟨u'.toArray⟩)) m u' q :=
  ⟨h.r1.far (p := ⟨w.heap.size + 1, 1, none⟩) (by show w.heap.size + 1 ≠ w.heap.size; omega) _, h.r2.set 1 _ (by simp), h.b.setCell (p := ⟨w.heap.size + 1, 1, none⟩) (by show w.heap.size ≤ w.heap.size + 1; omega) _⟩
theorem RqI.set2 {w W : World} {m u q : List UInt8} (h : RqI w W m u q) (q' : List UInt8) : RqI w (W.setCell ⟨w.heap.size + 1, 2, none⟩ (.string ⟨q'.toArray⟩)) m u q' :=
  ⟨h.r1.far (p := ⟨w.heap.size + 1, 2, none⟩) (by show w.heap.size + 1 ≠ w.heap.size; omega) _, h.r2.set 2 _ (by simp), h.b.setCell (p := ⟨w.heap.size + 1, 2, none⟩) (by show w.heap.size ≤ w.heap.size + 1; omega) _⟩
theorem RqI.drew {w W : World} {m u q : List UInt8} (h : RqI w W m u q) : RqI w W.drew m u q := ⟨h.r1.drew, h.r2.drew, h.b.drew⟩
/-- What request answers. -/
def RqOut (s : List UInt8) (e : Ending) : Prop := ∃ m u q : List UInt8, e = .returned (.tuple #[.agg #[.string ⟨m.toArray⟩, .string ⟨u.toArray⟩, .string ⟨q.toArray⟩, .slice none 0 0, .slice none 0 0, .bool false], .int .i64 (firstS s).2]) ∧ ((firstS s).2 = 0 → (firstS s).1 = (m, u, q))
theorem RqOut.no {s : List UInt8} {er : Int} (h : (firstS s).2 = er) (h0 : er ≠ 0) (m u q : List UInt8) : RqOut s (.returned (.tuple #[.agg #[.string ⟨m.toArray⟩, .string ⟨u.toArray⟩, .string ⟨q.toArray⟩, .slice none 0 0, .slice none 0 0, .bool false], .int .i64 er])) :=
  ⟨m, u, q, by rw [h], fun h9 => absurd (h.symm.trans h9) h0⟩
theorem takeWhile_pre {p : UInt8 → Bool} {s : List UInt8} {j : Nat} (_hj : j ≤ s.length) (h : (s.take j).all p = true) (hs : j = s.length ∨ p (s.getD j 0) = false) : s.takeWhile p = s.take j := by
  rcases Nat.lt_or_ge j s.length with hl | hl
  · have hp : p (s.getD j 0) = false := by rcases hs with h1 | h1; (· omega); exact h1
    have e : s = s.take j ++ s.getD j 0 :: s.drop (j + 1) := by rw [← drop_at hl, List.take_append_drop]
    have h2 := takeWhile_stop (p := p) (r := s.drop (j + 1)) h hp
    rw [← e] at h2
    exact h2
  · have e : s.take j = s := List.take_of_length_le hl
    rw [e] at h ⊢
    exact takeWhile_all h
/-- The method's test. -/
def bad1 (s : List UInt8) (j : Nat) : Bool := decide (j < 1) || (decide (16 < j) || (decide (s.length ≤ j) || !(s.getD j 0 == 32)))
theorem req_no1 {s : List UInt8} {j : Nat} (hj : j ≤ s.length) (h : (s.take j).all upB = true) (hs : j = s.length ∨ upB (s.getD j 0) = false) (hb : bad1 s j = true) : (firstS s).2 = 380 := by
  refine Classical.byContradiction fun hn => ?_
  obtain ⟨m, u, a, b, H⟩ := firstS_inv hn
  have h1 := H.meth
  rw [takeWhile_pre hj h hs] at h1
  have hl : m.length = j := by rw [← h1, List.length_take]; omega
  have h2 := H.pos
  have h3 := H.le
  have hsl := congrArg List.length H.eq
  simp at hsl
  have h5 : s.getD j 0 = 32 := by rw [H.eq, List.getD_eq_getElem?_getD, List.getElem?_append_right (by omega), hl, Nat.sub_self]; rfl
  unfold bad1 at hb
  rw [h5] at hb
  simp at hb
  omega
/-- The address's test. -/
def good2 (t : List UInt8) (k : Nat) : Prop := 1 ≤ k ∧ t.getD 0 0 = 47 ∧ t.length = k + 9 ∧ (t.drop k).take 6 = [32, 72, 84, 84, 80, 47] ∧ dgB (t.getD (k + 6) 0) = true ∧ t.getD (k + 7) 0 = 46 ∧ dgB (t.getD (k + 8) 0) = true
theorem getD_app {x y : List UInt8} {k i : Nat} (h : x.length = k) : (x ++ y).getD (k + i) 0 = y.getD i 0 := by
  rw [List.getD_eq_getElem?_getD, List.getElem?_append_right (by omega), h, Nat.add_sub_cancel_left, List.getD_eq_getElem?_getD]
theorem req_no2 {s : List UInt8} {j k : Nat} (hj : j < s.length) (hu : (s.take j).all upB = true) (h32 : s.getD j 0 = 32) (hk : k ≤ (s.drop (j + 1)).length) (h : ((s.drop (j + 1)).take k).all adB = true) (hs : k = (s.drop (j + 1)).length ∨ adB ((s.drop (j + 1)).getD k 0) = false) (hb : ¬ good2 (s.drop (j + 1)) k) : (firstS s).2 = 380 := by
  refine Classical.byContradiction fun hn => ?_
  obtain ⟨m, u, a, b, H⟩ := firstS_inv hn
  have h1 := H.meth
  rw [takeWhile_pre (by omega) hu (.inr (by rw [h32]; rfl))] at h1
  have hl : m.length = j := by rw [← h1, List.length_take]; omega
  have h2 := H.addr
  rw [hl] at h2
  rw [takeWhile_pre hk h hs] at h2
  have hul : u.length = k := by rw [← h2, List.length_take]; omega
  have he : s.drop (j + 1) = u ++ [32, 72, 84, 84, 80, 47, a, 46, b] := by
    rw [H.eq, show m ++ 32 :: (u ++ [32, 72, 84, 84, 80, 47, a, 46, b]) = (m ++ [32]) ++ (u ++ [32, 72, 84, 84, 80, 47, a, 46, b]) by simp]
    exact List.drop_left' (by simp [hl])
  apply hb
  rw [he]
  have hh := H.head
  refine ⟨?_, ?_, by simp [hul], ?_, ?_, ?_, ?_⟩
  · cases u with
    | nil => cases hh
    | cons x r => simp at hul; omega
  · cases u with
    | nil => cases hh
    | cons x r => simp at hh; simpa using hh
  · rw [List.drop_left' hul]; rfl
  · rw [getD_app hul]; exact H.da
  · rw [getD_app hul]; rfl
  · rw [getD_app hul]; exact H.db
theorem req_line {s : List UInt8} {j k : Nat} (hj : j < s.length) (hu : (s.take j).all upB = true) (h1 : 1 ≤ j) (h16 : j ≤ 16) (h32 : s.getD j 0 = 32) (h : ((s.drop (j + 1)).take k).all adB = true) (hg : good2 (s.drop (j + 1)) k) :
    LineS s (s.take j) ((s.drop (j + 1)).take k) ((s.drop (j + 1)).getD (k + 6) 0) ((s.drop (j + 1)).getD (k + 8) 0) := by
  obtain ⟨g1, g2, g3, g4, g5, g6, g7⟩ := hg
  have e0 : s = s.take j ++ s.getD j 0 :: s.drop (j + 1) := by rw [← drop_at hj, List.take_append_drop]
  generalize ht : s.drop (j + 1) = t at *
  have e1 : t.drop k = [32, 72, 84, 84, 80, 47] ++ t.drop (k + 6) := by
    rw [← g4, ← List.drop_drop, List.take_append_drop]
  have e2 : t.drop (k + 6) = [t.getD (k + 6) 0, 46, t.getD (k + 8) 0] := by
    rw [drop_at (by omega : k + 6 < t.length), drop_at (by omega : k + 7 < t.length), drop_at (by omega : k + 8 < t.length), g6, List.drop_of_length_le (by omega)]
  refine ⟨?_, by rw [List.length_take]; omega, by rw [List.length_take]; omega, hu, ?_, h, g5, g7⟩
  · have e3 : t = t.take k ++ [32, 72, 84, 84, 80, 47, t.getD (k + 6) 0, 46, t.getD (k + 8) 0] := by
      have := List.take_append_drop k t
      rw [e1, e2] at this
      exact this.symm
    rw [← e3]
    rw [h32] at e0
    exact e0
  · cases t with
    | nil => simp at g3
    | cons x r =>
      obtain ⟨k, rfl⟩ : ∃ i, k = i + 1 := ⟨k - 1, by omega⟩
      simpa using g2
theorem pathS_hit {u : List UInt8} {n : Nat} (hn : n < u.length) (h : (u.take n).all (fun c => !(c == 63)) = true) (h63 : u.getD n 0 = 63) : pathS u = (u.take n, u.drop (n + 1)) := by
  have e : u.takeWhile (fun c => !(c == 63)) = u.take n := takeWhile_pre (by omega) h (.inr (by rw [h63]; rfl))
  have hl : (u.take n).length = n := by rw [List.length_take]; omega
  unfold pathS
  rw [e, hl, drop_at hn]
theorem pathS_miss {u : List UInt8} (h : u.all (fun c => !(c == 63)) = true) : pathS u = (u, []) := by
  have e : u.takeWhile (fun c => !(c == 63)) = u := takeWhile_all h
  unfold pathS
  rw [e, List.drop_length]
theorem ne_of_beq {c : UInt8} {d : Nat} (hd : d < 256) (h : ((c.toNat : Int) == (d : Int)) = false) : c ≠ UInt8.ofNat d := by
  rintro rfl
  rw [beq_eq_false_iff_ne] at h
  apply h
  simp [Nat.mod_eq_of_lt hd]
set_option maxHeartbeats 8000000 in
set_option maxRecDepth 100000 in
theorem requestR_calls (w : World) (s : List UInt8) (hl : s.length ≤ 1000000000) :
    Calls Tryz.prog 48 #[.string ⟨s.toArray⟩] w fun e w' => RqOut s e ∧ Below w.heap.size w w' := by
  have hb1 : Below w.heap.size w (w.alloc (Obj.cells #[Value.string { data := #[] }, Value.string { data := #[] }, Value.string { data := #[] }, Value.slice none 0 0, Value.slice none 0 0, Value.bool false] 40)) := (Below.refl _ _).alloc (Nat.le_refl _) _
  have R1 := (RowAt.new w #[Value.string { data := #[] }, Value.string { data := #[] }, Value.string { data := #[] }, Value.slice none 0 0, Value.slice none 0 0, Value.bool false] 40).alloc (Obj.cells #[Value.string { data := #[] }, Value.string { data := #[] }, Value.string { data := #[] }, Value.slice none 0 0, Value.slice none 0 0, Value.bool false] 40)
  have R2 := RowAt.new (w.alloc (Obj.cells #[Value.string { data := #[] }, Value.string { data := #[] }, Value.string { data := #[] }, Value.slice none 0 0, Value.slice none 0 0, Value.bool false] 40)) #[Value.string { data := #[] }, Value.string { data := #[] }, Value.string { data := #[] }, Value.slice none 0 0, Value.slice none 0 0, Value.bool false] 40
  rw [World.size_alloc] at R2
  have HI0 : Hid (RqI w ((w.alloc (Obj.cells #[Value.string { data := #[] }, Value.string { data := #[] }, Value.string { data := #[] }, Value.slice none 0 0, Value.slice none 0 0, Value.bool false] 40)).alloc (Obj.cells #[Value.string { data := #[] }, Value.string { data := #[] }, Value.string { data := #[] }, Value.slice none 0 0, Value.slice none 0 0, Value.bool false] 40)) [] [] []) := ⟨R1, R2, (hb1.alloc hb1.size (Obj.cells #[Value.string { data := #[] }, Value.string { data := #[] }, Value.string { data := #[] }, Value.slice none 0 0, Value.slice none 0 0, Value.bool false] 40))⟩
  have k0 := R2.cell 0 _ rfl
  have g0 := R2.free 0
  have k1 := R2.cell 1 _ rfl
  have g1 := R2.free 1
  have k2 := R2.cell 2 _ rfl
  have g2 := R2.free 2
  have k3 := R2.cell 3 _ rfl
  have g3 := R2.free 3
  have k4 := R2.cell 4 _ rfl
  have g4 := R2.free 4
  have k5 := R2.cell 5 _ rfl
  have g5 := R2.free 5
  clear R1 R2 hb1
  go_enter Tryz.func48, Tryz.ntmps48
  go_upto_region 2 with fail
  clear k0 g0 k1 g1 k2 g2 k3 g3 k4 g4 k5 g5
  generalize (w.alloc (Obj.cells #[Value.string { data := #[] }, Value.string { data := #[] }, Value.string { data := #[] }, Value.slice none 0 0, Value.slice none 0 0, Value.bool false] 40)).alloc (Obj.cells #[Value.string { data := #[] }, Value.string { data := #[] }, Value.string { data := #[] }, Value.slice none 0 0, Value.slice none 0 0, Value.bool false] 40) = w1 at *
  go_wp2_with fail
  go_loopg [5] s.length (fun k i wr => ∃ j : Nat, k = s.length - j ∧ j ≤ s.length ∧ i = .int .i64 j ∧ (s.take j).all upB = true ∧ w1 = wr)
  case atStart => exact ⟨0, rfl, by omega, rfl, rfl, rfl⟩
  case round =>
    obtain ⟨j, hk, hj, rfl, ha, rfl⟩ := hrel
    have Hk := Lib.hid hk
    have HA := Lib.hid ha
    clear hk ha
    go_upto_region 3 with fail
    go_cut [24] from 9 to 24 (fun u wc => u = .bool (decide (j < s.length) && upB (s.getD j 0)) ∧ w1 = wc)
    case first =>
      rcases Nat.lt_or_ge j s.length with hlt | hge
      ·
        have hlt2 : (j : Int) < s.length := by omega
        have hi := byte_at s j hlt
        have hcl := (s.getD j 0).toNat_lt
        have HB0 : Hid ((decide (j < s.length) && upB (s.getD j 0)) = upB (s.getD j 0)) := Lib.hid (by rw [decide_eq_true hlt]; rfl)
        generalize s.getD j 0 = c at *
        by_cases h65 : 65 ≤ c.toNat
        ·
          have g65 : decide ((65 : Int) ≤ (c.toNat : Int)) = true := by simpa using (by omega : ((65 : Int) ≤ (c.toNat : Int)))
          by_cases h90 : c.toNat ≤ 90
          ·
            have g90 : decide ((c.toNat : Int) ≤ 90) = true := by simpa using (by omega : ((c.toNat : Int) ≤ 90))
            have HB : Hid (upB c = true) := Lib.hid (by unfold upB; simp; omega)
            go_wp2_with fail
            go_meet
            exact ⟨by rw [HB0.out, HB.out], rfl⟩
          ·
            have g90 : decide ((c.toNat : Int) ≤ 90) = false := by simpa using (by omega : ¬ ((c.toNat : Int) ≤ 90))
            have HB : Hid (upB c = false) := Lib.hid (by unfold upB; simp; omega)
            go_wp2_with fail
            go_meet
            exact ⟨by rw [HB0.out, HB.out], rfl⟩
        ·
          have g65 : decide ((65 : Int) ≤ (c.toNat : Int)) = false := by simpa using (by omega : ¬ ((65 : Int) ≤ (c.toNat : Int)))
          have HB : Hid (upB c = false) := Lib.hid (by unfold upB; simp; omega)
          go_wp2_with fail
          go_meet
          exact ⟨by rw [HB0.out, HB.out], rfl⟩
      ·
        have hlt2 : ¬ (j : Int) < s.length := by omega
        have HB : Hid ((decide (j < s.length) && upB (s.getD j 0)) = false) := Lib.hid (by rw [decide_eq_false (by omega)]; rfl)
        go_wp2_with fail
        go_meet
        exact ⟨by rw [HB.out], rfl⟩
    case rest =>
      obtain ⟨rfl, rfl⟩ := hcut
      cases hst : (decide (j < s.length) && upB (s.getD j 0)) with
      | true =>
        have hlt : j < s.length ∧ upB (s.getD j 0) = true := by simpa using hst
        obtain ⟨hlt, hup⟩ := hlt
        have HN : Hid ((s.take (j + 1)).all upB = true) := Lib.hid (by rw [List.take_add_one, List.getElem?_eq_getElem hlt, List.all_append, HA.out]; simpa [List.getD, hlt] using hup)
        clear hup hst
        go_wp2_with fail
        go_roundg (s.length - (j + 1))
        case measure => have := Hk.out; omega
        case rel => exact ⟨j + 1, rfl, by omega, by go_num, HN.out, rfl⟩
      | false =>
        have hstop : j = s.length ∨ upB (s.getD j 0) = false := by
          rcases Nat.lt_or_ge j s.length with hl | hl
          · right; rw [decide_eq_true hl, Bool.true_and] at hst; exact hst
          · left; omega
        have HNO : Hid (bad1 s j = true → (firstS s).2 = 380) := req_no1 hj HA.out hstop
        clear hst hstop
        go_upto_region 5 with fail
        go_cut [44] from 27 to 44 (fun u wc => u = .bool (bad1 s j) ∧ w1 = wc)
        case first =>
          by_cases h1 : j < 1
          ·
            have g1 : (j : Int) < 1 := by omega
            have HB : Hid (bad1 s j = true) := Lib.hid (by unfold bad1; simp [h1])
            clear HNO
            go_wp2_with fail
            go_meet
            exact ⟨by rw [HB.out], rfl⟩
          ·
            have g1 : ¬ (j : Int) < 1 := by omega
            by_cases h2 : 16 < j
            ·
              have g2 : (16 : Int) < j := by omega
              have HB : Hid (bad1 s j = true) := Lib.hid (by unfold bad1; simp [h2])
              clear HNO
              go_wp2_with fail
              go_meet
              exact ⟨by rw [HB.out], rfl⟩
            ·
              have g2 : ¬ (16 : Int) < j := by omega
              rcases Nat.lt_or_ge j s.length with h3 | h3
              ·
                have g3 : ¬ (s.length : Int) ≤ j := by omega
                have hi := byte_at s j h3
                have hcl := (s.getD j 0).toNat_lt
                have h3b : ¬ s.length ≤ j := by omega
                have HB0 : Hid (bad1 s j = !(s.getD j 0 == 32)) := Lib.hid (by unfold bad1; simp only [decide_eq_false h1, decide_eq_false h2, decide_eq_false h3b, Bool.false_or])
                by_cases h4 : s.getD j 0 = 32
                ·
                  have HB : Hid (bad1 s j = false) := Lib.hid (by rw [HB0.out, h4]; rfl)
                  clear HNO HB0
                  rw [h4] at hi
                  clear h4
                  go_wp2_with fail
                  go_meet
                  exact ⟨by rw [HB.out], rfl⟩
                ·
                  have HB : Hid (bad1 s j = true) := Lib.hid (by rw [HB0.out]; simpa using h4)
                  have g4 : (((s.getD j 0).toNat : Int) != 32) = true := by rw [bne_iff_ne]; intro e; exact h4 (UInt8.toNat_inj.1 (by show (s.getD j 0).toNat = 32; omega))
                  clear HNO HB0
                  clear h4
                  generalize s.getD j 0 = c at *
                  go_wp2_with fail
                  go_meet
                  exact ⟨by rw [HB.out], rfl⟩
              ·
                have g3 : (s.length : Int) ≤ j := by omega
                have HB : Hid (bad1 s j = true) := Lib.hid (by unfold bad1; simp [h3])
                clear HNO
                go_wp2_with fail
                go_meet
                exact ⟨by rw [HB.out], rfl⟩
        case rest =>
          obtain ⟨rfl, rfl⟩ := hcut
          cases hbd : bad1 s j with
          | true =>
            have HD := Lib.hid (HNO.out hbd)
            clear HNO hbd
            have c0 := HI0.out.r2.cell 0 _ rfl
            have c1 := HI0.out.r2.cell 1 _ rfl
            have c2 := HI0.out.r2.cell 2 _ rfl
            have c3 := HI0.out.r2.cell 3 _ rfl
            have c4 := HI0.out.r2.cell 4 _ rfl
            have c5 := HI0.out.r2.cell 5 _ rfl
            have d0 := HI0.out.r1.cell 0 _ rfl
            have f0 := HI0.out.r1.free 0
            have d1 := HI0.out.r1.cell 1 _ rfl
            have f1 := HI0.out.r1.free 1
            have d2 := HI0.out.r1.cell 2 _ rfl
            have f2 := HI0.out.r1.free 2
            have d3 := HI0.out.r1.cell 3 _ rfl
            have f3 := HI0.out.r1.free 3
            have d4 := HI0.out.r1.cell 4 _ rfl
            have f4 := HI0.out.r1.free 4
            have d5 := HI0.out.r1.cell 5 _ rfl
            have f5 := HI0.out.r1.free 5
            have hb9 := HI0.out.b
            go_wp2_with fail
            refine bodyPost_ret (v := .tuple #[.agg #[.string ⟨([] : List UInt8).toArray⟩, .string ⟨([] : List UInt8).toArray⟩, .string ⟨([] : List UInt8).toArray⟩, .slice none 0 0, .slice none 0 0, .bool false], .int .i64 380]) (by simp [results, Tryz.results48, go_sem, d0, d1, d2, d3, d4, d5]) rfl ?_
            exact ⟨RqOut.no HD.out (by decide) _ _ _, by go_grown⟩
          | false =>
            have hok : 1 ≤ j ∧ j ≤ 16 ∧ j < s.length ∧ s.getD j 0 = 32 := by
              unfold bad1 at hbd
              simp at hbd
              refine ⟨by omega, by omega, by omega, ?_⟩
              have := hbd.2.2.2
              simpa [List.getD] using this
            obtain ⟨h1, h16, hlt, h32⟩ := hok
            have HOK : Hid (1 ≤ j ∧ j ≤ 16 ∧ j < s.length ∧ s.getD j 0 = 32) := ⟨h1, h16, hlt, h32⟩
            clear hbd h32 HNO Hk
            obtain ⟨m, hm⟩ : ∃ m, s.take j = m := ⟨_, rfl⟩
            obtain ⟨t, ht⟩ : ∃ t, s.drop (j + 1) = t := ⟨_, rfl⟩
            have hx1 : (⟨s.toArray⟩ : ByteArray).extract 0 j = ⟨m.toArray⟩ := by rw [Lib.extract_eq, ← hm]; simp
            have hx2 : (⟨s.toArray⟩ : ByteArray).extract (j + 1) s.length = ⟨t.toArray⟩ := by rw [Lib.extract_eq, ← ht, List.take_of_length_le (by simp)]
            have htl : t.length ≤ 1000000000 := by rw [← ht, List.length_drop]; omega
            have Hm := Lib.hid hm
            have Ht := Lib.hid ht
            clear hm ht
            have f0 := HI0.out.r2.free 0
            have k0 := HI0.out.r2.cell 0 _ rfl
            have HI1 := Lib.hid (HI0.out.set0 m)
            go_upto_region 9 with fail
            clear f0 k0 hx1 hx2
            generalize w1.setCell ⟨w.heap.size + 1, 0, none⟩ (.string ⟨m.toArray⟩) = w2 at *
            clear HI0
            go_wp2_with fail
            go_loopg [5] t.length (fun k i wr => ∃ n : Nat, k = t.length - n ∧ n ≤ t.length ∧ i = .int .i64 n ∧ (t.take n).all adB = true ∧ w2 = wr)
            case atStart => exact ⟨0, rfl, by omega, rfl, rfl, rfl⟩
            case round =>
              obtain ⟨n, hk, hn, rfl, ha, rfl⟩ := hrel
              have Hk := Lib.hid hk
              have HAD := Lib.hid ha
              clear hk ha
              go_upto_region 10 with fail
              go_cut [75] from 54 to 75 (fun u wc => u = .bool (decide (n < t.length) && adB (t.getD n 0)) ∧ w2 = wc)
              case first =>
                rcases Nat.lt_or_ge n t.length with hlt | hge
                ·
                  have hlt2 : (n : Int) < t.length := by omega
                  have hi := byte_at t n hlt
                  have hcl := (t.getD n 0).toNat_lt
                  have HB0 : Hid ((decide (n < t.length) && adB (t.getD n 0)) = adB (t.getD n 0)) := Lib.hid (by rw [decide_eq_true hlt]; rfl)
                  generalize t.getD n 0 = c at *
                  by_cases h32 : 32 < c.toNat
                  ·
                    have g32 : decide ((32 : Int) < (c.toNat : Int)) = true := by simpa using (by omega : ((32 : Int) < (c.toNat : Int)))
                    by_cases h127 : c.toNat < 127
                    ·
                      have g127 : decide ((c.toNat : Int) < 127) = true := by simpa using (by omega : ((c.toNat : Int) < 127))
                      by_cases h35 : c = 35
                      ·
                        have g35 : ((c.toNat : Int) != 35) = false := by rw [h35]; rfl
                        have HB : Hid (adB c = false) := Lib.hid (by rw [h35]; rfl)
                        clear h35
                        go_wp2_with fail
                        go_meet
                        exact ⟨by rw [HB0.out, HB.out], rfl⟩
                      ·
                        have g35 : ((c.toNat : Int) != 35) = true := by rw [bne_iff_ne]; intro e; exact h35 (UInt8.toNat_inj.1 (by show c.toNat = 35; omega))
                        have HB : Hid (adB c = true) := Lib.hid (by unfold adB; simp [h32, h127, h35])
                        clear h35
                        go_wp2_with fail
                        go_meet
                        exact ⟨by rw [HB0.out, HB.out], rfl⟩
                    ·
                      have g127 : decide ((c.toNat : Int) < 127) = false := by simpa using (by omega : ¬ ((c.toNat : Int) < 127))
                      have HB : Hid (adB c = false) := Lib.hid (by unfold adB; simp [h127])
                      go_wp2_with fail
                      go_meet
                      exact ⟨by rw [HB0.out, HB.out], rfl⟩
                  ·
                    have g32 : decide ((32 : Int) < (c.toNat : Int)) = false := by simpa using (by omega : ¬ ((32 : Int) < (c.toNat : Int)))
                    have HB : Hid (adB c = false) := Lib.hid (by unfold adB; simp [h32])
                    go_wp2_with fail
                    go_meet
                    exact ⟨by rw [HB0.out, HB.out], rfl⟩
                ·
                  have hlt2 : ¬ (n : Int) < t.length := by omega
                  have HB : Hid ((decide (n < t.length) && adB (t.getD n 0)) = false) := Lib.hid (by rw [decide_eq_false (by omega)]; rfl)
                  go_wp2_with fail
                  go_meet
                  exact ⟨by rw [HB.out], rfl⟩
              case rest =>
                obtain ⟨rfl, rfl⟩ := hcut
                cases hst : (decide (n < t.length) && adB (t.getD n 0)) with
                | true =>
                  have hlt : n < t.length ∧ adB (t.getD n 0) = true := by simpa using hst
                  obtain ⟨hlt2, hup⟩ := hlt
                  have HN : Hid ((t.take (n + 1)).all adB = true) := Lib.hid (by rw [List.take_add_one, List.getElem?_eq_getElem hlt2, List.all_append, HAD.out]; simpa [List.getD, hlt2] using hup)
                  clear hup hst
                  go_wp2_with fail
                  go_roundg (t.length - (n + 1))
                  case measure => have := Hk.out; omega
                  case rel => exact ⟨n + 1, rfl, by omega, by go_num, HN.out, rfl⟩
                | false =>
                  have hstop : n = t.length ∨ adB (t.getD n 0) = false := by
                    rcases Nat.lt_or_ge n t.length with hl | hl
                    · right; rw [decide_eq_true hl, Bool.true_and] at hst; exact hst
                    · left; omega
                  have HNO : Hid (¬ good2 t n → (firstS s).2 = 380) := fun h => by
                    have h9 := HOK.out
                    have e := Ht.out
                    subst e
                    exact req_no2 h9.2.2.1 HA.out h9.2.2.2 hn HAD.out hstop h
                  clear hst hstop
                  have HYES : Hid (good2 t n → LineS s m (t.take n) (t.getD (n + 6) 0) (t.getD (n + 8) 0)) := fun h => by
                    have h9 := HOK.out
                    have e := Ht.out
                    have e2 := Hm.out
                    subst e e2
                    exact req_line h9.2.2.1 HA.out h9.1 h9.2.1 h9.2.2.2 HAD.out h
                  clear HOK HA Ht Hm Hk h1 h16 hlt
                  obtain ⟨bad, hbad⟩ : ∃ b : Bool, b = true ↔ ¬ good2 t n := by
                    by_cases h : good2 t n
                    · exact ⟨false, by simp [h]⟩
                    · exact ⟨true, by simp [h]⟩
                  have HBAD := Lib.hid hbad
                  clear hbad
                  go_upto_region 12 with fail
                  go_cut [122] from 78 to 122 (fun u wc => u = .bool bad ∧ w2 = wc)
                  case first =>
                    clear HNO HYES HAD
                    by_cases a1 : n < 1
                    ·
                      have g1 : (n : Int) < 1 := by omega
                      have hb : bad = true := HBAD.out.2 (fun h => by have := h.1; omega)
                      subst hb
                      clear HBAD
                      go_wp2_with fail
                      go_meet
                      exact ⟨rfl, rfl⟩
                    ·
                      have g1 : ¬ (n : Int) < 1 := by omega
                      have hn0 : 0 < t.length := by omega
                      have hi0 := byte_at t 0 hn0
                      have hcl0 := (t.getD 0 0).toNat_lt
                      by_cases a2 : t.getD 0 0 = 47
                      ·
                        have HA2 := Lib.hid a2
                        rw [a2] at hi0
                        clear hcl0 a2
                        by_cases a3 : t.length = n + 9
                        ·
                          have g3 : (((t.length : Int) - n) != 9) = false := by rw [bne_eq_false_iff_eq]; omega
                          have hx : (⟨t.toArray⟩ : ByteArray).extract n (n + 6) = ⟨((t.drop n).take 6).toArray⟩ := by rw [Lib.extract_eq]; show (⟨((t.drop n).take _).toArray⟩ : ByteArray) = _; rw [Nat.add_sub_cancel_left]
                          have HA3 := Lib.hid a3
                          obtain ⟨pr, hpr⟩ : ∃ pr, (t.drop n).take 6 = pr := ⟨_, rfl⟩
                          rw [hpr] at hx
                          have HPR := Lib.hid hpr
                          clear hpr
                          have hl6 : n + 6 < t.length := by omega
                          have hl7 : n + 7 < t.length := by omega
                          have hl8 : n + 8 < t.length := by omega
                          have hi6 := byte_at t (n + 6) hl6
                          have hi7 := byte_at t (n + 7) hl7
                          have hi8 := byte_at t (n + 8) hl8
                          have hcl6 := (t.getD (n + 6) 0).toNat_lt
                          have hcl7 := (t.getD (n + 7) 0).toNat_lt
                          have hcl8 := (t.getD (n + 8) 0).toNat_lt
                          have HB6 : Hid (dgB (t.getD (n + 6) 0) = true ∨ bad = true) := by
                            by_cases h : dgB (t.getD (n + 6) 0) = true
                            · exact .inl h
                            · exact .inr (HBAD.out.2 (fun h9 => h h9.2.2.2.2.1))
                          by_cases a4 : pr = [32, 72, 84, 84, 80, 47]
                          ·
                            subst a4
                            have HA4 := Lib.hid HPR.out
                            clear HPR a3
                            have HALL : Hid (dgB (t.getD (n + 6) 0) = true → t.getD (n + 7) 0 = 46 → dgB (t.getD (n + 8) 0) = true → bad = false) := fun h1 h2 h3 => by
                              rw [← Bool.not_eq_true]
                              intro h
                              exact HBAD.out.1 h ⟨by omega, HA2.out, HA3.out, HA4.out, h1, h2, h3⟩
                            have HX6 : Hid (dgB (t.getD (n + 6) 0) = false → bad = true) := fun h => HBAD.out.2 (fun h9 => by rw [h9.2.2.2.2.1] at h; cases h)
                            have HX7 : Hid (t.getD (n + 7) 0 ≠ 46 → bad = true) := fun h => HBAD.out.2 (fun h9 => h h9.2.2.2.2.2.1)
                            have HX8 : Hid (dgB (t.getD (n + 8) 0) = false → bad = true) := fun h => HBAD.out.2 (fun h9 => by rw [h9.2.2.2.2.2.2] at h; cases h)
                            clear HBAD HA2 HA3 HA4 HB6
                            generalize t.getD (n + 6) 0 = c6 at *
                            generalize t.getD (n + 7) 0 = c7 at *
                            generalize t.getD (n + 8) 0 = c8 at *
                            go_wp2_with fail
                            refine (digitR_calls w2 c6).mono ?_
                            rintro e w9 ⟨rfl, rfl⟩
                            cases hd6 : dgB c6 with
                            | false =>
                              have hb := HX6.out hd6
                              subst hb
                              clear HALL HX6 HX7 HX8 hd6
                              go_wp2_with fail
                              go_meet
                              exact ⟨rfl, rfl⟩
                            | true =>
                              by_cases h7 : c7 = 46
                              ·
                                have g7 : ((c7.toNat : Int) != 46) = false := by rw [h7]; rfl
                                have HALL2 : Hid (dgB c8 = true → bad = false) := HALL.out hd6 h7
                                clear HALL h7 HX7 HX6 hd6
                                go_wp2_with fail
                                refine (digitR_calls w2 c8).mono ?_
                                rintro e w9 ⟨rfl, rfl⟩
                                cases hd8 : dgB c8 with
                                | false =>
                                  have hb := HX8.out hd8
                                  subst hb
                                  clear HALL2 HX8 hd8
                                  go_wp2_with fail
                                  go_meet
                                  exact ⟨rfl, rfl⟩
                                | true =>
                                  have hb := HALL2.out hd8
                                  subst hb
                                  clear HALL2 HX8 hd8
                                  go_wp2_with fail
                                  go_meet
                                  exact ⟨rfl, rfl⟩
                              ·
                                have hb := HX7.out h7
                                have g7 : ((c7.toNat : Int) != 46) = true := by rw [bne_iff_ne]; intro e; exact h7 (UInt8.toNat_inj.1 (by show c7.toNat = 46; omega))
                                subst hb
                                clear HALL h7 HX7 HX6 HX8 hd6
                                go_wp2_with fail
                                go_meet
                                exact ⟨rfl, rfl⟩
                          ·
                            have g4 : (pr != [32, 72, 84, 84, 80, 47]) = true := by rw [bne_iff_ne]; exact a4
                            have hb : bad = true := HBAD.out.2 (fun h => a4 (HPR.out.symm.trans h.2.2.2.1))
                            subst hb
                            clear HBAD HPR a3 HB6
                            go_wp2_with fail
                            go_meet
                            exact ⟨rfl, rfl⟩
                        ·
                          have g3 : (((t.length : Int) - n) != 9) = true := by rw [bne_iff_ne]; omega
                          have hb : bad = true := HBAD.out.2 (fun h => a3 h.2.2.1)
                          subst hb
                          clear HBAD
                          go_wp2_with fail
                          go_meet
                          exact ⟨rfl, rfl⟩
                      ·
                        have g2 : (((t.getD 0 0).toNat : Int) != 47) = true := by rw [bne_iff_ne]; intro e; exact a2 (UInt8.toNat_inj.1 (by show (t.getD 0 0).toNat = 47; omega))
                        have hb : bad = true := HBAD.out.2 (fun h => a2 h.2.1)
                        subst hb
                        clear HBAD a2
                        generalize t.getD 0 0 = c0 at *
                        go_wp2_with fail
                        go_meet
                        exact ⟨rfl, rfl⟩
                  case rest =>
                    obtain ⟨rfl, rfl⟩ := hcut
                    cases bad with
                    | true =>
                      have HD := Lib.hid (HNO.out (HBAD.out.1 rfl))
                      clear HNO HYES HBAD HAD
                      have c0 := HI1.out.r2.cell 0 _ rfl
                      have c1 := HI1.out.r2.cell 1 _ rfl
                      have c2 := HI1.out.r2.cell 2 _ rfl
                      have c3 := HI1.out.r2.cell 3 _ rfl
                      have c4 := HI1.out.r2.cell 4 _ rfl
                      have c5 := HI1.out.r2.cell 5 _ rfl
                      have d0 := HI1.out.r1.cell 0 _ rfl
                      have f0 := HI1.out.r1.free 0
                      have d1 := HI1.out.r1.cell 1 _ rfl
                      have f1 := HI1.out.r1.free 1
                      have d2 := HI1.out.r1.cell 2 _ rfl
                      have f2 := HI1.out.r1.free 2
                      have d3 := HI1.out.r1.cell 3 _ rfl
                      have f3 := HI1.out.r1.free 3
                      have d4 := HI1.out.r1.cell 4 _ rfl
                      have f4 := HI1.out.r1.free 4
                      have d5 := HI1.out.r1.cell 5 _ rfl
                      have f5 := HI1.out.r1.free 5
                      have hb9 := HI1.out.b
                      go_wp2_with fail
                      refine bodyPost_ret (v := .tuple #[.agg #[.string ⟨m.toArray⟩, .string ⟨([] : List UInt8).toArray⟩, .string ⟨([] : List UInt8).toArray⟩, .slice none 0 0, .slice none 0 0, .bool false], .int .i64 380]) (by simp [results, Tryz.results48, go_sem, d0, d1, d2, d3, d4, d5]) rfl ?_
                      exact ⟨RqOut.no HD.out (by decide) _ _ _, by go_grown⟩
                    | false =>
                      have hg2 : good2 t n := Classical.byContradiction fun h => by have := HBAD.out.2 h; cases this
                      have HLN := Lib.hid (HYES.out hg2)
                      have hlen : t.length = n + 9 := hg2.2.2.1
                      have hv3 : t.drop (n + 6) = [t.getD (n + 6) 0, 46, t.getD (n + 8) 0] := by
                        rw [drop_at (by omega : n + 6 < t.length), drop_at (by omega : n + 7 < t.length), drop_at (by omega : n + 8 < t.length), hg2.2.2.2.2.2.1, List.drop_of_length_le (by omega)]
                      clear hg2 HYES HNO HBAD
                      generalize t.getD (n + 6) 0 = ca at *
                      generalize t.getD (n + 8) 0 = cb at *
                      obtain ⟨u, hu⟩ : ∃ u, t.take n = u := ⟨_, rfl⟩
                      have hx1 : (⟨t.toArray⟩ : ByteArray).extract 0 n = ⟨u.toArray⟩ := by rw [Lib.extract_eq, ← hu]; simp
                      obtain ⟨v3, hv3b⟩ : ∃ v3, [ca, 46, cb] = v3 := ⟨_, rfl⟩
                      have Hv3 := Lib.hid hv3b
                      have hx2 : (⟨t.toArray⟩ : ByteArray).extract (n + 6) t.length = ⟨v3.toArray⟩ := by rw [Lib.extract_eq]; rw [List.take_of_length_le (by simp), hv3, hv3b]
                      clear hv3b
                      rw [hu] at HLN HAD
                      have hul : u.length = n := by rw [← hu, List.length_take]; omega
                      have HU : Hid (∀ i, i < n → t.getD i 0 = u.getD i 0) := fun i hi => by rw [← hu, List.getD_eq_getElem?_getD, List.getD_eq_getElem?_getD, List.getElem?_take_of_lt hi]
                      have HX : Hid (∀ i, i ≤ n → (⟨t.toArray⟩ : ByteArray).extract 0 i = ⟨(u.take i).toArray⟩ ∧ (⟨t.toArray⟩ : ByteArray).extract (i + 1) n = ⟨(u.drop (i + 1)).toArray⟩) := fun i hi => by
                        refine ⟨by rw [Lib.extract_eq, ← hu, List.take_take, Nat.min_eq_left hi]; simp, by rw [Lib.extract_eq, ← hu, List.drop_take]⟩
                      clear hu hv3
                      have k1 := HI1.out.r2.cell 1 _ rfl
                      have f1 := HI1.out.r2.free 1
                      have HI2 := Lib.hid (HI1.out.set1 u)
                      have hle9 : n + 9 ≤ t.length := by omega
                      have hz1 : (n : Int) + 6 ≤ t.length := by omega
                      have hz2 : (0 : Int) ≤ (n : Int) + 6 := by omega
                      have hz3 : (n : Int) ≤ t.length := by omega
                      clear hlen
                      have HFIN : Hid (firstS s = if ca = 49 ∧ cb = 49 then ((m, (pathS u).1, (pathS u).2), 0) else (([], [], []), 383)) := HLN.out.first
                      clear HLN HAD HI1
                      go_upto_region 16 with fail
                      rw [hx2]
                      clear hx1 hx2 k1 f1
                      generalize w2.setCell ⟨w.heap.size + 1, 1, none⟩ (.string ⟨u.toArray⟩) = w3 at *
                      go_wp2_with fail
                      go_loopg [7] n (fun k i wr => ∃ h : Nat, k = n - h ∧ h ≤ n ∧ i = .int .i64 h ∧ (u.take h).all (fun c => !(c == 63)) = true ∧ w3 = wr)
                      case atStart => exact ⟨0, rfl, by omega, rfl, rfl, rfl⟩
                      case round =>
                        obtain ⟨h, hk, hh, rfl, ha, rfl⟩ := hrel
                        have Hk := Lib.hid hk
                        have HQ := Lib.hid ha
                        clear hk ha
                        by_cases hhn : h < n
                        ·
                          have hhn2 : (h : Int) < n := by omega
                          have hi := byte_at t h (by omega)
                          rw [HU.out h hhn] at hi
                          have hcl := (u.getD h 0).toNat_lt
                          by_cases h63 : u.getD h 0 = 63
                          ·
                            have HPS := Lib.hid (pathS_hit (by omega) HQ.out h63)
                            rw [h63] at hi
                            obtain ⟨hx3, hx4⟩ := HX.out h hh
                            have hlt3 : h ≤ t.length := by omega
                            have hlt4 : n ≤ t.length := by omega
                            clear h63 HU HX HQ Hk hcl
                            generalize u.take h = pa at *
                            generalize u.drop (h + 1) = qa at *
                            have hwr : IntKind.i64.wrap ((h : Int) + 1) = ((h + 1 : Nat) : Int) := by rw [show ((h : Int) + 1) = ((h + 1 : Nat) : Int) by omega]; exact IntWalk.i64_in _ (by omega)
                            have hs1 : (h : Int) ≤ t.length := by omega
                            have hs3 : (0 : Int) ≤ (h : Int) + 1 := by omega
                            have hs4 : (h : Int) + 1 ≤ n := by omega
                            go_upto_region 20 with fail
                            have hS0 : (fun W : World => True) w3.drew := trivial
                            have ID := Lib.hid HI2.out.drew
                            refine wp_region_held_drew (S := (fun _ : World => True)) (by kernel_rfl) hS0 (fun hHeld0 => ?_)
                            generalize w3.drew = wd at *
                            refine held_take (i := 0) (v := ?_) rfl (by kernel_rfl) (by kernel_rfl) (by kernel_rfl) (fun _ _ _ h => h) (by rfl) (fun wq hSq => ?_) hHeld0 ?_
                            rotate_left
                            · (try dsimp only at hSq); go_simp; try with_reducible rfl
                            simp only [Act.put, List.setIfInBounds_toArray, List.set_cons_zero, List.set_cons_succ]
                            refine held_take (i := 1) (v := ?_) rfl (by kernel_rfl) (by kernel_rfl) (by kernel_rfl) (fun _ _ _ h => h) (by rfl) (fun wq hSq => ?_) hHeld0 ?_
                            rotate_left
                            · (try dsimp only at hSq); go_simp; try with_reducible rfl
                            simp only [Act.put, List.setIfInBounds_toArray, List.set_cons_zero, List.set_cons_succ]
                            refine held_take (i := 2) (v := ?_) rfl (by kernel_rfl) (by kernel_rfl) (by kernel_rfl) (fun _ _ _ h => h) (by rfl) (fun wq hSq => ?_) hHeld0 ?_
                            rotate_left
                            · (try dsimp only at hSq); go_simp; try with_reducible rfl
                            simp only [Act.put, List.setIfInBounds_toArray, List.set_cons_zero, List.set_cons_succ]
                            refine held_take (i := 3) (v := ?_) rfl (by kernel_rfl) (by kernel_rfl) (by kernel_rfl) (fun _ _ _ h => h) (by rfl) (fun wq hSq => ?_) hHeld0 ?_
                            rotate_left
                            · (try dsimp only at hSq); go_simp; try with_reducible rfl
                            simp only [Act.put, List.setIfInBounds_toArray, List.set_cons_zero, List.set_cons_succ]
                            refine held_take (i := 4) (v := ?_) rfl (by kernel_rfl) (by kernel_rfl) (by kernel_rfl) (fun _ _ _ h => h) (by rfl) (fun wq hSq => ?_) hHeld0 ?_
                            rotate_left
                            · (try dsimp only at hSq); go_simp; try with_reducible rfl
                            simp only [Act.put, List.setIfInBounds_toArray, List.set_cons_zero, List.set_cons_succ]
                            refine held_take (i := 5) (v := ?_) rfl (by kernel_rfl) (by kernel_rfl) (by kernel_rfl) (fun _ _ _ h => h) (by rfl) (fun wq hSq => ?_) hHeld0 ?_
                            rotate_left
                            · (try dsimp only at hSq); go_simp; try with_reducible rfl
                            simp only [Act.put, List.setIfInBounds_toArray, List.set_cons_zero, List.set_cons_succ]
                            refine held_take (i := 6) (v := ?_) rfl (by kernel_rfl) (by kernel_rfl) (by kernel_rfl) (fun _ _ _ h => h) (by rfl) (fun wq hSq => ?_) hHeld0 ?_
                            rotate_left
                            · (try dsimp only at hSq); go_simp; try with_reducible rfl
                            simp only [Act.put, List.setIfInBounds_toArray, List.set_cons_zero, List.set_cons_succ]
                            refine held_take (i := 7) (v := ?_) rfl (by kernel_rfl) (by kernel_rfl) (by kernel_rfl) (fun _ _ _ h => h) (by rfl) (fun wq hSq => ?_) hHeld0 ?_
                            rotate_left
                            · (try dsimp only at hSq); go_simp; try with_reducible rfl
                            simp only [Act.put, List.setIfInBounds_toArray, List.set_cons_zero, List.set_cons_succ]
                            refine held_take (i := 8) (v := ?_) rfl (by kernel_rfl) (by kernel_rfl) (by kernel_rfl) (fun _ _ _ h => h) (by rfl) (fun wq hSq => ?_) hHeld0 ?_
                            rotate_left
                            · (try dsimp only at hSq); go_simp; try with_reducible rfl
                            simp only [Act.put, List.setIfInBounds_toArray, List.set_cons_zero, List.set_cons_succ]
                            refine held_step (i := 9) (by kernel_rfl) rfl (by rfl) (fun K hK => ?_)
                            go_simp
                            have f1 := ID.out.r2.free 1
                            have k1 := ID.out.r2.cell 1 _ rfl
                            go_simp
                            have IE := Lib.hid (ID.out.set1 pa)
                            clear f1 k1
                            generalize wd.setCell ⟨w.heap.size + 1, 1, none⟩ (.string ⟨pa.toArray⟩) = w4 at *
                            refine hK.out _ _ trivial (fun hHeld1 => ?_)
                            clear hK K hHeld0
                            refine held_take (i := 10) (v := ?_) rfl (by kernel_rfl) (by kernel_rfl) (by kernel_rfl) (fun _ _ _ h => h) (by rfl) (fun wq hSq => ?_) hHeld1 ?_
                            rotate_left
                            · (try dsimp only at hSq); go_simp; try with_reducible rfl
                            simp only [Act.put, List.setIfInBounds_toArray, List.set_cons_zero, List.set_cons_succ]
                            refine held_step (i := 11) (by kernel_rfl) rfl (by rfl) (fun K hK => ?_)
                            go_simp
                            have f2 := IE.out.r2.free 2
                            have k2 := IE.out.r2.cell 2 _ rfl
                            go_simp
                            have IF := Lib.hid (IE.out.set2 qa)
                            clear f2 k2
                            generalize w4.setCell ⟨w.heap.size + 1, 2, none⟩ (.string ⟨qa.toArray⟩) = w5 at *
                            refine hK.out _ _ trivial (fun hHeld2 => ?_)
                            clear hK K hHeld1
                            refine wpAnyH_done (by kernel_rfl) ?_ _
                            clear hHeld2
                            by_cases hv : v3 = [49, 46, 49]
                            ·
                              have hcab : ca = 49 ∧ cb = 49 := by have h9 := Hv3.out.trans hv; simpa using h9
                              have HR : Hid (firstS s = ((m, pa, qa), 0)) := Lib.hid (by rw [HFIN.out, if_pos hcab, HPS.out])
                              clear HFIN HPS hcab
                              subst hv
                              have c0 := IF.out.r2.cell 0 _ rfl
                              have c1 := IF.out.r2.cell 1 _ rfl
                              have c2 := IF.out.r2.cell 2 _ rfl
                              have c3 := IF.out.r2.cell 3 _ rfl
                              have c4 := IF.out.r2.cell 4 _ rfl
                              have c5 := IF.out.r2.cell 5 _ rfl
                              have d0 := IF.out.r1.cell 0 _ rfl
                              have f0 := IF.out.r1.free 0
                              have d1 := IF.out.r1.cell 1 _ rfl
                              have f1 := IF.out.r1.free 1
                              have d2 := IF.out.r1.cell 2 _ rfl
                              have f2 := IF.out.r1.free 2
                              have d3 := IF.out.r1.cell 3 _ rfl
                              have f3 := IF.out.r1.free 3
                              have d4 := IF.out.r1.cell 4 _ rfl
                              have f4 := IF.out.r1.free 4
                              have d5 := IF.out.r1.cell 5 _ rfl
                              have f5 := IF.out.r1.free 5
                              have hb9 := IF.out.b
                              go_wp2_with fail
                              refine bodyPost_ret (v := .tuple #[.agg #[.string ⟨m.toArray⟩, .string ⟨(pa).toArray⟩, .string ⟨(qa).toArray⟩, .slice none 0 0, .slice none 0 0, .bool false], .int .i64 0]) (by simp [results, Tryz.results48, go_sem, d0, d1, d2, d3, d4, d5]) rfl ?_
                              exact ⟨⟨m, pa, qa, by rw [HR.out], fun _ => by rw [HR.out]⟩, by go_grown⟩
                            ·
                              have HR : Hid ((firstS s).2 = 383) := Lib.hid (by rw [HFIN.out, if_neg (fun h9 => hv (by rw [← Hv3.out, h9.1, h9.2]))])
                              have hv9 : (v3 == [49, 46, 49]) = false := by rw [beq_eq_false_iff_ne]; exact hv
                              clear HFIN HPS hv
                              have c0 := IF.out.r2.cell 0 _ rfl
                              have c1 := IF.out.r2.cell 1 _ rfl
                              have c2 := IF.out.r2.cell 2 _ rfl
                              have c3 := IF.out.r2.cell 3 _ rfl
                              have c4 := IF.out.r2.cell 4 _ rfl
                              have c5 := IF.out.r2.cell 5 _ rfl
                              have d0 := IF.out.r1.cell 0 _ rfl
                              have f0 := IF.out.r1.free 0
                              have d1 := IF.out.r1.cell 1 _ rfl
                              have f1 := IF.out.r1.free 1
                              have d2 := IF.out.r1.cell 2 _ rfl
                              have f2 := IF.out.r1.free 2
                              have d3 := IF.out.r1.cell 3 _ rfl
                              have f3 := IF.out.r1.free 3
                              have d4 := IF.out.r1.cell 4 _ rfl
                              have f4 := IF.out.r1.free 4
                              have d5 := IF.out.r1.cell 5 _ rfl
                              have f5 := IF.out.r1.free 5
                              have hb9 := IF.out.b
                              go_wp2_with fail
                              refine bodyPost_ret (v := .tuple #[.agg #[.string ⟨m.toArray⟩, .string ⟨(pa).toArray⟩, .string ⟨(qa).toArray⟩, .slice none 0 0, .slice none 0 0, .bool false], .int .i64 383]) (by simp [results, Tryz.results48, go_sem, d0, d1, d2, d3, d4, d5]) rfl ?_
                              exact ⟨RqOut.no HR.out (by decide) _ _ _, by go_grown⟩
                          ·
                            have g63 : (((u.getD h 0).toNat : Int) == 63) = false := by rw [beq_eq_false_iff_ne]; intro e; exact h63 (UInt8.toNat_inj.1 (by show (u.getD h 0).toNat = 63; omega))
                            have HN : Hid ((u.take (h + 1)).all (fun c => !(c == 63)) = true) := Lib.hid (by rw [List.take_add_one, List.getElem?_eq_getElem (by omega : h < u.length), List.all_append, HQ.out]; simpa [List.getD, (by omega : h < u.length)] using h63)
                            clear h63 HU HX HQ
                            generalize u.getD h 0 = c at *
                            go_wp2_with fail
                            go_roundg (n - (h + 1))
                            case measure => have := Hk.out; omega
                            case rel => exact ⟨h + 1, rfl, by omega, by go_num, HN.out, rfl⟩
                        ·
                          have hhn2 : ¬ (h : Int) < n := by omega
                          have hall : u.all (fun c => !(c == 63)) = true := by have := HQ.out; rw [List.take_of_length_le (by omega)] at this; exact this
                          have HPS := Lib.hid (pathS_miss hall)
                          clear hall HU HX HQ Hk
                          by_cases hv : v3 = [49, 46, 49]
                          ·
                            have hcab : ca = 49 ∧ cb = 49 := by have h9 := Hv3.out.trans hv; simpa using h9
                            have HR : Hid (firstS s = ((m, u, ([] : List UInt8)), 0)) := Lib.hid (by rw [HFIN.out, if_pos hcab, HPS.out])
                            clear HFIN HPS hcab
                            subst hv
                            have c0 := HI2.out.r2.cell 0 _ rfl
                            have c1 := HI2.out.r2.cell 1 _ rfl
                            have c2 := HI2.out.r2.cell 2 _ rfl
                            have c3 := HI2.out.r2.cell 3 _ rfl
                            have c4 := HI2.out.r2.cell 4 _ rfl
                            have c5 := HI2.out.r2.cell 5 _ rfl
                            have d0 := HI2.out.r1.cell 0 _ rfl
                            have f0 := HI2.out.r1.free 0
                            have d1 := HI2.out.r1.cell 1 _ rfl
                            have f1 := HI2.out.r1.free 1
                            have d2 := HI2.out.r1.cell 2 _ rfl
                            have f2 := HI2.out.r1.free 2
                            have d3 := HI2.out.r1.cell 3 _ rfl
                            have f3 := HI2.out.r1.free 3
                            have d4 := HI2.out.r1.cell 4 _ rfl
                            have f4 := HI2.out.r1.free 4
                            have d5 := HI2.out.r1.cell 5 _ rfl
                            have f5 := HI2.out.r1.free 5
                            have hb9 := HI2.out.b
                            go_wp2_with fail
                            refine bodyPost_ret (v := .tuple #[.agg #[.string ⟨m.toArray⟩, .string ⟨(u).toArray⟩, .string ⟨(([] : List UInt8)).toArray⟩, .slice none 0 0, .slice none 0 0, .bool false], .int .i64 0]) (by simp [results, Tryz.results48, go_sem, d0, d1, d2, d3, d4, d5]) rfl ?_
                            exact ⟨⟨m, u, ([] : List UInt8), by rw [HR.out], fun _ => by rw [HR.out]⟩, by go_grown⟩
                          ·
                            have HR : Hid ((firstS s).2 = 383) := Lib.hid (by rw [HFIN.out, if_neg (fun h9 => hv (by rw [← Hv3.out, h9.1, h9.2]))])
                            have hv9 : (v3 == [49, 46, 49]) = false := by rw [beq_eq_false_iff_ne]; exact hv
                            clear HFIN HPS hv
                            have c0 := HI2.out.r2.cell 0 _ rfl
                            have c1 := HI2.out.r2.cell 1 _ rfl
                            have c2 := HI2.out.r2.cell 2 _ rfl
                            have c3 := HI2.out.r2.cell 3 _ rfl
                            have c4 := HI2.out.r2.cell 4 _ rfl
                            have c5 := HI2.out.r2.cell 5 _ rfl
                            have d0 := HI2.out.r1.cell 0 _ rfl
                            have f0 := HI2.out.r1.free 0
                            have d1 := HI2.out.r1.cell 1 _ rfl
                            have f1 := HI2.out.r1.free 1
                            have d2 := HI2.out.r1.cell 2 _ rfl
                            have f2 := HI2.out.r1.free 2
                            have d3 := HI2.out.r1.cell 3 _ rfl
                            have f3 := HI2.out.r1.free 3
                            have d4 := HI2.out.r1.cell 4 _ rfl
                            have f4 := HI2.out.r1.free 4
                            have d5 := HI2.out.r1.cell 5 _ rfl
                            have f5 := HI2.out.r1.free 5
                            have hb9 := HI2.out.b
                            go_wp2_with fail
                            refine bodyPost_ret (v := .tuple #[.agg #[.string ⟨m.toArray⟩, .string ⟨(u).toArray⟩, .string ⟨(([] : List UInt8)).toArray⟩, .slice none 0 0, .slice none 0 0, .bool false], .int .i64 383]) (by simp [results, Tryz.results48, go_sem, d0, d1, d2, d3, d4, d5]) rfl ?_
                            exact ⟨RqOut.no HR.out (by decide) _ _ _, by go_grown⟩
end Go.Proofs.YtgdfgppgfkkncaaGreatDoor
