/- The walks of the methods of cut, and of power: over any world in which the text left stands in one cell. -/
import Derived.Test.YtkakmjdfecbhaaaGreatDoorDec2
import Derived.Test.YtkakmjdfecbhaaaGreatDoorParL
namespace Go.Proofs.YtkakmjdfecbhaaaGreatDoor
open Go.RowKit

/-- Block b holds the text that is left. -/
def CutAt (w : World) (b : Nat) (r : List UInt8) : Prop := w.cell? ⟨b, 0, none⟩ = some (.string ⟨r.toArray⟩) ∧ w.frozen? ⟨b, 0, none⟩ = false ∧ b < w.heap.size
theorem CutAt.set {w : World} {b : Nat} {r : List UInt8} (h : CutAt w b r) (r' : List UInt8) : CutAt (w.setCell ⟨b, 0, none⟩ (.string ⟨r'.toArray⟩)) b r' := by
  refine ⟨?_, ?_, by simpa using h.2.2⟩
  · rw [World.cell?_setCell_same _ _ _ h.1]
  · rw [World.frozen?_setCell]; exact h.2.1
theorem grown_set (w : World) (b : Nat) (v : Value) : w.grownBy (w.setCell ⟨b, 0, none⟩ v) (some b) :=
  ⟨rfl, rfl, rfl, by simp, fun k _ hk => Below.heap_setCell _ _ _ _ (by intro e; exact hk (by simp [e]))⟩
theorem grown_same (w : World) (row : Option Nat) : w.grownBy w row := ⟨rfl, rfl, rfl, Nat.le_refl _, fun _ _ _ => rfl⟩
theorem index_low (c : UInt8) : ∀ l : List UInt8, -1 ≤ Lib.indexByte l c := by
  intro l
  induction l with
  | nil => simp [Lib.indexByte]
  | cons a l ih =>
    unfold Lib.indexByte
    split
    · omega
    · split
      · omega
      · omega
theorem index_in (of : List UInt8) (c : UInt8) : decide (Lib.indexByte of c < 0) = !of.contains c := by
  induction of with
  | nil => rfl
  | cons a l ih =>
    unfold Lib.indexByte
    by_cases h : a == c
    · have h2 : (c == a) = true := by rw [beq_iff_eq] at h ⊢; exact h.symm
      rw [if_pos h, List.contains_cons, h2]; rfl
    · have h2 : (c == a) = false := by
        rw [beq_eq_false_iff_ne]; intro e; exact h (by rw [beq_iff_eq]; exact e.symm)
      rw [List.contains_cons, h2, Bool.false_or, ← ih, if_neg h]
      by_cases h3 : Lib.indexByte l c == -1
      · rw [if_pos h3]; rw [beq_iff_eq] at h3; rw [h3]
      · rw [if_neg h3]
        have h4 : Lib.indexByte l c ≠ -1 := by simpa using h3
        have := index_low c l
        have e1 : decide (Lib.indexByte l c + 1 < 0) = false := by simp; omega
        have e2 : decide (Lib.indexByte l c < 0) = false := by simp; omega
        rw [e1, e2]

theorem one_calls (w : World) (b : Nat) (of r : List UInt8) (h : CutAt w b r) (hr : r.length ≤ 1000000000) :
    Calls Tryz.prog 53 #[.pointer (some ⟨b, 0, none⟩), .string ⟨of.toArray⟩] w fun e w' => e = .returned (.int .u8 ((oneS of r).1.toNat : Int)) ∧ CutAt w' b (oneS of r).2 ∧ w.grownBy w' (some b) := by
  have h1 := h.1
  have h2 := h.2.1
  cases r with
  | nil =>
    go_enter Tryz.func53, Tryz.ntmps53
    go_wp2
    go_ret
    exact ⟨rfl, h, grown_same _ _⟩
  | cons c t =>
    have hi0 : (⟨(c :: t).toArray⟩ : ByteArray)[0]'(by simp [ByteArray.size]) = c := rfl
    have hcl : (c.toNat : Int).toNat.toUInt8 = c := by simp
    have hext : (⟨(c :: t).toArray⟩ : ByteArray).extract 1 (t.length + 1) = ⟨t.toArray⟩ := by rw [Lib.extract_eq]; simp
    have hx := index_in of c
    cases hcon : of.contains c with
    | true =>
      have ho : oneS of (c :: t) = (c, t) := by simp [oneS]; simpa using hcon
      rw [ho]
      rw [hcon] at hx
      have h3 := h.set t
      have h4 := grown_set w b (.string ⟨t.toArray⟩)
      have H34 : Hid (CutAt (w.setCell ⟨b, 0, none⟩ (.string ⟨t.toArray⟩)) b t ∧ w.grownBy (w.setCell ⟨b, 0, none⟩ (.string ⟨t.toArray⟩)) (some b)) := ⟨h3, h4⟩
      clear h3 h4 ho hcon h
      go_enter Tryz.func53, Tryz.ntmps53
      go_wp2_with fail
      refine (same (Tryz.strings_IndexByte ⟨of.toArray⟩ _ _)).mono ?_
      rintro e w1 ⟨rfl, rfl⟩
      rw [hcl]
      have hx' : ¬ Lib.indexByte of c < 0 := by simpa using hx
      clear hx
      go_wp2
      go_ret
      exact ⟨rfl, H34.out⟩
    | false =>
      have ho : oneS of (c :: t) = (0, c :: t) := by simp [oneS]; simpa using hcon
      rw [ho]
      rw [hcon] at hx
      clear ho hcon
      have H := Lib.hid h
      clear h
      go_enter Tryz.func53, Tryz.ntmps53
      go_wp2_with fail
      refine (same (Tryz.strings_IndexByte ⟨of.toArray⟩ _ _)).mono ?_
      rintro e w1 ⟨rfl, rfl⟩
      rw [hcl]
      have hx' : Lib.indexByte of c < 0 := by simpa using hx
      clear hx
      go_wp2
      go_ret
      exact ⟨rfl, H.out, grown_same _ _⟩

theorem cutDigits_calls (w : World) (b : Nat) (r : List UInt8) (h : CutAt w b r) (hr : r.length ≤ 1000000000) :
    Calls Tryz.prog 54 #[.pointer (some ⟨b, 0, none⟩)] w fun e w' => e = .returned (.string ⟨(digsS r).toArray⟩) ∧ CutAt w' b (restS r) ∧ w.grownBy w' (some b) := by
  have h1 := h.1
  have h2 := h.2.1
  have H := Lib.hid h
  clear h
  have hsz : (⟨r.toArray⟩ : ByteArray).size = r.length := by simp [ByteArray.size]
  go_enter Tryz.func54, Tryz.ntmps54
  go_wp2
  go_loopg [3] r.length (fun k i wr => ∃ j : Nat, k = r.length - j ∧ j ≤ r.length ∧ i = .int .i64 j ∧ digAll (r.take j) = true ∧ w = wr)
  case atStart => exact ⟨0, rfl, by omega, rfl, rfl, rfl⟩
  case round =>
    obtain ⟨j, hk, hj, rfl, hd, rfl⟩ := hrel
    have Hk := Lib.hid hk
    have Hd := Lib.hid hd
    clear hk hd
    by_cases hlt : j < r.length
    · have hlt' : (j : Int) < r.length := by omega
      have hij : (⟨r.toArray⟩ : ByteArray)[j]'(by simpa [ByteArray.size] using hlt) = r.getD j 0 := by
        show r.toArray[j]'(by simpa using hlt) = _
        simp [hlt]
      have hts := take_snoc8 r j hlt
      have Hts := Lib.hid hts
      clear hts
      have hx0 : (⟨r.toArray⟩ : ByteArray).extract 0 j = ⟨(r.take j).toArray⟩ := by rw [Lib.extract_eq]; simp
      have hx1 : (⟨r.toArray⟩ : ByteArray).extract j r.length = ⟨(r.drop j).toArray⟩ := by rw [Lib.extract_eq]; rw [List.take_of_length_le (by simp)]
      have hset := (CutAt.set H.out (r.drop j))
      have Hset := Lib.hid hset
      clear hset
      cases hb : digB (r.getD j 0) with
      | true =>
        have Hb := Lib.hid hb
        clear hb
        generalize r.getD j 0 = c at *
        go_wp2_with fail
        refine (digit_calls w c).mono ?_
        rintro e w1 ⟨rfl, rfl⟩
        rw [Hb.out]
        go_wp2_with fail
        go_roundg (r.length - (j + 1))
        case measure => have := Hk.out; omega
        case rel =>
          have h1 := Hd.out
          refine ⟨j + 1, rfl, by omega, by go_num, ?_, rfl⟩
          rw [Hts.out]
          simp only [digAll, List.all_append] at h1 ⊢
          rw [h1]; simp [Hb.out]
      | false =>
        have hfin := digs_at r j Hd.out (by omega) (.inr hb)
        have Hfin := Lib.hid hfin
        have Hb := Lib.hid hb
        clear hb hfin
        generalize r.getD j 0 = c at *
        go_wp2_with fail
        refine (digit_calls w c).mono ?_
        rintro e w1 ⟨rfl, rfl⟩
        rw [Hb.out]
        go_wp2
        go_ret
        rw [Hfin.out.1, Hfin.out.2]
        exact ⟨rfl, Hset.out, grown_set _ _ _⟩
    · obtain rfl : j = r.length := by omega
      have hx0 : (⟨r.toArray⟩ : ByteArray).extract 0 r.length = ⟨(r.take r.length).toArray⟩ := by rw [Lib.extract_eq]; simp
      have hx1 : (⟨r.toArray⟩ : ByteArray).extract r.length r.length = ⟨(r.drop r.length).toArray⟩ := by rw [Lib.extract_eq]; simp
      have hset := (CutAt.set H.out (r.drop r.length))
      have Hset := Lib.hid hset
      have hfin := digs_at r r.length Hd.out (by omega) (.inl rfl)
      have Hfin := Lib.hid hfin
      clear hset hfin
      go_wp2
      go_ret
      rw [Hfin.out.1, Hfin.out.2]
      have := Hset.out
      simp only [List.drop_length, List.take_length] at this ⊢
      exact ⟨rfl, this, grown_set _ _ _⟩

set_option maxRecDepth 100000 in
theorem power_calls (w : World) (s : List UInt8) (hd : Dig s) (hl : s.length ≤ 1000000000) (hne : s ≠ []) :
    Calls Tryz.prog 55 #[.string ⟨s.toArray⟩] w fun e w' => e = .returned (.tuple #[.int .i64 (powerS s), .bool true]) ∧ Below w.heap.size w w' := by
  have kc : ∀ (w : World) (s : ByteArray), (convert 9 89 (.string s)).run Tryz.prog w = .ok (.slice (some ⟨w.heap.size, 0, none⟩) s.size (grownCap w s.size 0 5)) (Lib.bytesWorld w 5 s) :=
    fun w s => Lib.run_convert_string_bytes w 9 89 5 s Tryz.underlying9 Tryz.underlying89 Tryz.underlying5
  cases s with
  | nil => exact absurd rfl hne
  | cons c0 t0 =>
  have hd0 := Dig_trim0 hd
  have hl0 := trim0_len (c0 :: t0)
  obtain ⟨t, ht⟩ : ∃ t, t = trim0 (c0 :: t0) := ⟨_, rfl⟩
  have hp : powerS (c0 :: t0) = if 7 < t.length then 10000000 else (dval t : Int) := by rw [ht]; rfl
  rw [← ht] at hd0 hl0
  have Ht := Lib.hid ht
  clear ht
  by_cases h7 : 7 < t.length
  · rw [if_pos h7] at hp
    rw [hp]
    clear hp
    go_enter Tryz.func55, Tryz.ntmps55
    go_wp2_with fail
    refine (same (Tryz.strings_TrimLeft_one ⟨(c0 :: t0).toArray⟩ 48 (by decide) _)).mono ?_
    rintro e w1 ⟨rfl, rfl⟩
    rw [show Lib.trimLeftB (c0 :: t0) 48 = t from Ht.out.symm]
    go_wp2
    go_ret2
    exact ⟨rfl, Below.refl _ _⟩
  · rw [if_neg h7] at hp
    rw [hp]
    clear hp
    go_enter Tryz.func55, Tryz.ntmps55
    go_wp2_with fail
    refine (same (Tryz.strings_TrimLeft_one ⟨(c0 :: t0).toArray⟩ 48 (by decide) _)).mono ?_
    rintro e w1 ⟨rfl, rfl⟩
    rw [show Lib.trimLeftB (c0 :: t0) 48 = t from Ht.out.symm]
    go_wp2_with fail
    have hbc := bytesWorld_below w 5 ⟨t.toArray⟩
    have hcell : ∀ j, j < t.length → (Lib.bytesWorld w 5 ⟨t.toArray⟩).cell? ⟨w.heap.size, j, none⟩ = some (.int .u8 ((t.getD j 0).toNat : Int)) :=
      fun j hj => by have := Lib.bytesWorld_cell w 5 ⟨t.toArray⟩ j (by simpa [ByteArray.size] using hj); simpa using this
    have Hcell := Lib.hid hcell
    clear hcell kc
    generalize Lib.bytesWorld w 5 ⟨t.toArray⟩ = wb at *
    go_loopg [4, 17] t.length (fun k x i wr => ∃ j : Nat, k = t.length - j ∧ j ≤ t.length ∧ i = .int .i64 j ∧ x = .int .i64 (dval (t.take j) : Nat) ∧ wb = wr)
    case atStart => exact ⟨0, rfl, by omega, rfl, by simp [dval], rfl⟩
    case round =>
      obtain ⟨j, hk, hj, rfl, rfl, rfl⟩ := hrel
      have Hk := Lib.hid hk
      clear hk
      have hx := dval_take_lt hd0 (by omega) j
      by_cases hlt : j < t.length
      · have hlt' : (j : Int) < t.length := by omega
        have hcj := Hcell.out j hlt
        have hdj := Dig_getD hd0 j hlt
        have hnx := dval_snoc (t.take j) (t.getD j 0)
        rw [← take_snoc8 _ j hlt] at hnx
        have Hnx := Lib.hid hnx
        clear hnx
        generalize t.getD j 0 = c at *
        go_wp2_with fail
        go_roundg (t.length - (j + 1))
        case measure => have := Hk.out; omega
        case rel => exact ⟨j + 1, rfl, by omega, by go_num, by rw [Hnx.out]; congr 1; omega, rfl⟩
      · obtain rfl : j = t.length := by omega
        go_wp2
        go_ret2
        exact ⟨by simp, hbc⟩
theorem power_none (w : World) :
    Calls Tryz.prog 55 #[.string ⟨#[]⟩] w fun e w' => e = .returned (.tuple #[.int .i64 0, .bool false]) ∧ w = w' := by
  go_enter Tryz.func55, Tryz.ntmps55
  go_wp2
  go_ret2
  exact ⟨rfl, rfl⟩
end Go.Proofs.YtkakmjdfecbhaaaGreatDoor
