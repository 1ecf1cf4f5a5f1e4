/- The walks of decimal.digit, Check's closure, slices.IndexFunc and ContainsFunc with it, Check: over any world, any decimal whose digits are fewer than 10^12 bytes. -/
import Derived.Test.YtkakmjdfecbhaaaGreatDoorNat6
import Derived.Test.YtkakmjdfecbhaaaGreatDoorDecL
namespace Go.Proofs.YtkakmjdfecbhaaaGreatDoor
open Go.RowKit

theorem digit_calls (w : World) (c : UInt8) :
    Calls Tryz.prog 67 #[.int .u8 (c.toNat : Int)] w fun e w' => e = .returned (.bool (digB c)) ∧ w = w' := by
  have hc : (c.toNat : Int) ≤ 255 := by have := c.toNat_lt; omega
  by_cases h1 : 48 ≤ c.toNat
  · have h1' : decide ((48 : Int) ≤ (c.toNat : Int)) = true := by simp; omega
    by_cases h2 : c.toNat ≤ 57
    · have h3 : digB c = true := (digB_iff c).2 ⟨h1, h2⟩
      rw [h3]
      have h2' : decide ((c.toNat : Int) ≤ 57) = true := by simp; omega
      clear h3
      go_enter Tryz.func67, Tryz.ntmps67
      go_wp2
      go_ret
      exact ⟨rfl, rfl⟩
    · have h3 : digB c = false := by simp [digB, h2]
      rw [h3]
      have h2' : decide ((c.toNat : Int) ≤ 57) = false := by simp; omega
      clear h3
      go_enter Tryz.func67, Tryz.ntmps67
      go_wp2
      go_ret
      exact ⟨rfl, rfl⟩
  · have h3 : digB c = false := by simp [digB, h1]
    rw [h3]
    have h1' : decide ((48 : Int) ≤ (c.toNat : Int)) = false := by simp; omega
    clear h3
    go_enter Tryz.func67, Tryz.ntmps67
    go_wp2
    go_ret
    exact ⟨rfl, rfl⟩

theorem nodigit_calls (w : World) (c : UInt8) :
    Calls Tryz.prog 66 #[.int .u8 (c.toNat : Int)] w fun e w' => e = .returned (.bool (!digB c)) ∧ w = w' := by
  go_enter Tryz.func66, Tryz.ntmps66
  go_wp2_with fail
  refine (digit_calls w c).mono ?_
  rintro e w1 ⟨rfl, rfl⟩
  go_wp2
  go_ret
  exact ⟨rfl, rfl⟩

theorem indexFunc_calls (w : World) (g cap : Nat) (l : List UInt8) (hl : l.length ≤ 1000000000000) (hc : ∀ j, j < l.length → w.cell? ⟨g, j, none⟩ = some (.int .u8 ((l.getD j 0).toNat : Int))) :
    Calls Tryz.prog 91 #[.slice (some ⟨g, 0, none⟩) l.length cap, .func (.func 66) #[] #[]] w fun e w' => ∃ r : Int, e = .returned (.int .i64 r) ∧ decide (0 ≤ r) = !digAll l ∧ w = w' := by
  have Hc := Lib.hid hc
  clear hc
  go_enter Tryz.func91, Tryz.ntmps91
  go_wp2
  go_loopg [8] l.length (fun k i wr => ∃ j : Nat, k = l.length - j ∧ j ≤ l.length ∧ i = .int .i64 j ∧ digAll (l.take j) = true ∧ w = wr)
  case atStart => exact ⟨0, rfl, by omega, rfl, rfl, rfl⟩
  case round =>
    obtain ⟨j, hk, hj, rfl, hd, rfl⟩ := hrel
    have Hk := Lib.hid hk
    have Hd := Lib.hid hd
    clear hk hd
    by_cases hlt : j < l.length
    · have c1 := Hc.out j hlt
      have hlt' : (j : Int) < l.length := by omega
      have hts := take_snoc8 l j hlt
      have Hts := Lib.hid hts
      clear hts
      cases hb : digB (l.getD j 0) with
      | true =>
        have Hb := Lib.hid hb
        clear hb
        generalize l.getD j 0 = c at *
        go_wp2_with fail
        refine (nodigit_calls w c).mono ?_
        rintro e w1 ⟨rfl, rfl⟩
        rw [Hb.out]
        go_wp2_with fail
        go_roundg (l.length - (j + 1))
        case measure => have := Hk.out; omega
        case rel =>
          have h1 := Hd.out
          refine ⟨j + 1, rfl, by omega, by go_num, ?_, rfl⟩
          rw [Hts.out]
          simp only [digAll, List.all_append] at h1 ⊢
          rw [h1]; simp [Hb.out]
      | false =>
        have hall : digAll l = false := by
          simp only [digAll, List.all_eq_false]
          exact ⟨_, List.getElem_mem hlt, by have e : l.getD j 0 = l[j] := by simp [hlt]
                                             rw [← e, hb]; simp⟩
        have Hb := Lib.hid hb
        have Hall := Lib.hid hall
        clear hb hall
        generalize l.getD j 0 = c at *
        go_wp2_with fail
        refine (nodigit_calls w c).mono ?_
        rintro e w1 ⟨rfl, rfl⟩
        rw [Hb.out]
        go_wp2_with fail
        go_ret
        exact ⟨j, rfl, by rw [Hall.out]; simp, rfl⟩
    · obtain rfl : j = l.length := by omega
      go_wp2
      go_ret
      have := Hd.out
      rw [List.take_of_length_le (Nat.le_refl _)] at this
      exact ⟨-1, rfl, by rw [this]; rfl, rfl⟩

theorem containsFunc_calls (w : World) (g cap : Nat) (l : List UInt8) (hl : l.length ≤ 1000000000000) (hc : ∀ j, j < l.length → w.cell? ⟨g, j, none⟩ = some (.int .u8 ((l.getD j 0).toNat : Int))) :
    Calls Tryz.prog 65 #[.slice (some ⟨g, 0, none⟩) l.length cap, .func (.func 66) #[] #[]] w fun e w' => e = .returned (.bool (!digAll l)) ∧ w = w' := by
  have Hc := Lib.hid hc
  clear hc
  go_enter Tryz.func65, Tryz.ntmps65
  go_wp2_with fail
  refine (indexFunc_calls w g cap l hl Hc.out).mono ?_
  rintro e w1 ⟨r, rfl, hr, rfl⟩
  have Hr := Lib.hid hr
  clear hr
  go_wp2
  go_ret
  exact ⟨by rw [← Hr.out]; rfl, rfl⟩

/-- A decimal as a value. -/
def DecV (d : Dec) : Value := .agg #[.bool d.neg, .string ⟨d.digits.toArray⟩, .int .i64 d.exp]

theorem check_zero (w : World) :
    Calls Tryz.prog 40 #[.agg #[.bool false, .string ⟨#[]⟩, .int .i64 0]] w fun e w' => e = .returned (.int .i64 0) ∧ Below w.heap.size w w' := by
  go_enter Tryz.func40, Tryz.ntmps40
  go_wp2
  go_ret
  exact ⟨rfl, by go_grown⟩
theorem check_neg (w : World) (exp : Int) :
    Calls Tryz.prog 40 #[.agg #[.bool true, .string ⟨#[]⟩, .int .i64 exp]] w fun e w' => e = .returned (.int .i64 2) ∧ Below w.heap.size w w' := by
  go_enter Tryz.func40, Tryz.ntmps40
  go_wp2
  go_ret
  exact ⟨rfl, by go_grown⟩
theorem check_exp (w : World) (exp : Int) (h : exp ≠ 0) :
    Calls Tryz.prog 40 #[.agg #[.bool false, .string ⟨#[]⟩, .int .i64 exp]] w fun e w' => e = .returned (.int .i64 2) ∧ Below w.heap.size w w' := by
  have h1 : (exp == 0) = false := by simp [h]
  go_enter Tryz.func40, Tryz.ntmps40
  go_wp2
  go_ret
  exact ⟨rfl, by go_grown⟩

/-- What Check's one test gives, over digits that are there. -/
theorem check_cons (w : World) (neg : Bool) (c : UInt8) (t : List UInt8) (exp r : Int) (hsz : t.length ≤ 100000000000)
    (h : (r = 0 ∧ digAll (c :: t) = true ∧ t.length + 1 ≤ 100 ∧ c.toNat ≠ 48 ∧ ((c :: t).getD t.length 0).toNat ≠ 48 ∧ -1000 ≤ exp ∧ exp ≤ 1000) ∨
      (r = 2 ∧ (digAll (c :: t) = false ∨ 100 < t.length + 1 ∨ c.toNat = 48 ∨ ((c :: t).getD t.length 0).toNat = 48 ∨ exp < -1000 ∨ 1000 < exp))) :
    Calls Tryz.prog 40 #[.agg #[.bool neg, .string ⟨(c :: t).toArray⟩, .int .i64 exp]] w fun e w' => e = .returned (.int .i64 r) ∧ Below w.heap.size w w' := by
  have kc : ∀ (w : World) (s : ByteArray), (convert 9 89 (.string s)).run Tryz.prog w = .ok (.slice (some ⟨w.heap.size, 0, none⟩) s.size (grownCap w s.size 0 5)) (Lib.bytesWorld w 5 s) :=
    fun w s => Lib.run_convert_string_bytes w 9 89 5 s Tryz.underlying9 Tryz.underlying89 Tryz.underlying5
  obtain ⟨x, hx⟩ : ∃ x, x = (c :: t).getD t.length 0 := ⟨_, rfl⟩
  rw [← hx] at h
  have hi0 : (⟨(c :: t).toArray⟩ : ByteArray)[0]'(by simp [ByteArray.size]) = c := rfl
  have hiL : (⟨(c :: t).toArray⟩ : ByteArray)[t.length]'(by simp [ByteArray.size]) = x := by
    rw [hx]; show (c :: t).toArray[t.length]'(by simp) = _; simp
  have H := Lib.hid h
  clear h hx
  go_enter Tryz.func40, Tryz.ntmps40
  go_wp2_with fail
  refine (containsFunc_calls _ _ _ (c :: t) (by simp; omega) (fun j hj => by
    have := Lib.bytesWorld_cell (w.alloc (Obj.cells #[Value.bool neg, Value.string { data := (c :: t).toArray }, Value.int IntKind.i64 exp] 24)) 5 ⟨(c :: t).toArray⟩ j (by simpa [ByteArray.size] using hj)
    simpa using this)).mono ?_
  rintro e w1 ⟨rfl, rfl⟩
  have hb1 := bytesWorld_below (w.alloc (Obj.cells #[Value.bool neg, Value.string { data := (c :: t).toArray }, Value.int IntKind.i64 exp] 24)) 5 ⟨(c :: t).toArray⟩
  have hb : Below w.heap.size w (Lib.bytesWorld (w.alloc (Obj.cells #[Value.bool neg, Value.string { data := (c :: t).toArray }, Value.int IntKind.i64 exp] 24)) 5 ⟨(c :: t).toArray⟩) :=
    ((Below.refl _ _).alloc (Nat.le_refl _) _).trans (hb1.mono (by simp))
  have c1 := hb1.cell (p := ⟨w.heap.size, 1, none⟩) (by simp)
  have c2 := hb1.cell (p := ⟨w.heap.size, 2, none⟩) (by simp)
  rw [World.cell?_alloc_at _ _ _ _ rfl] at c1 c2
  clear hb1
  generalize Lib.bytesWorld (w.alloc (Obj.cells #[Value.bool neg, Value.string { data := (c :: t).toArray }, Value.int IntKind.i64 exp] 24)) 5 ⟨(c :: t).toArray⟩ = wb at *
  clear kc
  go_wp2_with fail
  all_goals
    go_ret
    refine ⟨?_, hb⟩
    rcases H.out with ⟨h0, h1, h2, h3, h4, h5, h6⟩ | ⟨h0, h1⟩
  all_goals first
    | (rw [h0]; rfl)
    | (exfalso; simp_all; done)
    | (exfalso; omega)
    | (exfalso; simp_all; omega)

theorem toNat_ne (c : UInt8) : c.toNat ≠ 48 ↔ (!(c == 48)) = true := by
  simp only [Bool.not_eq_true', beq_eq_false_iff_ne, ne_eq, ← UInt8.toNat_inj]; rfl
theorem check_calls (w : World) (d : Dec) (hsz : d.digits.length ≤ 100000000000) :
    Calls Tryz.prog 40 #[.agg #[.bool d.neg, .string ⟨d.digits.toArray⟩, .int .i64 d.exp]] w fun e w' => e = .returned (.int .i64 (chk d)) ∧ Below w.heap.size w w' := by
  obtain ⟨neg, digits, exp⟩ := d
  cases digits with
  | nil =>
    cases neg with
    | true => exact check_neg w exp
    | false =>
      by_cases h : exp = 0
      · subst h; exact check_zero w
      · have : chk ⟨false, [], exp⟩ = 2 := by simp [chk, mayB, h]
        rw [this]; exact check_exp w exp h
  | cons c t =>
    refine check_cons w neg c t exp _ (by simp at hsz; omega) ?_
    cases h : mayB ⟨neg, c :: t, exp⟩ with
    | true =>
      left
      refine ⟨by simp [chk, h], ?_⟩
      simp only [mayB, Bool.and_eq_true, decide_eq_true_eq] at h
      obtain ⟨⟨⟨⟨⟨h1, h2⟩, h3⟩, h4⟩, h5⟩, h6⟩ := h
      exact ⟨h1, h2, (toNat_ne _).2 h3, (toNat_ne _).2 h4, h5, h6⟩
    | false =>
      right
      refine ⟨by simp [chk, h], ?_⟩
      by_cases h1 : digAll (c :: t) = false
      · exact .inl h1
      by_cases h2 : 100 < t.length + 1
      · exact .inr (.inl h2)
      by_cases h3 : c.toNat = 48
      · exact .inr (.inr (.inl h3))
      by_cases h4 : ((c :: t).getD t.length 0).toNat = 48
      · exact .inr (.inr (.inr (.inl h4)))
      by_cases h5 : exp < -1000
      · exact .inr (.inr (.inr (.inr (.inl h5))))
      by_cases h6 : 1000 < exp
      · exact .inr (.inr (.inr (.inr (.inr h6))))
      exfalso
      have : mayB ⟨neg, c :: t, exp⟩ = true := by
        simp only [mayB, Bool.and_eq_true, decide_eq_true_eq]
        exact ⟨⟨⟨⟨⟨by simpa using h1, by omega⟩, (toNat_ne _).1 h3⟩, (toNat_ne _).1 h4⟩, by omega⟩, by omega⟩
      rw [this] at h; cases h

end Go.Proofs.YtkakmjdfecbhaaaGreatDoor
