/- The walks of the reference's May, digits, Plain: over any world. -/
import Derived.Test.YtkakmjdfecbhaaaGreatDoorDec5
import Derived.Test.YtkakmjdfecbhaaaGreatDoorParL
namespace Go.Proofs.YtkakmjdfecbhaaaGreatDoor
open Go.RowKit

theorem digAll_snoc (l : List UInt8) (j : Nat) (h : j < l.length) (hd : digAll (l.take j) = true) (hb : digB (l.getD j 0) = true) : digAll (l.take (j + 1)) = true := by
  rw [take_snoc8 l j h]
  simp only [digAll, List.all_append] at hd ⊢
  rw [hd, List.all_cons, hb]; rfl
theorem digAll_not (l : List UInt8) (j : Nat) (h : j < l.length) (hb : digB (l.getD j 0) = false) : digAll l = false := by
  simp only [digAll, List.all_eq_false]
  exact ⟨_, List.getElem_mem h, by have e : l.getD j 0 = l[j] := by simp [h]
                                   rw [← e, hb]; exact Bool.false_ne_true⟩
theorem mayB_not {d : Dec} (h : digAll d.digits = false) : mayB d = false := by
  cases hd : d.digits with
  | nil => rw [hd] at h; simp [digAll] at h
  | cons c t => rw [hd] at h; simp only [mayB, hd, h]; simp
/-- The last byte's place. -/
theorem may_at (l : List UInt8) (j : Nat) (h : j < l.length) : (⟨l.toArray⟩ : ByteArray)[j]'(by simpa [ByteArray.size] using h) = l.getD j 0 := by
  show l.toArray[j]'(by simpa using h) = _
  simp [h]

/-- What May's last test gives, over digits that are there. -/
def MayOut (neg : Bool) (l : List UInt8) (exp : Int) (e : Ending) : Prop := e = .returned (.bool (mayB ⟨neg, l, exp⟩))

set_option maxHeartbeats 1000000 in
theorem mayR_calls (w : World) (d : Dec) (hsz : d.digits.length ≤ 100000000000) :
    Calls Tryz.prog 9 #[.agg #[.bool d.neg, .string ⟨d.digits.toArray⟩, .int .i64 d.exp]] w fun e w' => e = .returned (.bool (mayB d)) ∧ Below w.heap.size w w' := by
  obtain ⟨neg, l, exp⟩ := d
  simp only at hsz ⊢
  have hb : Below w.heap.size w (w.alloc (Obj.cells #[Value.bool neg, Value.string { data := l.toArray }, Value.int IntKind.i64 exp] 24)) := (Below.refl _ _).alloc (Nat.le_refl _) _
  have hd := DecAt.at w ⟨neg, l, exp⟩ _ rfl
  have c0 := hd.c0
  have c1 := hd.c1
  have c2 := hd.c2
  simp only at c0 c1 c2
  clear hd
  go_enter Tryz.func9, Tryz.ntmps9
  go_wp2_with fail
  generalize w.alloc (Obj.cells #[Value.bool neg, Value.string { data := l.toArray }, Value.int IntKind.i64 exp] 24) = w1 at *
  go_loopg [4] l.length (fun k i wr => ∃ j : Nat, k = l.length - j ∧ j ≤ l.length ∧ i = .int .i64 j ∧ digAll (l.take j) = true ∧ w1 = wr)
  case atStart => exact ⟨0, rfl, by omega, rfl, rfl, rfl⟩
  case round =>
    obtain ⟨j, hk, hj, rfl, hd, rfl⟩ := hrel
    have Hk := Lib.hid hk
    have Hd := Lib.hid hd
    clear hk hd
    by_cases hlt : j < l.length
    · have hlt' : (j : Int) < l.length := by omega
      have hij := may_at l j hlt
      have Hs := Lib.hid (digAll_snoc l j hlt Hd.out)
      have Hn := Lib.hid (fun h => mayB_not (d := ⟨neg, l, exp⟩) (digAll_not l j hlt h))
      have hc : (l.getD j 0).toNat < 256 := (l.getD j 0).toNat_lt
      have Hb : Hid (digB (l.getD j 0) = (decide (48 ≤ (l.getD j 0).toNat) && decide ((l.getD j 0).toNat ≤ 57))) := rfl
      generalize l.getD j 0 = c at *
      by_cases h1 : c.toNat < 48
      · have h1' : decide ((c.toNat : Int) < 48) = true := by simp; omega
        have hf := Hn.out (by rw [Hb.out]; simp; omega)
        have Hf := Lib.hid hf
        clear hf
        go_wp2_with fail
        go_ret
        exact ⟨by rw [Hf.out]; rfl, hb⟩
      · have h1' : decide ((c.toNat : Int) < 48) = false := by simp; omega
        by_cases h2 : 57 < c.toNat
        · have h2' : decide ((57 : Int) < (c.toNat : Int)) = true := by simp; omega
          have hf := Hn.out (by rw [Hb.out]; simp; omega)
          have Hf := Lib.hid hf
          clear hf
          go_wp2_with fail
          go_ret
          exact ⟨by rw [Hf.out]; rfl, hb⟩
        · have h2' : decide ((57 : Int) < (c.toNat : Int)) = false := by simp; omega
          go_wp2_with fail
          go_roundg (l.length - (j + 1))
          case measure => have := Hk.out; omega
          case rel => exact ⟨j + 1, rfl, by omega, by go_num, Hs.out (by rw [Hb.out]; simp; omega), rfl⟩
    · obtain rfl : j = l.length := by omega
      have hall := Hd.out
      rw [List.take_of_length_le (Nat.le_refl _)] at hall
      clear Hk Hd hj hlt
      cases l with
      | nil =>
        have Hf : Hid (mayB ⟨neg, [], exp⟩ = (!neg && decide (exp = 0))) := rfl
        clear hall
        cases neg with
        | true =>
          go_wp2_with fail
          go_ret
          exact ⟨by rw [Hf.out]; rfl, hb⟩
        | false =>
          by_cases h0 : exp = 0
          · subst h0
            go_wp2_with fail
            go_ret
            exact ⟨by rw [Hf.out]; rfl, hb⟩
          · have h0' : (exp == 0) = false := by simp [h0]
            have Hf2 : Hid (mayB ⟨false, [], exp⟩ = false) := by show mayB ⟨false, [], exp⟩ = false; rw [Hf.out]; simp [h0]
            go_wp2_with fail
            go_ret
            exact ⟨by rw [Hf2.out]; rfl, hb⟩
      | cons c t =>
        have hi0 := may_at (c :: t) 0 (by simp)
        have hiL := may_at (c :: t) t.length (by simp)
        rw [show (c :: t).getD 0 0 = c from rfl] at hi0
        obtain ⟨x, hx⟩ : ∃ x, x = (c :: t).getD t.length 0 := ⟨_, rfl⟩
        rw [← hx] at hiL
        have hf : mayB ⟨neg, c :: t, exp⟩ = (decide (t.length + 1 ≤ 100) && !(c == 48) && !(x == 48) && decide (-1000 ≤ exp) && decide (exp ≤ 1000)) := by
          simp only [mayB, hall, Bool.true_and, hx]
        have h48 : ∀ y : UInt8, (y == 48) = decide (y.toNat = 48) := fun y => by
          rw [Bool.eq_iff_iff, beq_iff_eq, decide_eq_true_eq, ← UInt8.toNat_inj]; rfl
        rw [h48, h48] at hf
        have Hf := Lib.hid hf
        clear hall hx hf h48
        go_wp2_with fail
        all_goals
          go_ret
          refine ⟨?_, hb⟩
          rw [Hf.out]
          refine congrArg (fun b => Ending.returned (Value.bool b)) ?_
          show (_ : Bool) = _
          rw [Bool.eq_iff_iff]
          simp only [Bool.and_eq_true, Bool.not_eq_true', decide_eq_true_eq, decide_eq_false_iff_not, Bool.false_eq_true, bne_iff_ne, ne_eq]
          refine ⟨fun h => ?_, fun h => ?_⟩
          all_goals first | omega | exact h.elim
end Go.Proofs.YtkakmjdfecbhaaaGreatDoor
