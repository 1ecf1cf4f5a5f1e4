/- The walk of header. -/
import Derived.Test.YtgdfgppgfkkncaaGreatDoorHt2
namespace Go.Proofs.YtgdfgppgfkkncaaGreatDoor
open Go.RowKit

theorem headerS_side (s : List UInt8) : headerS s = if (sideS 58 s).2.2 = true ∧ (sideS 58 s).1 ≠ [] ∧ (sideS 58 s).1.all tkB = true ∧ (sideS 58 s).2.1.all vaB = true then some ⟨smallS (sideS 58 s).1, trimS (sideS 58 s).2.1⟩ else none := by
  unfold headerS sideS
  split
  · rename_i h; rw [h]; simp
  · rename_i h; rw [h]; simp
theorem tk_ascii (c : UInt8) (h : tkB c = true) : c.toNat < 128 := by
  unfold tkB dgB upB loB at h
  simp only [Bool.or_eq_true, Bool.and_eq_true, decide_eq_true_eq] at h
  rcases h with ((h | h) | h) | h
  · omega
  · omega
  · omega
  · have hm : c ∈ signs := List.elem_iff.1 h
    have ha : signs.all (fun x => decide (x.toNat < 128)) = true := by decide
    simpa using List.all_eq_true.1 ha c hm
theorem lowerB_sm (c : UInt8) : Lib.lowerB c = smB c := by
  unfold Lib.lowerB smB
  have e : Lib.isUpperB c = upB c := by
    unfold Lib.isUpperB upB
    rw [Bool.eq_iff_iff]
    simp [UInt8.le_iff_toNat_le]
  rw [e]
theorem small_lower (l : List UInt8) (h : l.all tkB = true) : Lib.toLowerD l = smallS l := by
  rw [Lib.toLowerD_ascii l (fun b hb => tk_ascii b (List.all_eq_true.1 h b hb))]
  unfold Lib.toLowerA smallS
  rw [show Lib.lowerB = smB from funext lowerB_sm]
/-- What header answers. -/
def hdrD : Option Hdr → Hdr × Bool
  | none => (⟨[], []⟩, false)
  | some h => (h, true)
theorem hdrD_no {s : List UInt8} (h : ¬ ((sideS 58 s).2.2 = true ∧ (sideS 58 s).1 ≠ [] ∧ (sideS 58 s).1.all tkB = true ∧ (sideS 58 s).2.1.all vaB = true)) : hdrD (headerS s) = (⟨[], []⟩, false) := by rw [headerS_side, if_neg h]; rfl
theorem hdrD_yes {s : List UInt8} (h : (sideS 58 s).2.2 = true ∧ (sideS 58 s).1 ≠ [] ∧ (sideS 58 s).1.all tkB = true ∧ (sideS 58 s).2.1.all vaB = true) : hdrD (headerS s) = (⟨smallS (sideS 58 s).1, trimS (sideS 58 s).2.1⟩, true) := by rw [headerS_side, if_pos h]; rfl
theorem toLower_calls (w : World) (he : Env w) (l : List UInt8) (hl : l.length ≤ 1000000000) : Calls Tryz.prog 43 #[.string ⟨l.toArray⟩] w fun e w' => e = .returned (.string ⟨(Lib.toLowerD l).toArray⟩) ∧ Below w.heap.size w w' :=
  Tryz.strings_ToLower_any ⟨l.toArray⟩ w (by simp [ByteArray.size]; omega) he.case he.utf

set_option maxHeartbeats 4000000 in
set_option maxRecDepth 100000 in
theorem header_calls (w : World) (he : Env w) (s : List UInt8) (hs : s.length ≤ 1000000000) :
    Calls Tryz.prog 41 #[.string ⟨s.toArray⟩] w fun e w' =>
      e = .returned (.tuple #[.agg #[.string ⟨(hdrD (headerS s)).1.name.toArray⟩, .string ⟨(hdrD (headerS s)).1.value.toArray⟩], .bool (hdrD (headerS s)).2]) ∧ Below w.heap.size w w' := by
  have hb1 : Below w.heap.size w (w.alloc (Obj.cells #[Value.string { data := #[] }, Value.string { data := #[] }] 61)) := (Below.refl _ _).alloc (Nat.le_refl _) _
  have R1 := Lib.hid (RowAt.new w #[Value.string { data := #[] }, Value.string { data := #[] }] 61)
  have He1 := Lib.hid (he.below hb1)
  have hno : Hid (¬ ((sideS 58 s).2.2 = true ∧ (sideS 58 s).1 ≠ [] ∧ (sideS 58 s).1.all tkB = true ∧ (sideS 58 s).2.1.all vaB = true) → hdrD (headerS s) = (⟨[], []⟩, false)) := hdrD_no
  have hyes : Hid ((sideS 58 s).2.2 = true ∧ (sideS 58 s).1 ≠ [] ∧ (sideS 58 s).1.all tkB = true ∧ (sideS 58 s).2.1.all vaB = true → hdrD (headerS s) = (⟨smallS (sideS 58 s).1, trimS (sideS 58 s).2.1⟩, true)) := hdrD_yes
  have hsl := side_len 58 s
  clear he
  go_enter Tryz.func41, Tryz.ntmps41
  go_wp2_with fail
  generalize w.alloc (Obj.cells #[Value.string { data := #[] }, Value.string { data := #[] }] 61) = w1 at *
  refine (cut_calls w1 He1.out s 58 (by omega)).mono ?_
  rintro e w2 ⟨rfl, hb2⟩
  have R2 := Lib.hid (R1.out.below hb2)
  have He2 := Lib.hid (He1.out.below hb2)
  have hbel2 := hb1.trans (hb2.mono hb1.size)
  clear R1 He1 hb2 hb1
  generalize sideS 58 s = sd at *
  obtain ⟨n, v, ok⟩ := sd
  simp only at hsl
  dsimp only
  obtain ⟨ln, lv⟩ := hsl
  cases ok with
  | false =>
    have HD := Lib.hid (hno.out (fun h => Bool.false_ne_true h.1))
    have c0 := R2.out.cell 0 _ rfl
    have c1 := R2.out.cell 1 _ rfl
    have f0 := R2.out.free 0
    have f1 := R2.out.free 1
    clear hno hyes R2 He2
    go_wp2_with fail
    refine bodyPost_ret (v := .tuple #[.agg #[.string ⟨#[]⟩, .string ⟨#[]⟩], .bool false]) (by simp [results, Tryz.results41, go_sem, c0, c1]) rfl ?_
    rw [HD.out]
    exact ⟨rfl, by go_grown⟩
  | true =>
    cases n with
    | nil =>
      have HD := Lib.hid (hno.out (fun h => h.2.1 rfl))
      have c0 := R2.out.cell 0 _ rfl
      have c1 := R2.out.cell 1 _ rfl
      have f0 := R2.out.free 0
      have f1 := R2.out.free 1
      clear hno hyes R2 He2
      go_wp2_with fail
      refine bodyPost_ret (v := .tuple #[.agg #[.string ⟨#[]⟩, .string ⟨#[]⟩], .bool false]) (by simp [results, Tryz.results41, go_sem, c0, c1]) rfl ?_
      rw [HD.out]
      exact ⟨rfl, by go_grown⟩
    | cons a t =>
      go_wp2_with fail
      refine (only_calls 69 tkB tells_token _ (a :: t) (by unfold maxLen; omega)).mono ?_
      rintro e w3 ⟨rfl, hb3⟩
      have R3 := Lib.hid (R2.out.below hb3)
      have He3 := Lib.hid (He2.out.below hb3)
      have hbel3 := hbel2.trans (hb3.mono hbel2.size)
      clear R2 He2 hb3
      cases ht : (a :: t).all tkB with
      | false =>
        have HD := Lib.hid (hno.out (fun h => by rw [ht] at h; exact Bool.false_ne_true h.2.2.1))
        have c0 := R3.out.cell 0 _ rfl
        have c1 := R3.out.cell 1 _ rfl
        have f0 := R3.out.free 0
        have f1 := R3.out.free 1
        clear hno hyes R3 He3 ht
        go_wp2_with fail
        refine bodyPost_ret (v := .tuple #[.agg #[.string ⟨#[]⟩, .string ⟨#[]⟩], .bool false]) (by simp [results, Tryz.results41, go_sem, c0, c1]) rfl ?_
        rw [HD.out]
        exact ⟨rfl, by go_grown⟩
      | true =>
        have Ht := Lib.hid ht
        clear ht
        go_wp2_with fail
        refine (only_calls 70 vaB tells_valc _ v (by unfold maxLen; omega)).mono ?_
        rintro e w4 ⟨rfl, hb4⟩
        have R4 := Lib.hid (R3.out.below hb4)
        have He4 := Lib.hid (He3.out.below hb4)
        have hbel4 := hbel3.trans (hb4.mono hbel3.size)
        clear R3 He3 hb4
        cases hv : v.all vaB with
        | false =>
          have HD := Lib.hid (hno.out (fun h => by rw [hv] at h; exact Bool.false_ne_true h.2.2.2))
          have c0 := R4.out.cell 0 _ rfl
          have c1 := R4.out.cell 1 _ rfl
          have f0 := R4.out.free 0
          have f1 := R4.out.free 1
          clear hno hyes R4 He4 hv
          go_wp2_with fail
          refine bodyPost_ret (v := .tuple #[.agg #[.string ⟨#[]⟩, .string ⟨#[]⟩], .bool false]) (by simp [results, Tryz.results41, go_sem, c0, c1]) rfl ?_
          rw [HD.out]
          exact ⟨rfl, by go_grown⟩
        | true =>
          have HD := Lib.hid (hyes.out ⟨by first | rfl | trivial, by simp, Ht.out, hv⟩)
          have Hsm := Lib.hid (small_lower _ Ht.out)
          clear hno hyes hv
          go_wp2_with fail
          refine (toLower_calls _ He4.out (a :: t) (by omega)).mono ?_
          rintro e w5 ⟨rfl, hb5⟩
          rw [Hsm.out]
          have R5 := Lib.hid (R4.out.below hb5)
          have hbel5 := hbel4.trans (hb5.mono hbel4.size)
          clear R4 He4 hb5
          go_wp2_with fail
          refine (trim_calls _ v (by unfold maxLen; omega)).mono ?_
          rintro e w6 ⟨rfl, hb6⟩
          have R6 := Lib.hid (R5.out.below hb6)
          have hbel6 := hbel5.trans (hb6.mono hbel5.size)
          clear R5 hb6
          generalize smallS (a :: t) = sn at *
          generalize trimS v = tv at *
          have c0 := R6.out.cell 0 _ rfl
          have c1 := R6.out.cell 1 _ rfl
          have f0 := R6.out.free 0
          have f1 := R6.out.free 1
          have hR := (R6.out.set 0 (.string ⟨sn.toArray⟩) (by simp)).set 1 (.string ⟨tv.toArray⟩) (by simp)
          have HR := Lib.hid hR
          clear R6 hR
          go_wp2_with fail
          have d0 := HR.out.cell 0 _ rfl
          have d1 := HR.out.cell 1 _ rfl
          refine bodyPost_ret (v := .tuple #[.agg #[.string ⟨sn.toArray⟩, .string ⟨tv.toArray⟩], .bool true]) (by simp only [results, Tryz.results41]; simp [go_sem, d0, d1]) rfl ?_
          rw [HD.out]
          exact ⟨rfl, by go_grown⟩
end Go.Proofs.YtgdfgppgfkkncaaGreatDoor
