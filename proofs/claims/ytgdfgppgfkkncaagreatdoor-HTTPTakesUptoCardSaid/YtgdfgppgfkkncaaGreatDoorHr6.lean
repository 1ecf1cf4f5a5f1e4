/- The walk of the reference's header. Printed by gen_hr6.py. -/
import Derived.Test.YtgdfgppgfkkncaaGreatDoorHr3
import Derived.Test.YtgdfgppgfkkncaaGreatDoorHt3
namespace Go.Proofs.YtgdfgppgfkkncaaGreatDoor
open Go.RowKit

/-- The bytes ahead are of a name. -/
def NamS (s : List UInt8) (j : Nat) : Prop := (s.take j).all nc58 = true ∧ (s.take j).all tkB = true
theorem NamS.step {s : List UInt8} {j : Nat} (h : NamS s j) (hj : j < s.length) (h1 : s.getD j 0 ≠ 58) (h2 : tkB (s.getD j 0) = true) : NamS s (j + 1) := by
  have e : s.take (j + 1) = s.take j ++ [s.getD j 0] := by rw [List.take_add_one, List.getElem?_eq_getElem hj]; simp [List.getElem?_eq_getElem hj]
  unfold NamS
  rw [e, List.all_append, List.all_append, h.1, h.2]
  exact ⟨by simpa [nc58] using h1, by simpa using h2⟩
theorem split_at {s : List UInt8} {j : Nat} (hj : j < s.length) : s = s.take j ++ s.getD j 0 :: s.drop (j + 1) := by
  rw [← drop_at hj, List.take_append_drop]
theorem NamS.bad {s : List UInt8} {j : Nat} (h : NamS s j) (hj : j < s.length) (h1 : s.getD j 0 ≠ 58) (h2 : tkB (s.getD j 0) = false) : hdrD (headerS s) = (⟨[], []⟩, false) := by
  have e := headerS_bad (n := s.take j) (r := s.drop (j + 1)) h.1 (by simpa [nc58] using h1) h2
  rw [← split_at hj] at e
  rw [e]; rfl
theorem NamS.none {s : List UInt8} (h : NamS s s.length) : hdrD (headerS s) = (⟨[], []⟩, false) := by
  have h1 := h.1
  rw [List.take_length] at h1
  rw [headerS_none h1]; rfl
theorem NamS.val {s : List UInt8} {j : Nat} (h : NamS s j) (hj : j < s.length) (h1 : s.getD j 0 = 58) : hdrD (headerS s) = if 0 < j then (if (s.drop (j + 1)).all vaB = true then (⟨smallS (s.take j), trimS (s.drop (j + 1))⟩, true) else (⟨[], []⟩, false)) else (⟨[], []⟩, false) := by
  have e0 := split_at hj
  rw [h1] at e0
  cases j with
  | zero =>
    rw [if_neg (by omega)]
    rw [List.take_zero, List.nil_append] at e0
    rw [e0, headerS_empty]; rfl
  | succ j =>
    rw [if_pos (by omega)]
    have hn : s.take (j + 1) ≠ [] := by intro e; have := congrArg List.length e; rw [List.length_take, List.length_nil] at this; omega
    have e := headerS_val (n := s.take (j + 1)) (v := s.drop (j + 1 + 1)) h.1 h.2 hn
    rw [← e0] at e
    rw [e]
    by_cases hv : (s.drop (j + 1 + 1)).all vaB = true
    · rw [if_pos hv, if_pos hv]; rfl
    · rw [if_neg hv, if_neg hv]; rfl
/-- One of the first signs, or none yet. -/
def baseB (c : UInt8) : Bool := dgB c || loB c || upB c
def okS (c : UInt8) (m : Nat) : Bool := baseB c || (signs.take m).contains c
theorem okS_zero (c : UInt8) : okS c 0 = baseB c := by simp [okS]
theorem okS_all (c : UInt8) : okS c 15 = tkB c := by
  unfold okS tkB baseB
  rw [show signs.take 15 = signs from rfl]
  cases dgB c <;> cases loB c <;> cases upB c <;> cases signs.contains c <;> rfl
theorem okS_succ (c : UInt8) (m : Nat) (h : m < 15) : okS c (m + 1) = (okS c m || signs.getD m 0 == c) := by
  have e : signs.take (m + 1) = signs.take m ++ [signs.getD m 0] := by rw [List.take_add_one, List.getElem?_eq_getElem (by exact h)]; rw [List.getD_eq_getElem?_getD, List.getElem?_eq_getElem (show m < signs.length by exact h)]; rfl
  unfold okS
  rw [e, Bool.or_assoc]
  congr 1
  rw [Bool.eq_iff_iff]
  simp only [List.contains_eq_mem, List.mem_append, List.mem_singleton, decide_eq_true_eq, Bool.or_eq_true, beq_iff_eq]
  constructor
  · rintro (h | h)
    · exact .inl h
    · exact .inr h.symm
  · rintro (h | h)
    · exact .inl h
    · exact .inr h.symm
theorem vaB_cases (c : UInt8) : (decide ((c.toNat : Int) < 32) = true ∧ ((c.toNat : Int) != 9) = true ∧ vaB c = false) ∨ (decide ((c.toNat : Int) < 32) = true ∧ ((c.toNat : Int) != 9) = false ∧ ((c.toNat : Int) == 127) = false ∧ vaB c = true) ∨ (decide ((c.toNat : Int) < 32) = false ∧ ((c.toNat : Int) == 127) = true ∧ vaB c = false) ∨ (decide ((c.toNat : Int) < 32) = false ∧ ((c.toNat : Int) == 127) = false ∧ vaB c = true) := by
  have h1 := u8_eq c 9
  have h2 := u8_eq c 127
  rw [show ((9 : UInt8).toNat : Int) = 9 from rfl] at h1
  rw [show ((127 : UInt8).toNat : Int) = 127 from rfl] at h2
  have h3 : ((c.toNat : Int) != 9) = !decide (c = 9) := by rw [bne, h1]
  rw [h3, h2]
  unfold vaB
  by_cases e1 : c = 9
  · subst e1; exact .inr (.inl ⟨by decide, by decide, by decide, by decide⟩)
  · by_cases e2 : c = 127
    · subst e2; exact .inr (.inr (.inl ⟨by decide, by decide, by decide⟩))
    · by_cases e3 : c.toNat < 32
      · refine .inl ⟨by simpa using (by omega : (c.toNat : Int) < 32), by simp [e1], ?_⟩
        rw [show decide (32 ≤ c.toNat) = false by simpa using e3]
        simp [e1]
      · refine .inr (.inr (.inr ⟨by simpa using (by omega : (32 : Int) ≤ c.toNat), by simp [e2], ?_⟩))
        rw [show decide (32 ≤ c.toNat) = true by simpa using e3]
        simp [e2]
set_option maxHeartbeats 8000000 in
set_option maxRecDepth 100000 in
theorem headerR_calls (w : World) (s : List UInt8) (hl : s.length ≤ 1000000000) :
    Calls Tryz.prog 49 #[.string ⟨s.toArray⟩] w fun e w' =>
      e = .returned (.tuple #[.agg #[.string ⟨(hdrD (headerS s)).1.name.toArray⟩, .string ⟨(hdrD (headerS s)).1.value.toArray⟩], .bool (hdrD (headerS s)).2]) ∧ Below w.heap.size w w' := by
  have hb1 : Below w.heap.size w (w.alloc (Obj.cells #[Value.string { data := #[] }, Value.string { data := #[] }] 61)) := (Below.refl _ _).alloc (Nat.le_refl _) _
  have R1 := Lib.hid (RowAt.new w #[Value.string { data := #[] }, Value.string { data := #[] }] 61)
  have hB1 := Lib.hid hb1
  clear hb1
  go_enter Tryz.func49, Tryz.ntmps49
  go_wp2_with fail
  generalize w.alloc (Obj.cells #[Value.string { data := #[] }, Value.string { data := #[] }] 61) = w1 at *
  go_loopg [5] s.length (fun k i wr => ∃ j : Nat, k = s.length - j ∧ j ≤ s.length ∧ i = .int .i64 j ∧ NamS s j ∧ w1 = wr)
  case atStart => exact ⟨0, rfl, by omega, rfl, ⟨rfl, rfl⟩, rfl⟩
  case round =>
    obtain ⟨j, hk, hj, rfl, hn, rfl⟩ := hrel
    have Hk := Lib.hid hk
    have HN := Lib.hid hn
    clear hk hn
    rcases Nat.lt_or_ge j s.length with hlt | hge
    ·
      have hlt2 : (j : Int) < s.length := by omega
      have hi := byte_at s j hlt
      have hcl := (s.getD j 0).toNat_lt
      by_cases h58 : s.getD j 0 = 58
      ·
        have HV := Lib.hid (HN.out.val hlt h58)
        rw [h58] at hi
        clear h58 hcl HN Hk
        have hlt3 : ¬ (s.length : Int) ≤ j := by omega
        by_cases h0 : 0 < j
        ·
          rw [if_pos h0] at HV
          have h0b : ¬ (j : Int) < 1 := by omega
          go_wp2_with fail
          go_loopg [9] (s.length - (j + 1)) (fun k i wr => ∃ m : Nat, k = s.length - m ∧ j + 1 ≤ m ∧ m ≤ s.length ∧ i = .int .i64 m ∧ ((s.drop (j + 1)).take (m - (j + 1))).all vaB = true ∧ w1 = wr)
          case atStart => exact ⟨j + 1, rfl, by omega, by omega, by go_num, by rw [Nat.sub_self]; rfl, rfl⟩
          case round =>
            obtain ⟨m, hk, hjm, hm, rfl, hv, rfl⟩ := hrel
            have Hk := Lib.hid hk
            have HA := Lib.hid hv
            clear hk hv hi
            by_cases hml : m < s.length
            ·
              have hml2 : (m : Int) < s.length := by omega
              have hi := byte_at s m hml
              have hcl := (s.getD m 0).toNat_lt
              have e1 : (s.drop (j + 1)).take (m + 1 - (j + 1)) = (s.drop (j + 1)).take (m - (j + 1)) ++ [s.getD m 0] := by
                rw [show m + 1 - (j + 1) = (m - (j + 1)) + 1 by omega, List.take_add_one]
                congr 1
                rw [List.getElem?_drop, show j + 1 + (m - (j + 1)) = m by omega]
                simp [List.getD, List.getElem?_eq_getElem hml]
              have HG : Hid (vaB (s.getD m 0) = true → ((s.drop (j + 1)).take (m + 1 - (j + 1))).all vaB = true) := fun h => by rw [e1, List.all_append, HA.out]; simp only [List.all_cons, h, List.all_nil]; rfl
              have HX : Hid (vaB (s.getD m 0) = false → hdrD (headerS s) = (⟨[], []⟩, false)) := fun h => by
                rw [HV.out, if_neg]
                intro h9
                have h8 : ((s.drop (j + 1)).take (m + 1 - (j + 1))).all vaB = true := List.all_eq_true.2 (fun x hx => List.all_eq_true.1 h9 x (List.mem_of_mem_take hx))
                rw [e1, List.all_append, Bool.and_eq_true] at h8
                have := h8.2
                simp only [List.all_cons, h] at this
                cases this
              clear e1
              generalize s.getD m 0 = c at *
              rcases vaB_cases c with ⟨h1, h2, h3⟩ | ⟨h1, h2, h4, h3⟩ | ⟨h1, h4, h3⟩ | ⟨h1, h4, h3⟩
              ·
                have HD := Lib.hid (HX.out h3)
                clear h3 HX HG HA HV
                have c0 := R1.out.cell 0 _ rfl
                have c1 := R1.out.cell 1 _ rfl
                have f0 := R1.out.free 0
                have f1 := R1.out.free 1
                have hb1 := hB1.out
                go_wp2_with fail
                refine bodyPost_ret (v := .tuple #[.agg #[.string ⟨#[]⟩, .string ⟨#[]⟩], .bool false]) (by simp [results, Tryz.results49, go_sem, c0, c1]) rfl ?_
                rw [HD.out]
                exact ⟨rfl, by go_grown⟩
              ·
                have HG2 := Lib.hid (HG.out h3)
                clear h3 HX HG
                go_wp2_with fail
                go_roundg (s.length - (m + 1))
                case measure => have := Hk.out; omega
                case rel => exact ⟨m + 1, rfl, by omega, by omega, by go_num, HG2.out, rfl⟩
              ·
                have HD := Lib.hid (HX.out h3)
                clear h3 HX HG HA HV
                have c0 := R1.out.cell 0 _ rfl
                have c1 := R1.out.cell 1 _ rfl
                have f0 := R1.out.free 0
                have f1 := R1.out.free 1
                have hb1 := hB1.out
                go_wp2_with fail
                refine bodyPost_ret (v := .tuple #[.agg #[.string ⟨#[]⟩, .string ⟨#[]⟩], .bool false]) (by simp [results, Tryz.results49, go_sem, c0, c1]) rfl ?_
                rw [HD.out]
                exact ⟨rfl, by go_grown⟩
              ·
                have HG2 := Lib.hid (HG.out h3)
                clear h3 HX HG
                go_wp2_with fail
                go_roundg (s.length - (m + 1))
                case measure => have := Hk.out; omega
                case rel => exact ⟨m + 1, rfl, by omega, by omega, by go_num, HG2.out, rfl⟩
            ·
              obtain rfl : m = s.length := by omega
              have hall : (s.drop (j + 1)).all vaB = true := by have := HA.out; rw [List.take_of_length_le (by rw [List.length_drop]; omega)] at this; exact this
              rw [if_pos hall] at HV
              have hml2 : ¬ (s.length : Int) < s.length := by omega
              obtain ⟨n, hn⟩ : ∃ n, s.take j = n := ⟨_, rfl⟩
              obtain ⟨v, hv⟩ : ∃ v, s.drop (j + 1) = v := ⟨_, rfl⟩
              have hx1 : (⟨s.toArray⟩ : ByteArray).extract 0 j = ⟨n.toArray⟩ := by rw [Lib.extract_eq, ← hn]; simp
              have hx2 : (⟨s.toArray⟩ : ByteArray).extract (j + 1) s.length = ⟨v.toArray⟩ := by rw [Lib.extract_eq, ← hv, List.take_of_length_le (by simp)]
              have hs1 : (0 : Int) ≤ (j : Int) + 1 := by omega
              have hs2 : (j : Int) + 1 ≤ s.length := by omega
              have hnl : n.length ≤ 1000000000 := by rw [← hn, List.length_take]; omega
              have hvl : v.length ≤ 1000000000 := by rw [← hv, List.length_drop]; omega
              rw [hn, hv] at HV
              have hwr : IntKind.i64.wrap ((j : Int) + 1) = ((j + 1 : Nat) : Int) := by rw [show ((j : Int) + 1) = ((j + 1 : Nat) : Int) by omega]; exact IntWalk.i64_in _ (by omega)
              clear hn hv hall HA Hk
              go_upto_region 20 with fail
              have hS0 : (fun W : World => True) w1.drew := trivial
              have Rd := Lib.hid R1.out.drew
              have Bd := Lib.hid hB1.out.drew
              refine wp_region_held_drew (S := (fun _ : World => True)) (by kernel_rfl) hS0 (fun hHeld0 => ?_)
              generalize w1.drew = wd at *
              refine held_take (i := 0) (v := ?_) rfl (by kernel_rfl) (by kernel_rfl) (by kernel_rfl) (fun _ _ _ h => h) (by rfl) (fun wq hSq => ?_) hHeld0 ?_
              rotate_left
              · (try dsimp only at hSq); go_simp; try with_reducible rfl
              simp only [Act.put, List.setIfInBounds_toArray, List.set_cons_zero, List.set_cons_succ]
              refine held_take (i := 1) (v := ?_) rfl (by kernel_rfl) (by kernel_rfl) (by kernel_rfl) (fun _ _ _ h => h) (by rfl) (fun wq hSq => ?_) hHeld0 ?_
              rotate_left
              · (try dsimp only at hSq); go_simp; try with_reducible rfl
              simp only [Act.put, List.setIfInBounds_toArray, List.set_cons_zero, List.set_cons_succ]
              refine held_take (i := 2) (v := ?_) rfl (by kernel_rfl) (by kernel_rfl) (by kernel_rfl) (fun _ _ _ h => h) (by rfl) (fun wq hSq => ?_) hHeld0 ?_
              rotate_left
              · (try dsimp only at hSq); go_simp; try with_reducible rfl
              simp only [Act.put, List.setIfInBounds_toArray, List.set_cons_zero, List.set_cons_succ]
              refine held_take (i := 4) (v := ?_) rfl (by kernel_rfl) (by kernel_rfl) (by kernel_rfl) (fun _ _ _ h => h) (by rfl) (fun wq hSq => ?_) hHeld0 ?_
              rotate_left
              · (try dsimp only at hSq); go_simp; try with_reducible rfl
              simp only [Act.put, List.setIfInBounds_toArray, List.set_cons_zero, List.set_cons_succ]
              refine held_take (i := 5) (v := ?_) rfl (by kernel_rfl) (by kernel_rfl) (by kernel_rfl) (fun _ _ _ h => h) (by rfl) (fun wq hSq => ?_) hHeld0 ?_
              rotate_left
              · (try dsimp only at hSq); go_simp; try with_reducible rfl
              simp only [Act.put, List.setIfInBounds_toArray, List.set_cons_zero, List.set_cons_succ]
              refine held_take (i := 6) (v := ?_) rfl (by kernel_rfl) (by kernel_rfl) (by kernel_rfl) (fun _ _ _ h => h) (by rfl) (fun wq hSq => ?_) hHeld0 ?_
              rotate_left
              · (try dsimp only at hSq); go_simp; try with_reducible rfl
              simp only [Act.put, List.setIfInBounds_toArray, List.set_cons_zero, List.set_cons_succ]
              refine held_take (i := 7) (v := ?_) rfl (by kernel_rfl) (by kernel_rfl) (by kernel_rfl) (fun _ _ _ h => h) (by rfl) (fun wq hSq => ?_) hHeld0 ?_
              rotate_left
              · (try dsimp only at hSq); go_simp; try with_reducible rfl
              simp only [Act.put, List.setIfInBounds_toArray, List.set_cons_zero, List.set_cons_succ]
              refine held_step (i := 3) (by kernel_rfl) rfl (by rfl) (fun K hK => ?_)
              go_simp
              refine (smallR_calls wd n hnl).mono ?_
              rintro e9 w2 ⟨rfl, hb2⟩
              have R2 := Lib.hid (Rd.out.below hb2)
              have B2 := Lib.hid (Bd.out.trans (hb2.mono Bd.out.size))
              clear hb2
              dsimp only
              refine hK.out _ _ trivial (fun hHeld1 => ?_)
              clear hK K hHeld0
              refine held_step (i := 8) (by kernel_rfl) rfl (by rfl) (fun K hK => ?_)
              go_simp
              refine (trimR_calls w2 v hvl).mono ?_
              rintro e9 w3 ⟨rfl, rfl⟩
              dsimp only
              refine hK.out _ _ trivial (fun hHeld2 => ?_)
              clear hK K hHeld1
              refine held_take (i := 9) (v := ?_) rfl (by kernel_rfl) (by kernel_rfl) (by kernel_rfl) (fun _ _ _ h => h) (by rfl) (fun wq hSq => ?_) hHeld2 ?_
              rotate_left
              · (try dsimp only at hSq); go_simp; try with_reducible rfl
              simp only [Act.put, List.setIfInBounds_toArray, List.set_cons_zero, List.set_cons_succ]
              refine held_step (i := 10) (by kernel_rfl) rfl (by rfl) (fun K hK => ?_)
              go_simp
              have f0 := R2.out.free 0
              have f1 := R2.out.free 1
              have c0 := R2.out.cell 0 _ rfl
              have c1 := R2.out.cell 1 _ rfl
              go_simp
              have R3 := Lib.hid ((R2.out.set 0 (.string ⟨(smallS n).toArray⟩) (by simp)).set 1 (.string ⟨(trimS v).toArray⟩) (by simp))
              have B3 := Lib.hid ((B2.out.setCell (p := ⟨w.heap.size, 0, none⟩) (Nat.le_refl _) (.string ⟨(smallS n).toArray⟩)).setCell (p := ⟨w.heap.size, 1, none⟩) (Nat.le_refl _) (.string ⟨(trimS v).toArray⟩))
              refine hK.out _ _ trivial (fun hHeld3 => ?_)
              clear hK K hHeld2
              refine held_take (i := 11) (v := ?_) rfl (by kernel_rfl) (by kernel_rfl) (by kernel_rfl) (fun _ _ _ h => h) (by rfl) (fun wq hSq => ?_) hHeld3 ?_
              rotate_left
              · (try dsimp only at hSq); go_simp; try with_reducible rfl
              simp only [Act.put, List.setIfInBounds_toArray, List.set_cons_zero, List.set_cons_succ]
              refine wpAnyH_done (by kernel_rfl) ?_ _
              clear hHeld3
              have c0 := R3.out.cell 0 _ rfl
              have c1 := R3.out.cell 1 _ rfl
              go_wp2_with fail
              refine bodyPost_ret (v := .tuple #[.agg #[.string ⟨(smallS n).toArray⟩, .string ⟨(trimS v).toArray⟩], .bool true]) (by simp [results, Tryz.results49, go_sem, c0, c1]) rfl ?_
              rw [HV.out]
              exact ⟨rfl, B3.out⟩
        ·
          have HD : Hid (hdrD (headerS s) = (⟨[], []⟩, false)) := Lib.hid (by rw [HV.out, if_neg h0])
          obtain rfl : j = 0 := by omega
          clear HV
          have c0 := R1.out.cell 0 _ rfl
          have c1 := R1.out.cell 1 _ rfl
          have f0 := R1.out.free 0
          have f1 := R1.out.free 1
          have hb1 := hB1.out
          go_wp2_with fail
          refine bodyPost_ret (v := .tuple #[.agg #[.string ⟨#[]⟩, .string ⟨#[]⟩], .bool false]) (by simp [results, Tryz.results49, go_sem, c0, c1]) rfl ?_
          rw [HD.out]
          exact ⟨rfl, by go_grown⟩
      ·
        have h58b : ((s.getD j 0).toNat : Int) ≠ 58 := fun e => h58 (UInt8.toNat_inj.1 (by show (s.getD j 0).toNat = 58; omega))
        have h58c : (((s.getD j 0).toNat : Int) != 58) = true := by rw [bne_iff_ne]; exact h58b
        have HST : Hid (tkB (s.getD j 0) = true → NamS s (j + 1)) := fun h => HN.out.step hlt h58 h
        have HBD : Hid (tkB (s.getD j 0) = false → hdrD (headerS s) = (⟨[], []⟩, false)) := fun h => HN.out.bad hlt h58 h
        clear h58 h58b HN
        generalize s.getD j 0 = c at *
        go_upto_region 5 with fail
        go_cut [7] from 23 to 40 (fun u wc => u = .bool (okS c 0) ∧ w1 = wc)
        case first =>
          have HO : Hid (okS c 0 = (dgB c || (decide (97 ≤ c.toNat) && decide (c.toNat ≤ 122)) || (decide (65 ≤ c.toNat) && decide (c.toNat ≤ 90)))) := okS_zero c
          go_wp2_with fail
          refine (digitR_calls w1 c).mono ?_
          rintro e w2 ⟨rfl, rfl⟩
          generalize dgB c = d at *
          cases d with
          | true =>
            go_wp2_with fail
            go_meet
            exact ⟨by rw [HO.out]; rfl, rfl⟩
          | false =>
            by_cases h97 : 97 ≤ c.toNat
            ·
              have g97 : decide ((97 : Int) ≤ (c.toNat : Int)) = true := by simpa using (by omega : ((97 : Int) ≤ (c.toNat : Int)))
              by_cases h122 : c.toNat ≤ 122
              ·
                have g122 : decide ((c.toNat : Int) ≤ 122) = true := by simpa using (by omega : ((c.toNat : Int) ≤ 122))
                have HO2 : Hid (okS c 0 = true) := Lib.hid (by rw [HO.out]; simp [h97, h122])
                clear HO
                go_wp2_with fail
                go_meet
                exact ⟨by rw [HO2.out], rfl⟩
              ·
                have g122 : decide ((c.toNat : Int) ≤ 122) = false := by simpa using (by omega : ¬ ((c.toNat : Int) ≤ 122))
                have g65 : decide ((65 : Int) ≤ (c.toNat : Int)) = true := by simpa using (by omega : ((65 : Int) ≤ (c.toNat : Int)))
                have g90 : decide ((c.toNat : Int) ≤ 90) = false := by simpa using (by omega : ¬ ((c.toNat : Int) ≤ 90))
                have HO2 : Hid (okS c 0 = false) := Lib.hid (by rw [HO.out]; simp; omega)
                clear HO
                go_wp2_with fail
                go_meet
                exact ⟨by rw [HO2.out], rfl⟩
            ·
              have g97 : decide ((97 : Int) ≤ (c.toNat : Int)) = false := by simpa using (by omega : ¬ ((97 : Int) ≤ (c.toNat : Int)))
              by_cases h65 : 65 ≤ c.toNat
              ·
                have g65 : decide ((65 : Int) ≤ (c.toNat : Int)) = true := by simpa using (by omega : ((65 : Int) ≤ (c.toNat : Int)))
                by_cases h90 : c.toNat ≤ 90
                ·
                  have g90 : decide ((c.toNat : Int) ≤ 90) = true := by simpa using (by omega : ((c.toNat : Int) ≤ 90))
                  have HO2 : Hid (okS c 0 = true) := Lib.hid (by rw [HO.out]; simp [h65, h90])
                  clear HO
                  go_wp2_with fail
                  go_meet
                  exact ⟨by rw [HO2.out], rfl⟩
                ·
                  have g90 : decide ((c.toNat : Int) ≤ 90) = false := by simpa using (by omega : ¬ ((c.toNat : Int) ≤ 90))
                  have HO2 : Hid (okS c 0 = false) := Lib.hid (by rw [HO.out]; simp; omega)
                  clear HO
                  go_wp2_with fail
                  go_meet
                  exact ⟨by rw [HO2.out], rfl⟩
              ·
                have g65 : decide ((65 : Int) ≤ (c.toNat : Int)) = false := by simpa using (by omega : ¬ ((65 : Int) ≤ (c.toNat : Int)))
                have HO2 : Hid (okS c 0 = false) := Lib.hid (by rw [HO.out]; simp; omega)
                clear HO
                go_wp2_with fail
                go_meet
                exact ⟨by rw [HO2.out], rfl⟩
        case rest =>
          obtain ⟨rfl, rfl⟩ := hcut
          go_wp2_with fail
          go_loopg [7, 8] 15 (fun k u i wr => ∃ m : Nat, k = 15 - m ∧ m ≤ 15 ∧ u = .bool (okS c m) ∧ i = .int .i64 m ∧ w1 = wr)
          case atStart => exact ⟨0, rfl, by omega, rfl, rfl, rfl⟩
          case round =>
            obtain ⟨m, hk, hm, rfl, rfl, rfl⟩ := hrel
            have Hk2 := Lib.hid hk
            clear hk
            by_cases hml : m < 15
            ·
              have hml2 : (m : Int) < 15 := by omega
              have hi2 : (⟨#[33, 35, 36, 37, 38, 39, 42, 43, 45, 46, 94, 95, 96, 124, 126]⟩ : ByteArray)[m]'(by exact hml) = signs.getD m 0 := byte_at signs m hml
              have HO := Lib.hid (okS_succ c m hml)
              have hgl := (signs.getD m 0).toNat_lt
              have HE := Lib.hid (u8_eq (signs.getD m 0) c)
              have hbe : (signs.getD m 0 == c) = decide (signs.getD m 0 = c) := rfl
              rw [hbe] at HO
              clear hbe
              generalize signs.getD m 0 = g at *
              generalize okS c m = b at *
              cases b with
              | true =>
                have HO2 : Hid (okS c (m + 1) = true) := Lib.hid (by rw [HO.out]; rfl)
                clear HO HE
                go_wp2_with fail
                go_roundg (15 - (m + 1))
                case measure => have := Hk2.out; omega
                case rel => exact ⟨m + 1, rfl, by omega, by rw [HO2.out], by go_num, rfl⟩
              | false =>
                rw [Bool.false_or] at HO
                rw [← HE.out] at HO
                cases hgc : ((g.toNat : Int) == (c.toNat : Int)) with
                | true =>
                  rw [hgc] at HO
                  clear HE
                  go_wp2_with fail
                  go_roundg (15 - (m + 1))
                  case measure => have := Hk2.out; omega
                  case rel => exact ⟨m + 1, rfl, by omega, by rw [HO.out], by go_num, rfl⟩
                | false =>
                  rw [hgc] at HO
                  clear HE
                  go_wp2_with fail
                  go_roundg (15 - (m + 1))
                  case measure => have := Hk2.out; omega
                  case rel => exact ⟨m + 1, rfl, by omega, by rw [HO.out], by go_num, rfl⟩
            ·
              obtain rfl : m = 15 := by omega
              rw [okS_all]
              cases ht : tkB c with
              | true =>
                have HS := Lib.hid (HST.out ht)
                clear HST HBD ht
                go_wp2_with fail
                go_roundg (s.length - (j + 1))
                case measure => have := Hk.out; omega
                case rel => exact ⟨j + 1, rfl, by omega, by go_num, HS.out, rfl⟩
              | false =>
                have HD := Lib.hid (HBD.out ht)
                clear HST HBD ht
                have c0 := R1.out.cell 0 _ rfl
                have c1 := R1.out.cell 1 _ rfl
                have f0 := R1.out.free 0
                have f1 := R1.out.free 1
                have hb1 := hB1.out
                go_wp2_with fail
                refine bodyPost_ret (v := .tuple #[.agg #[.string ⟨#[]⟩, .string ⟨#[]⟩], .bool false]) (by simp [results, Tryz.results49, go_sem, c0, c1]) rfl ?_
                rw [HD.out]
                exact ⟨rfl, by go_grown⟩
    ·
      obtain rfl : j = s.length := by omega
      have HD := Lib.hid HN.out.none
      clear HN
      have hlt2 : ¬ (s.length : Int) < s.length := by omega
      by_cases h0 : (s.length : Int) < 1
      ·
        have c0 := R1.out.cell 0 _ rfl
        have c1 := R1.out.cell 1 _ rfl
        have f0 := R1.out.free 0
        have f1 := R1.out.free 1
        have hb1 := hB1.out
        go_wp2_with fail
        refine bodyPost_ret (v := .tuple #[.agg #[.string ⟨#[]⟩, .string ⟨#[]⟩], .bool false]) (by simp [results, Tryz.results49, go_sem, c0, c1]) rfl ?_
        rw [HD.out]
        exact ⟨rfl, by go_grown⟩
      ·
        have c0 := R1.out.cell 0 _ rfl
        have c1 := R1.out.cell 1 _ rfl
        have f0 := R1.out.free 0
        have f1 := R1.out.free 1
        have hb1 := hB1.out
        go_wp2_with fail
        refine bodyPost_ret (v := .tuple #[.agg #[.string ⟨#[]⟩, .string ⟨#[]⟩], .bool false]) (by simp [results, Tryz.results49, go_sem, c0, c1]) rfl ?_
        rw [HD.out]
        exact ⟨rfl, by go_grown⟩
end Go.Proofs.YtgdfgppgfkkncaaGreatDoor
