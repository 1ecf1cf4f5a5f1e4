/- The walk of the reference's lines. -/
import Derived.Test.YtgdfgppgfkkncaaGreatDoorHr4
namespace Go.Proofs.YtgdfgppgfkkncaaGreatDoor
open Go.RowKit

/-- v reads as these texts. -/
def StrS (w : World) (v : Value) (ps : List (List UInt8)) : Prop := ∃ g cap, v = .slice (some ⟨g, 0, none⟩) ps.length cap ∧ ps.length ≤ cap ∧ g < w.heap.size ∧ ∀ j, j < ps.length → w.cell? ⟨g, j, none⟩ = some (.string ⟨(ps.getD j []).toArray⟩)
theorem StrS.below {w w' : World} {v : Value} {ps : List (List UInt8)} (h : StrS w v ps) (hb : Below w.heap.size w w') : StrS w' v ps := by
  obtain ⟨g, cap, h1, h2, h3, h4⟩ := h
  exact ⟨g, cap, h1, h2, Nat.lt_of_lt_of_le h3 hb.size, fun j hj => (hb.cell (p := ⟨g, j, none⟩) h3).trans (h4 j hj)⟩
theorem StrV.parts {w : World} {B : Nat} {v : Value} {ps : List (List UInt8)} (h : StrV w B v ps) (h0 : ps ≠ []) : ∃ g cap, v = .slice (some ⟨g, 0, none⟩) ps.length cap ∧ ps.length ≤ cap ∧ cap ≤ maxLen ∧ g < w.heap.size ∧ ∀ j, j < ps.length → w.cell? ⟨g, j, none⟩ = some (.string ⟨(ps.getD j []).toArray⟩) := by
  have hlt := World.ownsRow.lt h
  rcases h.2 with ⟨rfl, h2⟩ | ⟨g, cap, cur, rfl, h1, hgg, h3, h4, h5, h6⟩
  · exact absurd (List.length_eq_zero_iff.1 h2) h0
  · refine ⟨g, cap, rfl, h3, h4, (hlt g rfl).2, fun j hj => ?_⟩
    rw [World.ownsRow.cellAt h j (by omega)]
    simp [strs, List.getD, hj]
theorem ne13 {c : UInt8} (h : c ≠ 13) : ((c.toNat : Int) == 13) = false := by
  rw [beq_eq_false_iff_ne]; intro e; exact h (UInt8.toNat_inj.1 (by show c.toNat = 13; omega))
theorem ne10 {c : UInt8} (h : c ≠ 10) : ((c.toNat : Int) == 10) = false := by
  rw [beq_eq_false_iff_ne]; intro e; exact h (UInt8.toNat_inj.1 (by show c.toNat = 10; omega))
set_option maxRecDepth 100000 in
set_option maxHeartbeats 4000000 in
theorem linesR_calls (w : World) (s : List UInt8) (hl : s.length ≤ 100000000) (hend : endS s = s.length) : Calls Tryz.prog 47 #[.string ⟨s.toArray⟩] w fun e w' => (∃ u, e = .returned u ∧ StrS w' u (cut2 13 10 [] (s.take (s.length - 4)))) ∧ Below w.heap.size w w' := by
  have HE := Lib.hid hend
  clear hend
  go_enter Tryz.func47, Tryz.ntmps47
  go_wp2_with fail
  go_loopg [3, 4, 5] s.length (fun k u a i wr => ∃ ps b j, k = s.length - j ∧ a = .int .i64 (b : Nat) ∧ i = .int .i64 (j : Nat) ∧ LinS s ps b j ∧ ps.length ≤ j ∧ StrV wr w.heap.size u ps ∧ Below w.heap.size w wr)
  case atStart => exact ⟨[], 0, 0, rfl, rfl, rfl, LinS.zero s, Nat.le_refl _, StrV.nil _ _, Below.refl _ _⟩
  case round =>
    obtain ⟨ps, b, j, hk, rfl, rfl, hi, hpl, hv, hb⟩ := hrel
    have Hk := Lib.hid hk
    have HV := Lib.hid hv
    have HB := Lib.hid hb
    have HI := Lib.hid hi
    have HL : Hid (ps.length ≤ j ∧ j ≤ s.length) := ⟨hpl, hi.2.1⟩
    have hbj : b ≤ j := hi.1
    have hjs : j ≤ s.length := hi.2.1
    clear hk hv hb hi hpl
    by_cases hlt : j + 1 < s.length
    · have hlt' : (j : Int) + 1 < s.length := by omega
      have hi0 := byte_at s j (by omega)
      have hi1 := byte_at s (j + 1) hlt
      have hc0 := (s.getD j 0).toNat_lt
      have hc1 := (s.getD (j + 1) 0).toNat_lt
      by_cases h13 : s.getD j 0 = 13
      · by_cases h10 : s.getD (j + 1) 0 = 10
        · have HC := Lib.hid (HI.out.hit hlt h13 h10)
          rw [h13] at hi0
          rw [h10] at hi1
          clear h13 h10 HI hc0 hc1
          have hext : (⟨s.toArray⟩ : ByteArray).extract b j = ⟨((s.drop b).take (j - b)).toArray⟩ := by rw [Lib.extract_eq]
          by_cases hgt : b < j
          · have hgt' : (b : Int) < j := by omega
            obtain ⟨pc, hpc⟩ : ∃ pc, (s.drop b).take (j - b) = pc := ⟨_, rfl⟩
            rw [hpc] at HC hext
            clear hpc
            obtain ⟨p, c, rfl, -⟩ := HV.out.forms
            go_wp2_with (at_builtin; go_must (refine wpList_append_str rfl _ _ rfl w.heap.size _ _ rfl HV.out pc _ rfl rfl ?hlen HB.out.size ?_))
            case hlen => have := HL.out; omega
            intro v' w' hv' hg
            have hb1 : Below w.heap.size w w' := (HB.out.alloc HB.out.size _).grown hg (by have := HB.out.size; simp; omega) (fun k hk => (World.ownsRow.lt HV.out k hk).1)
            have HV2 := Lib.hid hv'
            have HB2 := Lib.hid hb1
            clear hv' hg hb1
            go_wp2_with fail
            go_roundg (s.length - (j + 2))
            case measure => have := Hk.out; omega
            case rel => exact ⟨ps ++ [pc], j + 2, j + 2, rfl, by go_num, by go_num, HC.out, by rw [List.length_append, List.length_singleton]; have := HL.out; omega, HV2.out, HB2.out⟩
          · have hgt' : ¬ (b : Int) < j := by omega
            rw [show (s.drop b).take (j - b) = [] by rw [show j - b = 0 by omega]; rfl] at HC
            clear hext
            obtain ⟨p, c, rfl, -⟩ := HV.out.forms
            go_wp2_with (at_builtin; go_must (refine wpList_append_str rfl _ _ rfl w.heap.size _ _ rfl HV.out ([] : List UInt8) _ rfl rfl ?hlen HB.out.size ?_))
            case hlen => have := HL.out; omega
            intro v' w' hv' hg
            have hb1 : Below w.heap.size w w' := (HB.out.alloc HB.out.size _).grown hg (by have := HB.out.size; simp; omega) (fun k hk => (World.ownsRow.lt HV.out k hk).1)
            have HV2 := Lib.hid hv'
            have HB2 := Lib.hid hb1
            clear hv' hg hb1
            go_wp2_with fail
            go_roundg (s.length - (j + 2))
            case measure => have := Hk.out; omega
            case rel => exact ⟨ps ++ [([] : List UInt8)], j + 2, j + 2, rfl, by go_num, by go_num, HC.out, by rw [List.length_append, List.length_singleton]; have := HL.out; omega, HV2.out, HB2.out⟩
        · have h10' := ne10 h10
          rw [h13] at hi0
          have HC := Lib.hid (HI.out.miss hlt (fun h => h10 h.2))
          clear HI h13 h10 hc0
          generalize s.getD (j + 1) 0 = d at *
          go_wp2_with fail
          go_roundg (s.length - (j + 1))
          case measure => have := Hk.out; omega
          case rel => exact ⟨ps, b, j + 1, rfl, rfl, by go_num, HC.out, by have := HL.out; omega, HV.out, HB.out⟩
      · have h13' := ne13 h13
        have HC := Lib.hid (HI.out.miss hlt (fun h => h13 h.1))
        clear HI h13 hc1 hi1
        generalize s.getD j 0 = d at *
        go_wp2_with fail
        go_roundg (s.length - (j + 1))
        case measure => have := Hk.out; omega
        case rel => exact ⟨ps, b, j + 1, rfl, rfl, by go_num, HC.out, by have := HL.out; omega, HV.out, HB.out⟩
    · have hlt' : ¬ (j : Int) + 1 < s.length := by omega
      have ho := HI.out.out (by omega) HE.out
      have hps : ps ≠ [] := by rw [ho]; simp
      obtain ⟨g, cap, rfl, hcap, hmx, hg, hat⟩ := HV.out.parts hps
      have hpos : 1 ≤ ps.length := List.length_pos_iff.2 hps
      obtain ⟨qs, hq⟩ : ∃ qs, cut2 13 10 [] (s.take (s.length - 4)) = qs := ⟨_, rfl⟩
      rw [hq] at ho
      have Hq := Lib.hid hq
      have hlen : ps.length = qs.length + 1 := by rw [ho]; simp
      have HQ : Hid (∀ wr : World, (∀ j, j < ps.length → wr.cell? ⟨g, j, none⟩ = some (.string ⟨(ps.getD j []).toArray⟩)) → ∀ j, j < qs.length → wr.cell? ⟨g, j, none⟩ = some (.string ⟨(qs.getD j []).toArray⟩)) := fun wr h j hj => by
        rw [h j (by omega), ho, List.getD_eq_getElem?_getD, List.getElem?_append_left hj, List.getD_eq_getElem?_getD]
      have HA := Lib.hid (HQ.out _ hat)
      have Hg := Lib.hid hg
      have hwr : IntKind.i64.wrap ((ps.length : Int) - 1) = (qs.length : Int) := by rw [hlen]; rw [show (((qs.length + 1 : Nat) : Int) - 1) = (qs.length : Int) by omega]; exact IntWalk.i64_in _ (by unfold maxLen at hmx; omega)
      have hqc : qs.length ≤ cap := by omega
      unfold maxLen at hmx
      clear hps ho hq hat hg HQ HI
      go_wp2_with fail
      go_ret
      exact ⟨⟨_, rfl, by rw [Hq.out]; exact ⟨g, cap, rfl, by omega, Hg.out, HA.out⟩⟩, HB.out⟩
end Go.Proofs.YtgdfgppgfkkncaaGreatDoor
