/- The walks of the reference's small and closes. -/
import Derived.Test.YtgdfgppgfkkncaaGreatDoorHtC
import Derived.Test.YtgdfgppgfkkncaaGreatDoorHr2
namespace Go.Proofs.YtgdfgppgfkkncaaGreatDoor
open Go.RowKit

theorem WaitV.set {w : World} {B g off n cap : Nat} {l : List UInt8} (h : WaitV w B (.slice (some ⟨g, off, none⟩) n cap) l) (j : Nat) (hj : j < l.length) (y : UInt8) (yi : Int) (hy : yi = (y.toNat : Int)) :
    WaitV (w.setCell ⟨g, off + j, none⟩ (.int .u8 yi)) B (.slice (some ⟨g, off, none⟩) n cap) (l.set j y) := by
  subst hy
  rcases h with ⟨h, _⟩ | ⟨g', off', cap', h1, h2, h3, h4, h5, h6, h7, h8⟩
  · cases h
  · cases h1
    refine .inr ⟨g, off, cap, by rw [List.length_set], h2, by simpa using h3, by rw [List.length_set]; exact h4, h5, fun k hk => ?_, fun k hk => ?_, fun k hk => by rw [World.frozen?_setCell]; exact h8 k hk⟩
    · rw [List.length_set] at hk
      by_cases e : k = j
      · subst e
        rw [World.cell?_setCell_same _ _ _ (h6 k hk)]
        simp [List.getD, hk]
      · rw [World.cell?_setCell_other _ _ _ _ (fun e2 => by injection e2 with _ e3; omega), h6 k hk]
        simp [List.getD, Ne.symm e]
    · by_cases e : k = j
      · subst e
        rw [World.cell?_setCell_same _ _ _ (h6 k hj)]; rfl
      · rw [World.cell?_setCell_other _ _ _ _ (fun e2 => by injection e2 with _ e3; omega)]
        exact h7 k hk
theorem WaitV.cellAt {w : World} {B g off n cap : Nat} {l : List UInt8} (h : WaitV w B (.slice (some ⟨g, off, none⟩) n cap) l) (j : Nat) (hj : j < l.length) : w.cell? ⟨g, off + j, none⟩ = some (.int .u8 ((l.getD j 0).toNat : Int)) ∧ w.frozen? ⟨g, off + j, none⟩ = false := by
  rcases h with ⟨h, _⟩ | ⟨g', off', cap', h1, h2, h3, h4, h5, h6, h7, h8⟩
  · cases h
  · cases h1
    exact ⟨h6 j hj, h8 j (by omega)⟩
/-- Between two rounds of small. -/
def smMid (s : List UInt8) (j : Nat) : List UInt8 := smallS (s.take j) ++ s.drop j
theorem smMid_len (s : List UInt8) (j : Nat) (h : j ≤ s.length) : (smMid s j).length = s.length := by simp [smMid, smallS]; omega
theorem smMid_at (s : List UInt8) (j : Nat) (h : j < s.length) : (smMid s j).getD j 0 = s.getD j 0 := by
  have hl : (smallS (s.take j)).length = j := by simp [smallS]; omega
  unfold smMid
  rw [List.getD_eq_getElem?_getD, List.getElem?_append_right (by omega), hl, Nat.sub_self, List.getElem?_drop, Nat.add_zero]
  rw [List.getD_eq_getElem?_getD]
theorem smMid_step (s : List UInt8) (j : Nat) (h : j < s.length) : smMid s (j + 1) = (smMid s j).set j (smB (s.getD j 0)) := by
  have hl : (smallS (s.take j)).length = j := by simp [smallS]; omega
  unfold smMid
  rw [smallS_take s j h, drop_at h, List.append_assoc, List.set_append_right _ _ (by omega), hl, Nat.sub_self]
  rfl
theorem smMid_keep (s : List UInt8) (j : Nat) (h : j < s.length) (hc : upB (s.getD j 0) = false) : smMid s (j + 1) = smMid s j := by
  rw [smMid_step s j h]
  have e : smB (s.getD j 0) = (smMid s j).getD j 0 := by rw [smMid_at s j h]; unfold smB; rw [hc]; rfl
  rw [e, List.getD_eq_getElem?_getD, List.getElem?_eq_getElem (by rw [smMid_len s j (by omega)]; exact h)]
  simp
set_option maxRecDepth 100000 in
set_option maxHeartbeats 2000000 in
theorem smallR_calls (w : World) (s : List UInt8) (hl : s.length ≤ 1000000000) : Calls Tryz.prog 84 #[.string ⟨s.toArray⟩] w fun e w' => e = .returned (.string ⟨(smallS s).toArray⟩) ∧ Below w.heap.size w w' := by
  obtain ⟨cap, hconv, hwv, hb⟩ := waitV_string w s hl
  have HW := Lib.hid hwv
  have HB := Lib.hid hb
  clear hwv hb
  go_enter Tryz.func84, Tryz.ntmps84
  go_wp2_with fail
  clear hconv
  generalize Lib.bytesWorld w 5 ⟨s.toArray⟩ = w1 at *
  generalize hg : w.heap.size = g at *
  have Hg := Lib.hid hg
  clear hg
  go_loopg [4] s.length (fun k i wr => ∃ j : Nat, k = s.length - j ∧ j ≤ s.length ∧ i = .int .i64 j ∧ WaitV wr g (.slice (some ⟨g, 0, none⟩) s.length cap) (smMid s j) ∧ Below g w wr)
  case atStart => exact ⟨0, rfl, by omega, rfl, HW.out, HB.out⟩
  case round =>
    obtain ⟨j, hk, hj, rfl, hv, hbr⟩ := hrel
    have Hk := Lib.hid hk
    have HV := Lib.hid hv
    have HBr := Lib.hid hbr
    clear hk hv hbr HW HB
    by_cases hlt : j < s.length
    · have hlt' : (j : Int) < s.length := by omega
      obtain ⟨hc, hf⟩ := HV.out.cellAt j (by rw [smMid_len s j hj]; exact hlt)
      rw [Nat.zero_add, smMid_at s j hlt] at hc
      rw [Nat.zero_add] at hf
      have hcl := (s.getD j 0).toNat_lt
      have HK : Hid (upB (s.getD j 0) = false → smMid s (j + 1) = smMid s j) := smMid_keep s j hlt
      have HS : Hid (smMid s (j + 1) = (smMid s j).set j (smB (s.getD j 0))) := smMid_step s j hlt
      generalize s.getD j 0 = c at *
      by_cases h1 : 65 ≤ c.toNat
      · have h1' : decide ((65 : Int) ≤ (c.toNat : Int)) = true := by simp; omega
        by_cases h2 : c.toNat ≤ 90
        · have h2' : decide ((c.toNat : Int) ≤ 90) = true := by simp; omega
          have hu : upB c = true := by unfold upB; simp; omega
          have hsm : smB c = c + 32 := by unfold smB; rw [hu]; rfl
          rw [hsm] at HS
          have hcn : ((c + 32).toNat : Int) = (c.toNat : Int) + 32 := by rw [UInt8.toNat_add]; show (((c.toNat + 32) % 256 : Nat) : Int) = _; omega
          have HN := Lib.hid hcn
          clear hu hsm hcn HK
          go_wp2_with fail
          go_roundg (s.length - (j + 1))
          case measure => have := Hk.out; omega
          case rel =>
            refine ⟨j + 1, rfl, by omega, by go_num, ?_, ?_⟩
            · rw [HS.out]
              have := HV.out.set j (by rw [smMid_len s j hj]; exact hlt) (c + 32) ((c.toNat : Int) + 32) HN.out.symm
              rw [Nat.zero_add] at this
              exact this
            · exact HBr.out.setCell (p := ⟨g, j, none⟩) (Nat.le_refl _) _
        · have h2' : decide ((c.toNat : Int) ≤ 90) = false := by simp; omega
          have HF := Lib.hid (HK.out (by unfold upB; simp; omega))
          clear HK HS
          go_wp2_with fail
          go_roundg (s.length - (j + 1))
          case measure => have := Hk.out; omega
          case rel => exact ⟨j + 1, rfl, by omega, by go_num, by rw [HF.out]; exact HV.out, HBr.out⟩
      · have h1' : decide ((65 : Int) ≤ (c.toNat : Int)) = false := by simp; omega
        have HF := Lib.hid (HK.out (by unfold upB; simp; omega))
        clear HK HS
        go_wp2_with fail
        go_roundg (s.length - (j + 1))
        case measure => have := Hk.out; omega
        case rel => exact ⟨j + 1, rfl, by omega, by go_num, by rw [HF.out]; exact HV.out, HBr.out⟩
    · obtain rfl : j = s.length := by omega
      have hst := HV.out.byts.string
      rw [show smMid s s.length = smallS s by simp [smMid]] at hst
      go_wp2_with fail
      go_ret
      exact ⟨rfl, by rw [Hg.out]; exact HBr.out⟩
set_option maxRecDepth 100000 in
set_option maxHeartbeats 2000000 in
theorem closesR_calls (w : World) (s : List UInt8) (hl : s.length ≤ 1000000000) : Calls Tryz.prog 52 #[.string ⟨s.toArray⟩] w fun e w' => e = .returned (.bool (closesS s)) ∧ Below w.heap.size w w' := by
  go_enter Tryz.func52, Tryz.ntmps52
  go_wp2_with fail
  go_loopg [3, 4] (s.length + 1) (fun k a i wr => ∃ b j : Nat, k = s.length + 1 - j ∧ j ≤ s.length + 1 ∧ a = .int .i64 b ∧ i = .int .i64 j ∧ (j ≤ s.length → CloS s b j) ∧ (j = s.length + 1 → closesS s = false) ∧ Below w.heap.size w wr)
  case atStart => exact ⟨0, 0, rfl, by omega, rfl, rfl, fun _ => CloS.zero s, fun h => by omega, Below.refl _ _⟩
  case round =>
    obtain ⟨b, j, hk, hj, rfl, rfl, hc, hf, hbr⟩ := hrel
    have Hk := Lib.hid hk
    have Hc := Lib.hid hc
    have HBr := Lib.hid hbr
    have Hf := Lib.hid hf
    clear hk hc hbr hf
    by_cases hlt : j ≤ s.length
    · have hlt' : (j : Int) ≤ s.length := by omega
      have HC := Lib.hid (Hc.out hlt)
      have hbj : b ≤ j := HC.out.1
      have hext : (⟨s.toArray⟩ : ByteArray).extract b j = ⟨((s.drop b).take (j - b)).toArray⟩ := by rw [Lib.extract_eq]
      obtain ⟨p, hp⟩ : ∃ p, (s.drop b).take (j - b) = p := ⟨_, rfl⟩
      rw [hp] at hext
      have hpl : p.length ≤ 1000000000 := by rw [← hp]; simp; omega
      have hpt : (trimS p).length ≤ 1000000000 := by
        refine Nat.le_trans ?_ hpl
        unfold trimS
        rw [List.length_reverse]
        refine Nat.le_trans (List.IsSuffix.length_le (List.dropWhile_suffix _)) ?_
        rw [List.length_reverse]
        exact List.IsSuffix.length_le (List.dropWhile_suffix _)
      have Hp := Lib.hid hp
      clear hp Hc Hf
      rcases Nat.lt_or_ge j s.length with hjl | hjl
      · have hjb : ((j : Int) == s.length) = false := by rw [beq_eq_false_iff_ne]; omega
        have hi := byte_at s j hjl
        have hcl := (s.getD j 0).toNat_lt
        by_cases hs44 : s.getD j 0 = 44
        · have h44 : (((s.getD j 0).toNat : Int) == 44) = true := by rw [hs44]; rfl
          have HS44 := Lib.hid hs44
          clear hs44
          generalize s.getD j 0 = c at hi h44 hcl
          go_wp2_with fail
          refine (trimR_calls _ p hpl).mono ?_
          rintro e w2 ⟨rfl, rfl⟩
          obtain ⟨t, ht⟩ : ∃ t, trimS p = t := ⟨_, rfl⟩
          rw [ht] at hpt ⊢
          have Ht := Lib.hid ht
          clear ht
          go_wp2_with fail
          refine (smallR_calls _ t hpt).mono ?_
          rintro e w2 ⟨rfl, hb2⟩
          have HB2 := Lib.hid (HBr.out.trans (hb2.mono HBr.out.size))
          obtain ⟨q, hq⟩ : ∃ q, smallS t = q := ⟨_, rfl⟩
          rw [hq]
          have Hq := Lib.hid hq
          clear hq hb2
          by_cases hcl : q = [99, 108, 111, 115, 101]
          · have hcl2 : (q == [99, 108, 111, 115, 101]) = true := by rw [hcl]; rfl
            have HF := Lib.hid (HC.out.yes (.inr HS44.out) (by rw [Hp.out, Ht.out, Hq.out, hcl]; rfl))
            clear hcl
            go_wp2_with fail
            go_ret
            exact ⟨by rw [HF.out]; rfl, HB2.out⟩
          · have hcl2 : (q == [99, 108, 111, 115, 101]) = false := by rw [beq_eq_false_iff_ne]; exact hcl
            have HF := Lib.hid (HC.out.hit hjl HS44.out (by rw [Hp.out, Ht.out, Hq.out]; exact hcl))
            clear hcl
            go_wp2_with fail
            go_roundg (s.length + 1 - (j + 1))
            case measure => have := Hk.out; omega
            case rel => exact ⟨j + 1, j + 1, rfl, by omega, by go_num, by go_num, fun _ => HF.out, fun h => by omega, HB2.out⟩
        · have h44 : (((s.getD j 0).toNat : Int) == 44) = false := by
            have h9 := u8_eq (s.getD j 0) 44
            rw [show ((44 : UInt8).toNat : Int) = 44 from rfl] at h9
            rw [h9]; simpa using hs44
          have HF := Lib.hid (HC.out.miss hjl hs44)
          clear hs44
          generalize s.getD j 0 = c at hi h44 hcl
          go_wp2_with fail
          go_roundg (s.length + 1 - (j + 1))
          case measure => have := Hk.out; omega
          case rel => exact ⟨b, j + 1, rfl, by omega, rfl, by go_num, fun _ => HF.out, fun h => by omega, HBr.out⟩
      · have hjb : ((j : Int) == s.length) = true := by rw [beq_iff_eq]; omega
        have Hje : Hid (j = s.length) := Lib.hid (by omega)
        go_wp2_with fail
        refine (trimR_calls _ p hpl).mono ?_
        rintro e w2 ⟨rfl, rfl⟩
        obtain ⟨t, ht⟩ : ∃ t, trimS p = t := ⟨_, rfl⟩
        rw [ht] at hpt ⊢
        have Ht := Lib.hid ht
        clear ht
        go_wp2_with fail
        refine (smallR_calls _ t hpt).mono ?_
        rintro e w2 ⟨rfl, hb2⟩
        have HB2 := Lib.hid (HBr.out.trans (hb2.mono HBr.out.size))
        obtain ⟨q, hq⟩ : ∃ q, smallS t = q := ⟨_, rfl⟩
        rw [hq]
        have Hq := Lib.hid hq
        clear hq hb2
        by_cases hcl : q = [99, 108, 111, 115, 101]
        · have hcl2 : (q == [99, 108, 111, 115, 101]) = true := by rw [hcl]; rfl
          have HF := Lib.hid (HC.out.yes (.inl Hje.out) (by rw [Hp.out, Ht.out, Hq.out, hcl]; rfl))
          clear hcl
          go_wp2_with fail
          go_ret
          exact ⟨by rw [HF.out]; rfl, HB2.out⟩
        · have hcl2 : (q == [99, 108, 111, 115, 101]) = false := by rw [beq_eq_false_iff_ne]; exact hcl
          have HF := Lib.hid (HC.out.no Hje.out (by rw [Hp.out, Ht.out, Hq.out]; exact hcl))
          clear hcl
          go_wp2_with fail
          go_roundg (s.length + 1 - (j + 1))
          case measure => have := Hk.out; omega
          case rel => exact ⟨j + 1, j + 1, rfl, by omega, by go_num, by go_num, fun h => by omega, fun _ => HF.out, HB2.out⟩
    · obtain rfl : j = s.length + 1 := by omega
      have HF := Lib.hid (Hf.out rfl)
      have hlt' : ¬ ((s.length + 1 : Nat) : Int) ≤ s.length := by omega
      go_wp2_with fail
      go_ret
      exact ⟨by rw [HF.out]; rfl, HBr.out⟩
end Go.Proofs.YtgdfgppgfkkncaaGreatDoor
