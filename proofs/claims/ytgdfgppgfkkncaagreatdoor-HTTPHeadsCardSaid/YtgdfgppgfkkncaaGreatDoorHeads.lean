/- The walk of HTTPHeads: over any world. -/
import Derived.Test.YtgdfgppgfkkncaaGreatDoorHtSp
import Derived.Test.YtgdfgppgfkkncaaGreatDoorHr8
namespace Go.Proofs.YtgdfgppgfkkncaaGreatDoor
open Go.RowKit

def rqC (m u q : List UInt8) (hv : Value) (cl : Bool) : List Value := [.string ⟨m.toArray⟩, .string ⟨u.toArray⟩, .string ⟨q.toArray⟩, hv, .slice none 0 0, .bool cl]
set_option maxHeartbeats 8000000 in
set_option maxRecDepth 100000 in
theorem heads_calls (w : World) (he : Env w) (bv : Value) (b : List UInt8) (hx : BytS w bv b) :
    Calls Tryz.prog 4 #[bv] w fun e w' => e = .returned (.bool true) ∧ Below w.heap.size w w' := by
  obtain ⟨pb, cb, rfl, hcb, hmb, _⟩ := hx.open
  have He := Lib.hid he
  have HX := Lib.hid hx
  clear he hx
  unfold maxLen at hmb
  go_enter Tryz.func4, Tryz.ntmps4
  by_cases hbig : 40000 < b.length
  ·
    have hb2 : (40000 : Int) < b.length := by omega
    go_wp2_with fail
    refine (works_calls w He.out).mono ?_
    rintro e w2 ⟨rfl, hb⟩
    go_wp2_with fail
    go_ret
    exact ⟨rfl, hb⟩
  have hb2 : ¬ (40000 : Int) < b.length := by omega
  go_wp2_with (at_builtin; go_must (refine wpList_append_wait rfl _ _ rfl w.heap.size _ _ [] b rfl (waitV_empty w (0, 0)) rfl (HX.out.below ((Below.refl _ _).alloc (Nat.le_refl _) _)) (by simp; omega) (by simp) ?_))
  intro v2 w2 hv2 hg2 _
  try rw [List.nil_append] at hv2
  have hb2 : Below w.heap.size w w2 := ((Below.refl w.heap.size w).alloc (Nat.le_refl _) _).grown hg2 (by simp) (fun k hk => by cases hk; exact Nat.le_refl _)
  have HB2 := Lib.hid hb2
  have HV2 := Lib.hid hv2
  have hsz2 : w.heap.size ≤ w2.heap.size := hb2.size
  clear hv2 hg2 hb2
  go_wp2_with (at_builtin; go_must (refine wpList_append_wait rfl _ _ rfl w.heap.size _ _ b [165] rfl (HV2.out.below ((Below.refl _ _).alloc (Nat.le_refl _) _)) rfl (byts_one w2) (by simp; omega) (by rw [World.size_alloc]; omega) ?_))
  intro v3 w3 hv3 hg3 _
  have hb3 : Below w.heap.size w w3 := (HB2.out.alloc hsz2 _).grown hg3 (by rw [World.size_alloc]; omega) (fun k hk => (HV2.out.lt hk).1)
  have HB3 := Lib.hid hb3
  obtain ⟨pz, cz, rfl, hcz, hpz⟩ := hv3.form
  obtain ⟨gz, oz, rfl⟩ : ∃ gz oz, pz = some ⟨gz, oz, none⟩ := by
    rcases hv3 with ⟨h9, h8⟩ | ⟨gz, oz, cz, h9, _⟩
    · simp at h8
    · cases h9; exact ⟨gz, oz, rfl⟩
  simp only [List.length_append, List.length_singleton] at hcz hv3 ⊢
  obtain ⟨hmS, hsp, hcz2, hgB, hglt⟩ := SpareV.byts hv3
  have HM := Lib.hid hmS
  have HSP := Lib.hid hsp
  have Hglt := Lib.hid hglt
  clear hv3 hg3 hb3 hmS hsp hcz2 hgB hglt hpz HV2 HB2
  go_wp2_with fail
  obtain ⟨⟨⟨m, u, q, hs, bd, cl⟩, n, er⟩, hH⟩ : ∃ H, headS b = H := ⟨_, rfl⟩
  have hbd : bd = [] := by have := headS_body b; rw [hH] at this; exact this
  subst hbd
  have HH := Lib.hid hH
  clear hH
  refine (head_calls w3 (He.out.below HB3.out) _ b HM.out (by omega)).mono ?_
  rintro e4 w4 ⟨⟨hv1, hh1, rfl⟩, hb4⟩
  rw [HH.out] at hh1 ⊢
  dsimp only at hh1 ⊢
  obtain ⟨p1, c1, rfl⟩ := hh1.forms
  have h5 : Below w4.heap.size w4 (w4.alloc (Obj.cells #[Value.string ⟨m.toArray⟩, .string ⟨u.toArray⟩, .string ⟨q.toArray⟩, .slice p1 hs.length c1, .slice none 0 0, .bool cl] 40)) := (Below.refl _ _).alloc (Nat.le_refl _) _
  have HB5 := Lib.hid (HB3.out.trans ((hb4.mono HB3.out.size).trans (h5.mono (Nat.le_trans HB3.out.size hb4.size))))
  have R5 := Lib.hid (RowAt.new w4 #[Value.string ⟨m.toArray⟩, .string ⟨u.toArray⟩, .string ⟨q.toArray⟩, .slice p1 hs.length c1, .slice none 0 0, .bool cl] 40)
  have HS5 := Lib.hid (hh1.s.below h5)
  have HM5 := Lib.hid ((HM.out.below hb4).below h5)
  have HSP5 := Lib.hid ((h5.cell (p := ⟨gz, oz + b.length, none⟩) (Nat.lt_of_lt_of_le Hglt.out hb4.size)).trans ((hb4.cell (p := ⟨gz, oz + b.length, none⟩) Hglt.out).trans HSP.out))
  have Hglt5 := Lib.hid (Nat.lt_of_lt_of_le Hglt.out (Nat.le_trans hb4.size h5.size))
  have hcv1 := (HX.out.below HB5.out).string
  clear hh1 hb4 h5 HM HSP Hglt HB3
  go_upto_region 5 with fail
  obtain ⟨g4, hg4⟩ : ∃ x, w4.heap.size = x := ⟨_, rfl⟩
  rw [hg4] at R5 ⊢
  generalize (w4.alloc (Obj.cells #[Value.string ⟨m.toArray⟩, .string ⟨u.toArray⟩, .string ⟨q.toArray⟩, .slice p1 hs.length c1, .slice none 0 0, .bool cl] 40)) = w5 at *
  clear hg4
  go_wp2_with fail
  refine (headR_calls w5 b (by omega)).mono ?_
  rintro e4 w6 ⟨⟨hv2, hh2, rfl⟩, hb6⟩
  rw [HH.out] at hh2 ⊢
  dsimp only at hh2 ⊢
  obtain ⟨p2, c2, rfl⟩ := hh2.forms
  have h7 : Below w6.heap.size w6 (w6.alloc (Obj.cells #[Value.string ⟨m.toArray⟩, .string ⟨u.toArray⟩, .string ⟨q.toArray⟩, .slice p2 hs.length c2, .slice none 0 0, .bool cl] 40)) := (Below.refl _ _).alloc (Nat.le_refl _) _
  have h57 := hb6.trans (h7.mono hb6.size)
  have HB7 := Lib.hid (HB5.out.trans (h57.mono HB5.out.size))
  have R7 := Lib.hid (RowAt.new w6 #[Value.string ⟨m.toArray⟩, .string ⟨u.toArray⟩, .string ⟨q.toArray⟩, .slice p2 hs.length c2, .slice none 0 0, .bool cl] 40)
  have R57 := Lib.hid (R5.out.below h57)
  have HS57 := Lib.hid (HS5.out.below h57)
  have HS7 := Lib.hid (hh2.s.below h7)
  have hcv2 := (HX.out.below HB7.out).string
  have hcv3 := (HM5.out.below h57).string
  have hsp := (h57.cell (p := ⟨gz, oz + b.length, none⟩) Hglt5.out).trans HSP5.out
  clear hcv1 hh2 hb6 h7 h57 R5 HS5 HM5 HSP5 Hglt5 HB5
  go_upto_region 6 with fail
  obtain ⟨g6, hg6⟩ : ∃ x, w6.heap.size = x := ⟨_, rfl⟩
  rw [hg6] at R7 ⊢
  generalize (w6.alloc (Obj.cells #[Value.string ⟨m.toArray⟩, .string ⟨u.toArray⟩, .string ⟨q.toArray⟩, .slice p2 hs.length c2, .slice none 0 0, .bool cl] 40)) = w7 at *
  clear hg6
  have k0 := R57.out.cell 0 _ rfl
  have k1 := R57.out.cell 1 _ rfl
  have k2 := R57.out.cell 2 _ rfl
  have k3 := R57.out.cell 3 _ rfl
  have k4 := R57.out.cell 4 _ rfl
  have k5 := R57.out.cell 5 _ rfl
  have j0 := R7.out.cell 0 _ rfl
  have j1 := R7.out.cell 1 _ rfl
  have j2 := R7.out.cell 2 _ rfl
  have j3 := R7.out.cell 3 _ rfl
  have j4 := R7.out.cell 4 _ rfl
  have j5 := R7.out.cell 5 _ rfl
  obtain ⟨n1, hn1⟩ : ∃ n1, b.length + 1 = n1 := ⟨_, rfl⟩
  have hwr : IntKind.i64.wrap ((b.length : Int) + 1) = (n1 : Int) := by rw [← hn1]; exact IntWalk.i64_in _ (by omega)
  have hn2 : n1 ≤ cz := by omega
  have hn3 : b.length < n1 := by omega
  clear hn1 hcz
  go_wp2_with fail
  refine (same_true w7 _ _ ⟨m, u, q, hs, [], cl⟩ ⟨_, _, rfl, HS57.out, .inl ⟨rfl, rfl⟩⟩ ⟨_, _, rfl, HS7.out, .inl ⟨rfl, rfl⟩⟩).mono ?_
  rintro e8 w8 ⟨rfl, hb8⟩
  go_wp2_with fail
  refine (num_calls w8 er).mono ?_
  rintro e9 w9 ⟨rfl, rfl⟩
  go_wp2_with fail
  have HB8 := Lib.hid (HB7.out.trans (hb8.mono HB7.out.size))
  refine (works_calls w8 (He.out.below HB8.out)).mono ?_
  rintro e9 w9 ⟨rfl, hb9⟩
  go_wp2_with fail
  go_ret
  exact ⟨rfl, HB8.out.trans (hb9.mono HB8.out.size)⟩
end Go.Proofs.YtgdfgppgfkkncaaGreatDoor
