/- A connection's bytes are cut. -/
import Derived.Test.YtgdfgppgfkkncaaGreatDoorHtD
namespace Go.Proofs.YtgdfgppgfkkncaaGreatDoor
open Go.RowKit

theorem WaitV.cut0 {w : World} {B g off n cap : Nat} {l : List UInt8} (h : WaitV w B (.slice (some ⟨g, off, none⟩) n cap) l) (k : Nat) (hk : k ≤ l.length) (hc : cap = k) : WaitV w B (.slice (some ⟨g, off, none⟩) (n - k) 0) (l.drop k) := by
  rcases h with ⟨h, _⟩ | ⟨g, off, cap, h1, h2, h3, h4, h5, h6, h7, h8⟩
  · cases h
  · cases h1
    exact .inr ⟨g, off, 0, by rw [List.length_drop], h2, h3, by rw [List.length_drop]; omega, Nat.zero_le _, fun j hj => by rw [List.length_drop] at hj; omega, fun j hj => by omega, fun j hj => by omega⟩
theorem WaitV.at {w : World} {B g off n cap : Nat} {l : List UInt8} (h : WaitV w B (.slice (some ⟨g, off, none⟩) n cap) l) (j : Nat) (hj : j < l.length) : w.cell? ⟨g, off + j, none⟩ = some (.int .u8 ((l.getD j 0).toNat : Int)) := h.byts.at j hj
/-- What cut answers. -/
def CutOut (w : World) (C : Nat) (v : Value) (l : List UInt8) (d : Bool) (n : Nat) (e : Ending) (w' : World) : Prop :=
  ∃ bv v', e = .returned bv ∧ BytV w' w.heap.size bv (l.take n) ∧ ConnAt w' C v' (l.drop n) d ∧ Apart (fun k => k = C) w w' ∧ v'.ownBlock = v.ownBlock
set_option maxRecDepth 100000 in
theorem cutoff_calls (w : World) {C : Nat} {v : Value} {l : List UInt8} {d : Bool} (h : ConnAt w C v l d) (n : Nat) (hn : n ≤ l.length) (hlen : l.length ≤ 100000000) :
    Calls Tryz.prog 61 #[.pointer (some ⟨C, 0, none⟩), .int .i64 n] w (CutOut w C v l d n) := by
  have c0 := h.row.cell 0 _ rfl
  have H := Lib.hid h
  rcases h.wait with ⟨rfl, rfl⟩ | ⟨g, off, cap, rfl, hB, hg, hcap, hmax, hcell, hsp, hfr⟩
  · obtain rfl : n = 0 := by simpa using hn
    clear h
    go_enter Tryz.func61, Tryz.ntmps61
    go_wp2_with fail
    refine (same (Tryz.bytes_Clone_nil 0 0 w)).mono ?_
    rintro e w1 ⟨rfl, rfl⟩
    have f0 := H.out.row.free 0
    go_wp2_with fail
    go_ret
    exact ⟨_, .slice none 0 0, rfl, World.ownsRow_nil _ _ _ _, ⟨H.out.row.set 0 _ (by simp), WaitV.nil _ _⟩, Apart.set _ (S := fun k => k = C) rfl _, rfl⟩
  · have Hcell := Lib.hid hcell
    have hnc : n ≤ cap := by omega
    have hgC : ¬ g = C := by omega
    have hx : ((l.take n).map (fun c => (c.toNat : Int))).length = n := by simp [hn]
    have hcl := Tryz.bytes_Clone_at ⟨g, off, none⟩ n cap ((l.take n).map (fun c => (c.toNat : Int))) w hx (by omega) (fun i hi => by
      rw [addr_off rfl, hcell i (by omega)]
      simp [hi, List.getElem?_eq_getElem (show i < l.length by omega)])
    rw [← u8s_ints] at hcl
    have Hcl := Lib.hid hcl
    clear hcl hcell hsp hfr hx hB
    have hx2 : (l.take n).length = n := by simp [hn]
    have Hx2 := Lib.hid hx2
    have HC : Hid (C < w.heap.size) := h.row.lt
    have HgC := Lib.hid hgC
    clear hx2
    by_cases hc : cap = n
    · subst hc
      have Hn := Lib.hid hn
      have hll : l.length - cap = 0 := by omega
      have Hll := Lib.hid hll
      clear h
      go_enter Tryz.func61, Tryz.ntmps61
      go_wp2_with fail
      refine Hcl.out.mono ?_
      rintro e w1 ⟨bv, rfl, hbv, hne, hb1⟩
      have H1 := Lib.hid (H.out.below hb1)
      have Hb := Lib.hid hb1
      have Hbv : Hid (BytV w1 w.heap.size bv (l.take cap)) := by
        show w1.ownsRow _ _ _ _ (l.take cap).length _
        rw [Hx2.out]
        exact hbv
      replace c0 := H1.out.row.cell 0 _ rfl
      have f0 := H1.out.row.free 0
      clear hb1 hbv hne
      go_wp2_with fail
      go_ret
      refine ⟨_, .slice (some ⟨g, off, none⟩) 0 0, rfl, ownsRow_setCell_below Hbv.out HC.out _, ⟨?_, ?_⟩, (Apart.ofBelow Hb.out).trans (Apart.set _ (S := fun k => k = C) rfl _) (fun _ _ h => h), rfl⟩
      · exact H1.out.row.set 0 _ (by simp)
      · have h9 := H1.out.wait.cut0 cap Hn.out rfl
        rw [Hll.out] at h9
        exact h9.apart (S := fun k => k = C) (Apart.set (S := fun k => k = C) _ rfl _) (fun k hk e => by cases hk; exact HgC.out e)
    · have Hn := Lib.hid hn
      clear h
      go_enter Tryz.func61, Tryz.ntmps61
      go_wp2_with fail
      refine Hcl.out.mono ?_
      rintro e w1 ⟨bv, rfl, hbv, hne, hb1⟩
      have H1 := Lib.hid (H.out.below hb1)
      have Hb := Lib.hid hb1
      have Hbv : Hid (BytV w1 w.heap.size bv (l.take n)) := by
        show w1.ownsRow _ _ _ _ (l.take n).length _
        rw [Hx2.out]
        exact hbv
      replace c0 := H1.out.row.cell 0 _ rfl
      have f0 := H1.out.row.free 0
      clear hb1 hbv hne
      go_wp2_with fail
      go_ret
      refine ⟨_, .slice (some ⟨g, off + n, none⟩) (l.length - n) (cap - n), rfl, ownsRow_setCell_below Hbv.out HC.out _, ⟨?_, ?_⟩, (Apart.ofBelow Hb.out).trans (Apart.set _ (S := fun k => k = C) rfl _) (fun _ _ h => h), rfl⟩
      · exact H1.out.row.set 0 _ (by simp)
      · exact (H1.out.wait.drop n Hn.out).apart (S := fun k => k = C) (Apart.set (S := fun k => k = C) _ rfl _) (fun k hk e => by cases hk; exact HgC.out e)
end Go.Proofs.YtgdfgppgfkkncaaGreatDoor
