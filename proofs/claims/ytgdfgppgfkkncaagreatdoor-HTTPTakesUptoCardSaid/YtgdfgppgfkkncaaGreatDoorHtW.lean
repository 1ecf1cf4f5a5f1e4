/- The walk of works: a request in two pieces. -/
import Derived.Test.YtgdfgppgfkkncaaGreatDoorHtV
namespace Go.Proofs.YtgdfgppgfkkncaaGreatDoor
open Go.RowKit

def wp1 : List UInt8 := [80, 79, 83, 84, 32, 47, 97, 63, 98, 32, 72, 84, 84, 80, 47, 49, 46, 49, 13, 10, 72, 111, 115, 116, 58, 32, 120, 13, 10, 67, 111, 110, 116, 101, 110, 116, 45, 76, 101, 110, 103, 116, 104, 58, 32, 50, 13, 10, 13, 10, 104]
def wp2 : List UInt8 := [105, 71, 69, 84]
def wp3 : List UInt8 := [32, 120, 32, 72, 84, 84, 80, 47, 49, 46, 49, 13, 10, 13, 10]
def wq : Req := ⟨[80, 79, 83, 84], [47, 97], [98], [⟨nHost, [120]⟩, ⟨nLength, [50]⟩], [104, 105], false⟩
set_option maxRecDepth 100000
theorem take_wp1 : takeS [] false wp1 = ([], 0, wp1, false) := by kernel_rfl
theorem take_wp2 : takeS wp1 false wp2 = ([wq], 0, [71, 69, 84], false) := by kernel_rfl
theorem take_wp3 : takeS [71, 69, 84] false wp3 = ([], 380, [], true) := by kernel_rfl
theorem take_nil : takeS [] true [] = ([], 10, [], true) := rfl
theorem num_calls (w : World) (n : Int) : Calls Tryz.prog 15 #[.int .i64 n] w fun e w' => e = .returned (.int .i64 n) ∧ w = w' := by
  go_enter Tryz.func15, Tryz.ntmps15
  go_wp2
  go_ret
  exact ⟨rfl, rfl⟩
def statusS (e : Int) : Int := if e = 380 then 400 else if e = 381 then 413 else if e = 382 then 431 else if e = 383 then 505 else if e = 384 then 501 else 500
theorem status_calls (w : World) (n : Int) : Calls Tryz.prog 28 #[.int .i64 n] w fun e w' => e = .returned (.int .i64 (statusS n)) ∧ w = w' := by
  unfold statusS
  by_cases h1 : n = 380
  · subst h1
    go_enter Tryz.func28, Tryz.ntmps28
    go_wp2
    go_ret
    exact ⟨rfl, rfl⟩
  by_cases h2 : n = 381
  · subst h2
    go_enter Tryz.func28, Tryz.ntmps28
    go_wp2
    go_ret
    exact ⟨rfl, rfl⟩
  by_cases h3 : n = 382
  · subst h3
    go_enter Tryz.func28, Tryz.ntmps28
    go_wp2
    go_ret
    exact ⟨rfl, rfl⟩
  by_cases h4 : n = 383
  · subst h4
    go_enter Tryz.func28, Tryz.ntmps28
    go_wp2
    go_ret
    exact ⟨rfl, rfl⟩
  by_cases h5 : n = 384
  · subst h5
    go_enter Tryz.func28, Tryz.ntmps28
    go_wp2
    go_ret
    exact ⟨rfl, rfl⟩
  rw [if_neg h1, if_neg h2, if_neg h3, if_neg h4, if_neg h5]
  go_enter Tryz.func28, Tryz.ntmps28
  go_wp2
  go_ret
  exact ⟨rfl, rfl⟩
theorem BytV.byts {w : World} {B : Nat} {v : Value} {l : List UInt8} (h : BytV w B v l) : BytS w v l := (waitV_own h (Nat.le_refl _)).byts
/-- A literal of bytes, marked. -/
theorem byts_lit (w : World) (l : List UInt8) (cap : Nat) (fz : Nat × Nat) (hc : l.length ≤ cap) (hl : l.length ≤ maxLen) : BytS (w.alloc (.cells (u8s l).toArray 5 fz)) (.slice (some ⟨w.heap.size, 0, none⟩) l.length cap) l := by
  refine .inr ⟨w.heap.size, 0, cap, rfl, hc, hl, by simp, fun j hj => ?_⟩
  have h := cell_alloc_any w (u8s l).toArray 5 fz (0 + j)
  rw [World.cell?_drew] at h
  rw [h, Nat.zero_add]
  simpa using u8s_at l j hj
theorem ReqsV.cell {w : World} {B g n cap : Nat} {rs : List ReqR} (h : ReqsV w B (.slice (some ⟨g, 0, none⟩) n cap) rs) (hn : n = rs.length) (j : Nat) (hj : j < n * 6) : w.cell? ⟨g, j, none⟩ = (reqRow rs)[j]? := by
  subst hn
  exact World.ownsRow.cellAt h.row j hj
theorem ReqsV.form {w : World} {B : Nat} {v : Value} {rs : List ReqR} (h : ReqsV w B v rs) (hp : 0 < rs.length) : ∃ g cap, v = .slice (some ⟨g, 0, none⟩) rs.length cap := by
  rcases h.row.2 with ⟨hn, h2⟩ | ⟨g', cap, cur, e, _⟩
  · omega
  · exact ⟨g', cap, e⟩
end Go.Proofs.YtgdfgppgfkkncaaGreatDoor
