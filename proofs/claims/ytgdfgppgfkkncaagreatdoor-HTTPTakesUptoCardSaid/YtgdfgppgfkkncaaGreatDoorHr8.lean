/- The walk of the reference's Head. Printed by gen_hr8.py. -/
import Derived.Test.YtgdfgppgfkkncaaGreatDoorHr5
import Derived.Test.YtgdfgppgfkkncaaGreatDoorHr6
import Derived.Test.YtgdfgppgfkkncaaGreatDoorHr7
import Derived.Test.YtgdfgppgfkkncaaGreatDoorHrK
namespace Go.Proofs.YtgdfgppgfkkncaaGreatDoor
open Go.RowKit

/-- The result's cells, the request's, its headers. -/
structure HeI (w W : World) (N g : Nat) (m u q : List UInt8) (hv : Value) (hs : List Hdr) (cl : Bool) : Prop where
  r1 : RowAt W w.heap.size [.string ⟨#[]⟩, .string ⟨#[]⟩, .string ⟨#[]⟩, .slice none 0 0, .slice none 0 0, .bool false]
  r2 : RowAt W g [.string ⟨m.toArray⟩, .string ⟨u.toArray⟩, .string ⟨q.toArray⟩, hv, .slice none 0 0, .bool cl]
  row : HdrV W (g + 1) hv hs
  lo : w.heap.size < g
  len : ∀ d ∈ hs, d.name.length ≤ N ∧ d.value.length ≤ N
  b : Below w.heap.size w W
theorem HeI.below {w W W' : World} {N g : Nat} {m u q : List UInt8} {hv : Value} {hs : List Hdr} {cl : Bool} (h : HeI w W N g m u q hv hs cl) (hb : Below W.heap.size W W') : HeI w W' N g m u q hv hs cl :=
  ⟨h.r1.below hb, h.r2.below hb, ownsRow_apart (S := fun _ => False) h.row (.ofBelow hb) (fun _ _ h => h), h.lo, h.len, h.b.trans (hb.mono h.b.size)⟩
theorem HeI.append {w W w' : World} {N g : Nat} {m u q : List UInt8} {hv hv' : Value} {hs : List Hdr} {cl : Bool} {d : Hdr} {o : Obj} (h : HeI w W N g m u q hv hs cl) (hd : d.name.length ≤ N ∧ d.value.length ≤ N)
    (hr : HdrV w' (g + 1) hv' (hs ++ [d])) (hg : (W.alloc o).grownBy w' hv.ownBlock) : HeI w (w'.setCell ⟨g, 3, none⟩ hv') N g m u q hv' (hs ++ [d]) cl := by
  have hne : ∀ b, b ≤ g → some b ≠ hv.ownBlock := fun b hb e => by have := (World.ownsRow.lt h.row b e.symm).1; omega
  have hlo := h.lo
  refine ⟨((h.r1.alloc _).grown hg (hne _ (Nat.le_of_lt h.lo))).far (by show g ≠ w.heap.size; omega) _, ((h.r2.alloc _).grown hg (hne _ (Nat.le_refl _))).set 3 _ (by simp), ?_, h.lo, ?_, ?_⟩
  · exact ownsRow_apart (S := fun k => k = g) hr (Apart.set (S := fun k => k = g) _ rfl _) (fun k hk e => by have := (World.ownsRow.lt hr k hk).1; omega)
  · intro d' hd'
    rcases List.mem_append.1 hd' with h9 | h9
    · exact h.len _ h9
    · rw [List.mem_singleton.1 h9]; exact hd
  · exact (((h.b.alloc h.b.size _).grown hg (by have := h.b.size; rw [World.size_alloc]; omega) (fun k hk => by have := (World.ownsRow.lt h.row k hk).1; omega))).setCell (p := ⟨g, 3, none⟩) (Nat.le_of_lt h.lo) _
theorem HeI.close {w W : World} {N g : Nat} {m u q : List UInt8} {hv : Value} {hs : List Hdr} {cl : Bool} (h : HeI w W N g m u q hv hs cl) (c2 : Bool) : HeI w (W.setCell ⟨g, 5, none⟩ (.bool c2)) N g m u q hv hs c2 := by
  have hlo := h.lo
  exact ⟨h.r1.far (by show g ≠ w.heap.size; omega) _, h.r2.set 5 _ (by simp), ownsRow_apart (S := fun k => k = g) h.row (Apart.set (S := fun k => k = g) _ rfl _) (fun k hk e => by have := (World.ownsRow.lt h.row k hk).1; omega), h.lo, h.len, h.b.setCell (p := ⟨g, 5, none⟩) (Nat.le_of_lt h.lo) _⟩
theorem values_len {hs : List Hdr} {n v : List UInt8} {N : Nat} (h : ∀ d ∈ hs, d.name.length ≤ N ∧ d.value.length ≤ N) (hv : v ∈ valuesS hs n) : v.length ≤ N := by
  unfold valuesS at hv
  obtain ⟨d, hd, rfl⟩ := List.mem_map.1 hv
  exact (h d (List.mem_filter.1 hd).1).2
theorem errA_cut (e x : Int) (c : Bool) : ((decide (e = 0) && c) = true → errA e c x = x) ∧ ((decide (e = 0) && c) = false → errA e c x = e) := by
  unfold errA
  refine ⟨fun h => ?_, fun h => ?_⟩
  · rw [Bool.and_eq_true, decide_eq_true_eq] at h
    rw [if_pos h]
  · rw [if_neg]
    intro h9
    rw [decide_eq_true h9.1, h9.2] at h
    cases h
theorem lenP_nil {hs : List Hdr} (h : valuesS hs nLength = []) : lenP hs = (0, true) := by unfold lenP; rw [h]
theorem lenP_cons {hs : List Hdr} {v : List UInt8} {t : List (List UInt8)} (h : valuesS hs nLength = v :: t) : lenP hs = lengthR v := by unfold lenP; rw [h]
set_option maxHeartbeats 20000000 in
set_option maxRecDepth 100000 in
theorem headR_calls (w : World) (s : List UInt8) (hl : s.length ≤ 100000000) :
    Calls Tryz.prog 20 #[.string ⟨s.toArray⟩] w fun e w' => HeadOut s w.heap.size e w' ∧ Below w.heap.size w w' := by
  have hb1 : Below w.heap.size w (w.alloc (Obj.cells #[Value.string { data := #[] }, Value.string { data := #[] }, Value.string { data := #[] }, Value.slice none 0 0, Value.slice none 0 0, Value.bool false] 40)) := (Below.refl _ _).alloc (Nat.le_refl _) _
  have R1 := Lib.hid (RowAt.new w #[Value.string { data := #[] }, Value.string { data := #[] }, Value.string { data := #[] }, Value.slice none 0 0, Value.slice none 0 0, Value.bool false] 40)
  have HB1 := Lib.hid hb1
  clear hb1
  go_enter Tryz.func20, Tryz.ntmps20
  go_upto_region 1 with fail
  generalize w.alloc (Obj.cells #[Value.string { data := #[] }, Value.string { data := #[] }, Value.string { data := #[] }, Value.slice none 0 0, Value.slice none 0 0, Value.bool false] 40) = w1 at *
  by_cases hE : endS s = s.length
  rotate_left
  ·
    have hE2 : (endS s != (s.length : Int)) = true := by rw [bne_iff_ne]; exact hE
    have HN : Hid (headS s = (Req.zero, 0, 380)) := headS_no (fun h => hE (endS_whole.2 h))
    clear hE
    go_wp2_with fail
    refine (endR_calls w1 s (by omega)).mono ?_
    rintro e w2 ⟨rfl, rfl⟩
    have c0 := R1.out.cell 0 _ rfl
    have f0 := R1.out.free 0
    have c1 := R1.out.cell 1 _ rfl
    have f1 := R1.out.free 1
    have c2 := R1.out.cell 2 _ rfl
    have f2 := R1.out.free 2
    have c3 := R1.out.cell 3 _ rfl
    have f3 := R1.out.free 3
    have c4 := R1.out.cell 4 _ rfl
    have f4 := R1.out.free 4
    have c5 := R1.out.cell 5 _ rfl
    have f5 := R1.out.free 5
    have hb9 := HB1.out
    go_wp2_with fail
    refine bodyPost_ret (v := .tuple #[.agg #[.string ⟨#[]⟩, .string ⟨#[]⟩, .string ⟨#[]⟩, .slice none 0 0, .slice none 0 0, .bool false], .int .i64 0, .int .i64 380]) (by simp [results, Tryz.results20, go_sem, c0, c1, c2, c3, c4, c5]) rfl ?_
    have h9 := HN.out
    refine ⟨⟨.slice none 0 0, ?_, ?_⟩, by go_grown⟩
    · rw [h9]; exact World.ownsRow_nil _ _ _ _
    · rw [h9]; rfl
  have hE2 : (endS s != (s.length : Int)) = false := by rw [bne_eq_false_iff_eq]; exact hE
  have HE := Lib.hid hE
  clear hE
  by_cases h16 : 16384 < s.length
  ·
    have h16b : (16384 : Int) < s.length := by omega
    have HN : Hid (headS s = (Req.zero, 0, 382)) := by
      have h9 := endS_whole.1 HE.out
      show headS s = _
      unfold headS
      rw [if_pos h9, if_pos h16]
    go_wp2_with fail
    refine (endR_calls w1 s (by omega)).mono ?_
    rintro e w2 ⟨rfl, rfl⟩
    have c0 := R1.out.cell 0 _ rfl
    have f0 := R1.out.free 0
    have c1 := R1.out.cell 1 _ rfl
    have f1 := R1.out.free 1
    have c2 := R1.out.cell 2 _ rfl
    have f2 := R1.out.free 2
    have c3 := R1.out.cell 3 _ rfl
    have f3 := R1.out.free 3
    have c4 := R1.out.cell 4 _ rfl
    have f4 := R1.out.free 4
    have c5 := R1.out.cell 5 _ rfl
    have f5 := R1.out.free 5
    have hb9 := HB1.out
    go_wp2_with fail
    refine bodyPost_ret (v := .tuple #[.agg #[.string ⟨#[]⟩, .string ⟨#[]⟩, .string ⟨#[]⟩, .slice none 0 0, .slice none 0 0, .bool false], .int .i64 0, .int .i64 382]) (by simp [results, Tryz.results20, go_sem, c0, c1, c2, c3, c4, c5]) rfl ?_
    have h9 := HN.out
    refine ⟨⟨.slice none 0 0, ?_, ?_⟩, by go_grown⟩
    · rw [h9]; exact World.ownsRow_nil _ _ _ _
    · rw [h9]; rfl
  have h16b : ¬ (16384 : Int) < s.length := by omega
  go_wp2_with fail
  refine (endR_calls w1 s (by omega)).mono ?_
  rintro e w2 ⟨rfl, rfl⟩
  go_wp2_with fail
  clear hE2
  refine (linesR_calls w1 s hl HE.out).mono ?_
  rintro e w2 ⟨⟨lv, rfl, hlv⟩, hb2⟩
  obtain ⟨l0, r, hc⟩ : ∃ l0 r, cut2 13 10 [] (s.take (s.length - 4)) = l0 :: r := by
    cases h : cut2 13 10 [] (s.take (s.length - 4)) with
    | nil => exact absurd h (cut2_ne _ _ _ _)
    | cons a t => exact ⟨a, t, rfl⟩
  have hlen : ∀ x ∈ l0 :: r, x.length ≤ s.length := fun x hx => by rw [← hc] at hx; have := cut2_len 13 10 (s.take (s.length - 4)) [] x hx; simp at this; omega
  have hcnt : r.length ≤ s.length := by have := cut2_count 13 10 (s.take (s.length - 4)) []; rw [hc] at this; simp at this; omega
  rw [hc] at hlv
  obtain ⟨gl, cl0, rfl, hcl, hgl, hcell⟩ := hlv
  have R2 := Lib.hid (R1.out.below hb2)
  have HB2 := Lib.hid (HB1.out.trans (hb2.mono HB1.out.size))
  have HL : Hid (∀ W, Below w2.heap.size w2 W → ∀ j, j < (l0 :: r).length → W.cell? ⟨gl, j, none⟩ = some (.string ⟨((l0 :: r).getD j []).toArray⟩)) := fun W hW j hj => (hW.cell (p := ⟨gl, j, none⟩) hgl).trans (hcell j hj)
  have y0 := hcell 0 (by simp)
  rw [show (l0 :: r).getD 0 [] = l0 from rfl] at y0
  have hln : (l0 :: r).length = r.length + 1 := rfl
  have Hlen := Lib.hid hlen
  have HC := Lib.hid hc
  clear hlen hc hb2 hcell R1 HB1
  rw [hln] at hcl ⊢
  go_wp2_with fail
  have hl0 : l0.length ≤ 1000000000 := by have := Hlen.out l0 (List.mem_cons_self ..); omega
  refine (requestR_calls w2 l0 hl0).mono ?_
  rintro e w3 ⟨⟨m, u, q, rfl, hfq⟩, hb3⟩
  have Hfq := Lib.hid hfq
  obtain ⟨e1, he1⟩ : ∃ e1, (firstS l0).2 = e1 := ⟨_, rfl⟩
  rw [he1] at Hfq ⊢
  have He1 := Lib.hid he1
  clear hfq he1 hl0
  have HL3 : Hid (∀ W, Below w3.heap.size w3 W → ∀ j, j < (l0 :: r).length → W.cell? ⟨gl, j, none⟩ = some (.string ⟨((l0 :: r).getD j []).toArray⟩)) := fun W hW j hj => HL.out W (hb3.trans (hW.mono hb3.size)) j hj
  have R3 := Lib.hid (R2.out.below hb3)
  have HB3 := Lib.hid (HB2.out.trans (hb3.mono HB2.out.size))
  have hsz3 : w2.heap.size ≤ w3.heap.size := hb3.size
  have hlt2 := R2.out.lt
  clear hb3 HL R2 HB2 y0
  go_upto_region 10 with fail
  have hal : Below w3.heap.size w3 (w3.alloc (Obj.cells #[Value.string { data := m.toArray }, Value.string { data := u.toArray }, Value.string { data := q.toArray }, Value.slice none 0 0, Value.slice none 0 0, Value.bool false] 40)) := (Below.refl _ _).alloc (Nat.le_refl _) _
  have HI : Hid (HeI w (w3.alloc (Obj.cells #[Value.string { data := m.toArray }, Value.string { data := u.toArray }, Value.string { data := q.toArray }, Value.slice none 0 0, Value.slice none 0 0, Value.bool false] 40)) s.length w3.heap.size m u q (.slice none 0 0) [] false) := ⟨R3.out.below hal, RowAt.new w3 #[Value.string { data := m.toArray }, Value.string { data := u.toArray }, Value.string { data := q.toArray }, Value.slice none 0 0, Value.slice none 0 0, Value.bool false] 40, World.ownsRow_nil _ _ _ _, R3.out.lt, (fun d hd => by cases hd), HB3.out.trans (hal.mono HB3.out.size)⟩
  have HL4 : Hid (∀ W, Below w3.heap.size (w3.alloc (Obj.cells #[Value.string { data := m.toArray }, Value.string { data := u.toArray }, Value.string { data := q.toArray }, Value.slice none 0 0, Value.slice none 0 0, Value.bool false] 40)) W → ∀ j, j < (l0 :: r).length → W.cell? ⟨gl, j, none⟩ = some (.string ⟨((l0 :: r).getD j []).toArray⟩)) := fun W hW j hj => (hW.cell (p := ⟨gl, j, none⟩) (show gl < w3.heap.size by omega)).trans (HL3.out _ hal j hj)
  clear hal HL3 R3 HB3 hlt2 hsz3 hgl
  obtain ⟨g, hg⟩ : ∃ g, w3.heap.size = g := ⟨_, rfl⟩
  rw [hg] at HI HL4 ⊢
  generalize w3.alloc (Obj.cells #[Value.string { data := m.toArray }, Value.string { data := u.toArray }, Value.string { data := q.toArray }, Value.slice none 0 0, Value.slice none 0 0, Value.bool false] 40) = w4 at *
  clear hg
  go_cut [47] from 40 to 47 (fun u9 wc => u9 = .bool (decide (e1 = 0) && decide (100 < r.length)) ∧ w4 = wc)
  case first =>
    have hwl : IntKind.i64.wrap ((r.length + 1 : Nat) - 1 : Int) = (r.length : Int) := by rw [IntWalk.i64_in _ (by omega)]; omega
    by_cases h0 : e1 = 0
    ·
      subst h0
      by_cases h1 : 100 < r.length
      ·
        have g1 : (100 : Int) < r.length := by omega
        have HB : Hid ((decide ((0 : Int) = 0) && decide (100 < r.length)) = true) := Lib.hid (by simpa using h1)
        clear h1
        go_wp2_with fail
        go_meet
        exact ⟨by rw [HB.out], rfl⟩
      ·
        have g1 : ¬ (100 : Int) < r.length := by omega
        have HB : Hid ((decide ((0 : Int) = 0) && decide (100 < r.length)) = false) := Lib.hid (by simpa using h1)
        clear h1
        go_wp2_with fail
        go_meet
        exact ⟨by rw [HB.out], rfl⟩
    ·
      have g0 : (e1 == 0) = false := by rw [beq_eq_false_iff_ne]; exact h0
      have HB : Hid ((decide (e1 = 0) && decide (100 < r.length)) = false) := Lib.hid (by simp [h0])
      clear h0
      go_wp2_with fail
      go_meet
      exact ⟨by rw [HB.out], rfl⟩
  case rest =>
    obtain ⟨rfl, rfl⟩ := hcut
    obtain ⟨e2, he2⟩ : ∃ e2, errA e1 (decide (100 < r.length)) 382 = e2 := ⟨_, rfl⟩
    have He2 := Lib.hid he2
    have HTF := Lib.hid (errA_cut e1 382 (decide (100 < r.length)))
    rw [he2] at HTF
    clear he2
    generalize (decide (e1 = 0) && decide (100 < r.length)) = bb at *
    go_upto_if 47 with fail
    go_cut [8] from 40 to 47 (fun u9 wz => u9 = .int .i64 e2 ∧ w4 = wz)
    case first =>
      cases bb with
      | true =>
        go_wp2_with fail
        go_meet
        exact ⟨by rw [HTF.out.1 (by first | rfl | trivial)], rfl⟩
      | false =>
        go_wp2_with fail
        go_meet
        exact ⟨by rw [HTF.out.2 (by first | rfl | trivial)], rfl⟩
    case rest =>
      obtain ⟨rfl, rfl⟩ := hcut
      clear HTF
      go_wp2_with fail
      go_loopg [8, 9] r.length (fun k er ir wr => ∃ (j : Nat) (e : Int) (hs : List Hdr) (hv : Value), k = r.length - j ∧ er = .int .i64 e ∧ ir = .int .i64 ((j + 1 : Nat) : Int) ∧ LoopH r e2 j e hs ∧ HeI w wr s.length g m u q hv hs false ∧ Below g w4 wr)
      case atStart => exact ⟨0, e2, [], .slice none 0 0, rfl, rfl, rfl, LoopH.zero r e2, HI.out, Below.refl _ _⟩
      case round =>
        obtain ⟨j, e, hs, hv, hk, rfl, rfl, hlo, hi, hb⟩ := hrel
        have Hk := Lib.hid hk
        have HLO := Lib.hid hlo
        have HR := Lib.hid hi
        have HB4 := Lib.hid hb
        have hjr := hlo.1
        have hhj := hlo.2.1
        clear hk hlo hi hb HI
        go_upto_region 13 with fail
        go_cut [55] from 48 to 73 (fun u9 wc => u9 = .bool (decide (j < r.length) && decide (e = 0)) ∧ wr = wc)
        case first =>
          by_cases h0 : j < r.length
          ·
            have g0 : ((j + 1 : Nat) : Int) < ((r.length + 1 : Nat) : Int) := by omega
            by_cases h1 : e = 0
            ·
              have HB : Hid ((decide (j < r.length) && decide (e = 0)) = true) := Lib.hid (by simp [h0, h1])
              subst h1
              go_wp2_with fail
              go_meet
              exact ⟨by rw [HB.out], rfl⟩
            ·
              have HB : Hid ((decide (j < r.length) && decide (e = 0)) = false) := Lib.hid (by simp [h1])
              have g1 : (e == 0) = false := by rw [beq_eq_false_iff_ne]; exact h1
              clear h1
              go_wp2_with fail
              go_meet
              exact ⟨by rw [HB.out], rfl⟩
          ·
            have g0 : ¬ ((j + 1 : Nat) : Int) < ((r.length + 1 : Nat) : Int) := by omega
            have HB : Hid ((decide (j < r.length) && decide (e = 0)) = false) := Lib.hid (by simp [h0])
            go_wp2_with fail
            go_meet
            exact ⟨by rw [HB.out], rfl⟩
        case rest =>
          obtain ⟨rfl, rfl⟩ := hcut
          cases hst : (decide (j < r.length) && decide (e = 0)) with
          | true =>
            have hlt : j < r.length ∧ e = 0 := by simpa using hst
            obtain ⟨hlt, rfl⟩ := hlt
            clear hst
            have hj100 : hs.length ≤ 1000 := by
              have h9 := HLO.out
              have h8 := He2.out
              rcases h9.2.2 with ⟨_, h7, _⟩ | ⟨h7, _⟩ | ⟨_, h7, _⟩
              · rw [h7] at h8
                unfold errA at h8
                by_cases h100 : 100 < r.length
                · rw [decide_eq_true h100] at h8
                  by_cases h6 : e1 = 0
                  · rw [if_pos ⟨h6, rfl⟩] at h8; cases h8
                  · rw [if_neg (fun h5 => h6 h5.1)] at h8; exact absurd h8 h6
                · omega
              · exact absurd rfl h7
              · cases h7
            obtain ⟨ln, hlnr⟩ : ∃ ln, r.getD j [] = ln := ⟨_, rfl⟩
            have y1 := HL4.out wr HB4.out (j + 1) (by simp; omega)
            rw [show (l0 :: r).getD (j + 1) [] = r.getD j [] from by simp, hlnr] at y1
            have hlnl : ln.length ≤ s.length := Hlen.out ln (List.mem_cons_of_mem _ (by rw [← hlnr]; simp [hlt]))
            have Hln := Lib.hid hlnr
            clear hlnr
            have g0 : ((j + 1 : Nat) : Int) < ((r.length + 1 : Nat) : Int) := by omega
            go_wp2_with fail
            refine (headerR_calls wr ln (by omega)).mono ?_
            rintro e9 w5 ⟨rfl, hb5⟩
            have hdl := header_len ln
            generalize hgh : headerS ln = oh at hdl ⊢
            have Hgh := Lib.hid hgh
            clear hgh y1
            have H5 := Lib.hid (HR.out.below hb5)
            have HB5 := Lib.hid (HB4.out.trans (hb5.mono (Nat.le_of_lt HR.out.r2.lt)))
            clear hb5 HR HB4
            rcases oh with _ | d
            ·
              simp only [hdrD] at hdl ⊢
              have hb6 : Below w5.heap.size w5 (w5.alloc (Obj.cells #[Value.string { data := #[] }, Value.string { data := #[] }] 61)) := (Below.refl _ _).alloc (Nat.le_refl _) _
              have H6 := Lib.hid (H5.out.below hb6)
              have HB6 := Lib.hid (HB5.out.trans (hb6.mono (Nat.le_of_lt H5.out.r2.lt)))
              have R6 := RowAt.new w5 #[Value.string { data := #[] }, Value.string { data := #[] }] 61
              have k0 := R6.cell 0 _ rfl
              have k1 := R6.cell 1 _ rfl
              have kq := H6.out.r2.cell 3 _ rfl
              have fq := H6.out.r2.free 3
              clear hb6 R6 H5 HB5
              go_upto_region 18 with fail
              generalize (w5.alloc (Obj.cells #[Value.string { data := #[] }, Value.string { data := #[] }] 61)) = w6 at *
              go_wp2_with (at_builtin; go_must (refine wpList_append_hdr rfl _ _ rfl (g + 1) hv hs rfl H6.out.row ⟨[], []⟩ rfl ?hlen ?hbase ?_))
              case hlen => exact hj100
              case hbase => exact H6.out.r2.lt
              intro v' w7 hv' hg7
              have H8 := Lib.hid (HeI.append H6.out ⟨Nat.le_trans hdl.1 hlnl, Nat.le_trans hdl.2 hlnl⟩ hv' hg7)
              have kq7 := (((H6.out.r2.alloc _).grown hg7 (fun e => by have := (World.ownsRow.lt H6.out.row _ e.symm).1; omega)).cell 3 _ rfl)
              have fq7 := (((H6.out.r2.alloc _).grown hg7 (fun e => by have := (World.ownsRow.lt H6.out.row _ e.symm).1; omega)).free 3)
              have HB8 := Lib.hid ((HB6.out.alloc (Nat.le_of_lt H6.out.r2.lt) _).grown hg7 (by have := H6.out.r2.lt; rw [World.size_alloc]; omega) (fun k hk => by have := (World.ownsRow.lt H6.out.row k hk).1; omega))
              obtain ⟨pv, cv, rfl⟩ := HdrV.forms hv'
              simp only [List.length_append, List.length_singleton] at H8 ⊢
              clear hv' hg7 H6 HB6 k0 k1 kq fq
              go_wp2_with fail
              go_roundg (r.length - (j + 1))
              case measure => have := Hk.out; omega
              case rel => exact ⟨j + 1, 380, hs ++ [⟨[], []⟩], _, rfl, rfl, by go_num, LoopH.bad HLO.out hlt (by rw [Hln.out]; exact Hgh.out) ⟨[], []⟩, H8.out, HB8.out.setCell (p := ⟨g, 3, none⟩) (Nat.le_refl g) _⟩
            ·
              obtain ⟨nm, vl⟩ := d
              simp only [hdrD] at hdl ⊢
              have hb6 : Below w5.heap.size w5 (w5.alloc (Obj.cells #[Value.string { data := nm.toArray }, Value.string { data := vl.toArray }] 61)) := (Below.refl _ _).alloc (Nat.le_refl _) _
              have H6 := Lib.hid (H5.out.below hb6)
              have HB6 := Lib.hid (HB5.out.trans (hb6.mono (Nat.le_of_lt H5.out.r2.lt)))
              have R6 := RowAt.new w5 #[Value.string { data := nm.toArray }, Value.string { data := vl.toArray }] 61
              have k0 := R6.cell 0 _ rfl
              have k1 := R6.cell 1 _ rfl
              have kq := H6.out.r2.cell 3 _ rfl
              have fq := H6.out.r2.free 3
              clear hb6 R6 H5 HB5
              go_upto_region 18 with fail
              generalize (w5.alloc (Obj.cells #[Value.string { data := nm.toArray }, Value.string { data := vl.toArray }] 61)) = w6 at *
              go_wp2_with (at_builtin; go_must (refine wpList_append_hdr rfl _ _ rfl (g + 1) hv hs rfl H6.out.row ⟨nm, vl⟩ rfl ?hlen ?hbase ?_))
              case hlen => exact hj100
              case hbase => exact H6.out.r2.lt
              intro v' w7 hv' hg7
              have H8 := Lib.hid (HeI.append H6.out ⟨Nat.le_trans hdl.1 hlnl, Nat.le_trans hdl.2 hlnl⟩ hv' hg7)
              have kq7 := (((H6.out.r2.alloc _).grown hg7 (fun e => by have := (World.ownsRow.lt H6.out.row _ e.symm).1; omega)).cell 3 _ rfl)
              have fq7 := (((H6.out.r2.alloc _).grown hg7 (fun e => by have := (World.ownsRow.lt H6.out.row _ e.symm).1; omega)).free 3)
              have HB8 := Lib.hid ((HB6.out.alloc (Nat.le_of_lt H6.out.r2.lt) _).grown hg7 (by have := H6.out.r2.lt; rw [World.size_alloc]; omega) (fun k hk => by have := (World.ownsRow.lt H6.out.row k hk).1; omega))
              obtain ⟨pv, cv, rfl⟩ := HdrV.forms hv'
              simp only [List.length_append, List.length_singleton] at H8 ⊢
              clear hv' hg7 H6 HB6 k0 k1 kq fq
              go_wp2_with fail
              go_roundg (r.length - (j + 1))
              case measure => have := Hk.out; omega
              case rel => exact ⟨j + 1, 0, hs ++ [⟨nm, vl⟩], _, rfl, rfl, by go_num, LoopH.ok HLO.out hlt (by rw [Hln.out]; exact Hgh.out), H8.out, HB8.out.setCell (p := ⟨g, 3, none⟩) (Nat.le_refl g) _⟩
          | false =>
            have hend : j = r.length ∨ e ≠ 0 := by
              by_cases h9 : e = 0
              · left
                rw [decide_eq_true h9, Bool.and_true] at hst
                have : ¬ j < r.length := by simpa using hst
                omega
              · exact .inr h9
            obtain ⟨F1, F2⟩ := head_fin HE.out (by omega) HC.out (by rw [He1.out, He2.out]; exact HLO.out) hend
            have HF1 := Lib.hid F1
            have HF2 := Lib.hid F2
            clear F1 F2 hst hend HLO HE HC He2 Hlen HL4 HB4 Hk
            have hhl : hs.length ≤ 100000000 := by omega
            go_upto_region 19 with fail
            go_cut [82] from 74 to 82 (fun u9 wc => u9 = .bool (decide (e = 0) && decide (0 < (valuesS hs nCoding).length)) ∧ HeI w wc s.length g m u q hv hs false)
            case first =>
              by_cases h0 : e = 0
              ·
                subst h0
                have kq := HR.out.r2.cell 3 _ rfl
                go_wp2_with fail
                refine (valuesR_calls wr _ hs nCoding HR.out.row.s hhl).mono ?_
                rintro e9 w5 ⟨⟨uv, rfl, hv9⟩, hb9⟩
                have H5 := Lib.hid (HR.out.below hb9)
                obtain ⟨pw, cw, rfl, hpw⟩ := hv9.forms
                generalize (valuesS hs nCoding).length = nv at *
                clear hpw kq
                by_cases hd : 0 < nv
                ·
                  have g1 : (0 : Int) < nv := by omega
                  have HD := Lib.hid hd
                  clear hd
                  go_wp2_with fail
                  go_meet
                  exact ⟨by rw [decide_eq_true HD.out]; rfl, H5.out⟩
                ·
                  have g1 : ¬ (0 : Int) < nv := by omega
                  have HD := Lib.hid hd
                  clear hd
                  go_wp2_with fail
                  go_meet
                  exact ⟨by rw [decide_eq_false HD.out]; rfl, H5.out⟩
              ·
                have H0 := Lib.hid h0
                have g0 : (e == 0) = false := by rw [beq_eq_false_iff_ne]; exact h0
                clear h0
                go_wp2_with fail
                go_meet
                exact ⟨by rw [decide_eq_false H0.out]; rfl, HR.out⟩
            case rest =>
              obtain ⟨rfl, hcut⟩ := hcut
              have H7 := Lib.hid hcut
              obtain ⟨w7, hw7⟩ : ∃ w7, wc = w7 := ⟨_, rfl⟩
              rw [hw7] at H7 ⊢
              clear hcut hw7 HR
              obtain ⟨e4, he4⟩ : ∃ e4, e4S hs e = e4 := ⟨_, rfl⟩
              have He4 := Lib.hid he4
              have HTF := Lib.hid (errA_cut e 384 (decide (0 < (valuesS hs nCoding).length)))
              rw [show errA e (decide (0 < (valuesS hs nCoding).length)) 384 = e4 from he4] at HTF
              clear he4
              generalize (decide (e = 0) && decide (0 < (valuesS hs nCoding).length)) = bb at *
              go_upto_if 82 with fail
              go_cut [8] from 74 to 82 (fun u9 wz => u9 = .int .i64 e4 ∧ w7 = wz)
              case first =>
                cases bb with
                | true =>
                  go_wp2_with fail
                  go_meet
                  exact ⟨by rw [HTF.out.1 (by first | rfl | trivial)], rfl⟩
                | false =>
                  go_wp2_with fail
                  go_meet
                  exact ⟨by rw [HTF.out.2 (by first | rfl | trivial)], rfl⟩
              case rest =>
                obtain ⟨rfl, rfl⟩ := hcut
                clear HTF
                have kq := H7.out.r2.cell 3 _ rfl
                go_wp2_with fail
                refine (valuesR_calls w7 _ hs nLength H7.out.row.s hhl).mono ?_
                rintro e9 w8 ⟨⟨uv, rfl, hv9⟩, hb9⟩
                have H8 := Lib.hid (H7.out.below hb9)
                obtain ⟨pw, cw, rfl, hpw⟩ := hv9.forms
                have Hpw := Lib.hid hpw
                clear hb9 kq hv9 hpw H7
                obtain ⟨vs, hvs⟩ : ∃ vs, valuesS hs nLength = vs := ⟨_, rfl⟩
                rw [hvs] at Hpw ⊢
                have Hvs := Lib.hid hvs
                have hvl : vs.length ≤ hs.length := by rw [← hvs]; exact valuesS_le _ _
                obtain ⟨⟨n5, ok5⟩, hlp⟩ : ∃ lp, lenP hs = lp := ⟨_, rfl⟩
                have HLP := Lib.hid hlp
                rw [hlp] at HF2
                clear hvs hlp
                go_upto_if 88 with fail
                go_cut [12, 13] from 83 to 95 (fun a9 b9 wz => a9 = .int .i64 n5 ∧ b9 = .bool ok5 ∧ w8 = wz)
                case first =>
                  rcases vs with _ | ⟨v, t⟩
                  ·
                    have h9 := (lenP_nil Hvs.out).symm.trans HLP.out
                    injection h9 with h9 h8
                    subst h9 h8
                    go_wp2_with fail
                    go_meet
                    exact ⟨rfl, rfl, rfl⟩
                  ·
                    have h9 := (lenP_cons Hvs.out).symm.trans HLP.out
                    have hvl2 : v.length ≤ s.length := values_len H8.out.len (n := nLength) (by rw [Hvs.out]; exact List.mem_cons_self ..)
                    obtain ⟨gw, rfl, hcw⟩ := Hpw.out (by simp)
                    have y2 := hcw 0 (by simp)
                    rw [show (v :: t).getD 0 [] = v from rfl] at y2
                    have g1 : (0 : Int) < ((v :: t).length : Int) := by simp only [List.length_cons]; omega
                    clear hcw
                    go_wp2_with fail
                    refine (lengthR_calls w8 v (by omega)).mono ?_
                    rintro e9 w9 ⟨rfl, rfl⟩
                    rw [h9]
                    clear h9
                    go_wp2_with fail
                    go_meet
                    exact ⟨rfl, rfl, rfl⟩
                case rest =>
                  obtain ⟨rfl, rfl, rfl⟩ := hcut
                  have HBL : Hid (badLen hs = (!ok5 || (decide (1 < vs.length) || !decide ((valuesS hs nHost).length = 1)))) := by
                    show badLen hs = _
                    unfold badLen
                    rw [HLP.out, Hvs.out]
                  go_upto_region 25 with fail
                  go_cut [113] from 96 to 113 (fun u9 wz => u9 = .bool (decide (e4 = 0) && badLen hs) ∧ HeI w wz s.length g m u q hv hs false)
                  case first =>
                    by_cases h0 : e4 = 0
                    ·
                      subst h0
                      cases ok5 with
                      | false =>
                        go_wp2_with fail
                        go_meet
                        exact ⟨by rw [HBL.out]; rfl, H8.out⟩
                      | true =>
                        by_cases h1 : 1 < vs.length
                        ·
                          have g1 : (1 : Int) < vs.length := by omega
                          have H1 := Lib.hid h1
                          clear h1
                          go_wp2_with fail
                          go_meet
                          exact ⟨by rw [HBL.out, decide_eq_true H1.out]; rfl, H8.out⟩
                        ·
                          have g1 : ¬ (1 : Int) < vs.length := by omega
                          have H1 := Lib.hid h1
                          clear h1
                          have kq := H8.out.r2.cell 3 _ rfl
                          go_wp2_with fail
                          refine (valuesR_calls w8 _ hs nHost H8.out.row.s hhl).mono ?_
                          rintro e9 w5 ⟨⟨uv, rfl, hv9⟩, hb9⟩
                          have H5 := Lib.hid (H8.out.below hb9)
                          obtain ⟨pw, cw, rfl, hpw⟩ := hv9.forms
                          generalize (valuesS hs nHost).length = nv at *
                          clear hpw kq
                          by_cases hd : nv = 1
                          ·
                            subst hd
                            go_wp2_with fail
                            go_meet
                            exact ⟨by rw [HBL.out, decide_eq_false H1.out]; rfl, H5.out⟩
                          ·
                            have g2 : ((nv : Int) != 1) = true := by rw [bne_iff_ne]; omega
                            have HD := Lib.hid hd
                            clear hd
                            go_wp2_with fail
                            go_meet
                            exact ⟨by rw [HBL.out, decide_eq_false H1.out, decide_eq_false HD.out]; rfl, H5.out⟩
                    ·
                      have H0 := Lib.hid h0
                      have g0 : (e4 == 0) = false := by rw [beq_eq_false_iff_ne]; exact h0
                      clear h0
                      go_wp2_with fail
                      go_meet
                      exact ⟨by rw [decide_eq_false H0.out]; rfl, H8.out⟩
                  case rest =>
                    obtain ⟨rfl, hcut⟩ := hcut
                    have H9 := Lib.hid hcut
                    obtain ⟨w9, hw9⟩ : ∃ w9, wc = w9 := ⟨_, rfl⟩
                    rw [hw9] at H9 ⊢
                    clear hcut hw9 H8 HBL Hpw hvl Hvs
                    obtain ⟨e5, he5⟩ : ∃ e5, e5S hs e = e5 := ⟨_, rfl⟩
                    have He5 := Lib.hid he5
                    have HTF := Lib.hid (errA_cut e4 380 (badLen hs))
                    rw [show errA e4 (badLen hs) 380 = e5 from by rw [← he5]; unfold e5S; rw [He4.out]] at HTF
                    clear he5
                    generalize (decide (e4 = 0) && badLen hs) = bb at *
                    go_upto_if 113 with fail
                    go_cut [8] from 96 to 113 (fun u9 wz => u9 = .int .i64 e5 ∧ w9 = wz)
                    case first =>
                      cases bb with
                      | true =>
                        go_wp2_with fail
                        go_meet
                        exact ⟨by rw [HTF.out.1 (by first | rfl | trivial)], rfl⟩
                      | false =>
                        go_wp2_with fail
                        go_meet
                        exact ⟨by rw [HTF.out.2 (by first | rfl | trivial)], rfl⟩
                    case rest =>
                      obtain ⟨rfl, rfl⟩ := hcut
                      clear HTF
                      go_upto_region 27 with fail
                      go_cut [119] from 114 to 119 (fun u9 wz => u9 = .bool (decide (e5 = 0) && decide (1048576 < n5)) ∧ w9 = wz)
                      case first =>
                        by_cases h0 : e5 = 0
                        ·
                          subst h0
                          by_cases h1 : 1048576 < n5
                          ·
                            have H1 := Lib.hid h1
                            go_wp2_with fail
                            go_meet
                            exact ⟨by rw [decide_eq_true (show (1048576 : Int) < n5 by have := H1.out; omega)]; rfl, rfl⟩
                          ·
                            have H1 := Lib.hid h1
                            go_wp2_with fail
                            go_meet
                            exact ⟨by rw [decide_eq_false (show ¬ (1048576 : Int) < n5 by have := H1.out; omega)]; rfl, rfl⟩
                        ·
                          have H0 := Lib.hid h0
                          have g0 : (e5 == 0) = false := by rw [beq_eq_false_iff_ne]; exact h0
                          clear h0
                          go_wp2_with fail
                          go_meet
                          exact ⟨by rw [decide_eq_false H0.out]; rfl, rfl⟩
                      case rest =>
                        obtain ⟨rfl, rfl⟩ := hcut
                        obtain ⟨et, het⟩ : ∃ et, tailE hs e = et := ⟨_, rfl⟩
                        rw [het] at HF1 HF2
                        have HTF := Lib.hid (errA_cut e5 381 (decide (1048576 < n5)))
                        rw [show errA e5 (decide (1048576 < n5)) 381 = et from by rw [← het]; unfold tailE; rw [He5.out, HLP.out]] at HTF
                        clear het He5 He4
                        generalize (decide (e5 = 0) && decide (1048576 < n5)) = bb at *
                        go_upto_if 119 with fail
                        go_cut [8] from 114 to 119 (fun u9 wz => u9 = .int .i64 et ∧ w9 = wz)
                        case first =>
                          cases bb with
                          | true =>
                            go_wp2_with fail
                            go_meet
                            exact ⟨by rw [HTF.out.1 (by first | rfl | trivial)], rfl⟩
                          | false =>
                            go_wp2_with fail
                            go_meet
                            exact ⟨by rw [HTF.out.2 (by first | rfl | trivial)], rfl⟩
                        case rest =>
                          obtain ⟨rfl, rfl⟩ := hcut
                          clear HTF
                          by_cases het : et = 0
                          rotate_left
                          ·
                            have HN := Lib.hid (HF1.out het)
                            have g0 : (et != 0) = true := by rw [bne_iff_ne]; exact het
                            have R9 := Lib.hid H9.out.r1
                            have B9 := Lib.hid H9.out.b
                            clear HF1 HF2 het
                            have c0 := R9.out.cell 0 _ rfl
                            have f0 := R9.out.free 0
                            have c1 := R9.out.cell 1 _ rfl
                            have f1 := R9.out.free 1
                            have c2 := R9.out.cell 2 _ rfl
                            have f2 := R9.out.free 2
                            have c3 := R9.out.cell 3 _ rfl
                            have f3 := R9.out.free 3
                            have c4 := R9.out.cell 4 _ rfl
                            have f4 := R9.out.free 4
                            have c5 := R9.out.cell 5 _ rfl
                            have f5 := R9.out.free 5
                            have hb9 := B9.out
                            go_wp2_with fail
                            refine bodyPost_ret (v := .tuple #[.agg #[.string ⟨#[]⟩, .string ⟨#[]⟩, .string ⟨#[]⟩, .slice none 0 0, .slice none 0 0, .bool false], .int .i64 0, .int .i64 et]) (by simp [results, Tryz.results20, go_sem, c0, c1, c2, c3, c4, c5]) rfl ?_
                            have h9 := HN.out
                            refine ⟨⟨.slice none 0 0, ?_, ?_⟩, by go_grown⟩
                            · rw [h9]; exact World.ownsRow_nil _ _ _ _
                            · rw [h9]; rfl
                          subst het
                          obtain ⟨he10, hhd, hn5⟩ := HF2.out rfl
                          rw [He1.out] at he10
                          subst he10
                          have HFQ := Lib.hid (Hfq.out rfl)
                          have HHD := Lib.hid hhd
                          have Hn5 := Lib.hid hn5
                          clear HF1 HF2 hhd hn5 Hfq HLP He1
                          have kq := H9.out.r2.cell 3 _ rfl
                          go_wp2_with fail
                          refine (valuesR_calls w9 _ hs nConn H9.out.row.s hhl).mono ?_
                          rintro e9 w10 ⟨⟨uv, rfl, hv9⟩, hb9⟩
                          have H10 := Lib.hid (H9.out.below hb9)
                          have HSV := Lib.hid hv9
                          have hg9 := H9.out.r2.lt
                          obtain ⟨pw, cw, rfl, hpw⟩ := hv9.forms
                          clear hb9 kq hv9 H9 hpw
                          have hcvl : ∀ v ∈ valuesS hs nConn, v.length ≤ s.length := fun v hv => values_len H10.out.len hv
                          have hcn : (valuesS hs nConn).length ≤ hs.length := valuesS_le _ _
                          generalize valuesS hs nConn = cs at *
                          have Hcvl := Lib.hid hcvl
                          clear hcvl
                          have Hpw : Hid (0 < cs.length → ∃ gw, pw = some ⟨gw, 0, none⟩) := fun h => by
                            obtain ⟨p2, c3, e2, h2⟩ := HSV.out.forms
                            obtain ⟨gw, h3, _⟩ := h2 h
                            injection e2 with e3
                            exact ⟨gw, e3.trans h3⟩
                          go_wp2_with fail
                          go_loopg [16] cs.length (fun k ir wy => ∃ j : Nat, k = cs.length - j ∧ j ≤ cs.length ∧ ir = .int .i64 j ∧ HeI w wy s.length g m u q hv hs ((cs.take j).any closesS) ∧ StrV wy w9.heap.size (.slice pw cs.length cw) cs)
                          case atStart => exact ⟨0, rfl, Nat.zero_le _, rfl, by rw [List.take_zero]; exact H10.out, HSV.out⟩
                          case round =>
                            obtain ⟨j2, hk, hj2, rfl, hi, hsv⟩ := hrel
                            have Hk2 := Lib.hid hk
                            have HJ := Lib.hid hi
                            have HS := Lib.hid hsv
                            clear hk hi hsv H10 HSV
                            by_cases hlt2 : j2 < cs.length
                            ·
                              have g2 : (j2 : Int) < cs.length := by omega
                              have hany : (cs.take (j2 + 1)).any closesS = ((cs.take j2).any closesS || closesS (cs.getD j2 [])) := by
                                rw [List.take_add_one, List.getElem?_eq_getElem hlt2, List.any_append]
                                simp [hlt2]
                              have Hany := Lib.hid hany
                              clear hany
                              generalize hcl : (cs.take j2).any closesS = c2 at *
                              clear hcl
                              have kq := HJ.out.r2.cell 5 _ rfl
                              have fq := HJ.out.r2.free 5
                              cases c2 with
                              | true =>
                                have H11 := Lib.hid (HJ.out.close true)
                                have HS11 : Hid (StrV _ w9.heap.size (.slice pw cs.length cw) cs) := ownsRow_apart (S := fun k => k = g) HS.out (Apart.set (S := fun k => k = g) (a := ⟨g, 5, none⟩) _ rfl (.bool true)) (fun k hk e => by have := (World.ownsRow.lt HS.out k hk).1; omega)
                                go_wp2_with fail
                                go_roundg (cs.length - (j2 + 1))
                                case measure => have := Hk2.out; omega
                                case rel => exact ⟨j2 + 1, rfl, by omega, by go_num, by rw [Hany.out]; exact H11.out, HS11.out⟩
                              | false =>
                                obtain ⟨gw, rfl⟩ := Hpw.out (by omega)
                                obtain ⟨pw2, cw2, hsl, hpw⟩ := HS.out.forms
                                obtain ⟨gw2, hgw, hcw⟩ := hpw (by omega)
                                injection hsl with hs1 hs2 hs3
                                have hgg := hs1.trans hgw
                                injection hgg with hgg
                                injection hgg with hgg
                                subst hgg
                                have y2 := hcw j2 hlt2
                                have hcj : (cs.getD j2 []).length ≤ s.length := Hcvl.out _ (by simp [hlt2])
                                generalize cs.getD j2 [] = cj at *
                                clear hcw hpw hs1 hs2 hs3 hgw
                                go_wp2_with fail
                                refine (closesR_calls _ cj (by omega)).mono ?_
                                rintro e9 w11 ⟨rfl, hb11⟩
                                have H11 := Lib.hid ((HJ.out.below hb11).close (closesS cj))
                                have HS10 := HS.out.below hb11
                                have kq2 := (HJ.out.below hb11).r2.cell 5 _ rfl
                                have fq2 := (HJ.out.below hb11).r2.free 5
                                have HS11 := Lib.hid (show StrV (w11.setCell ⟨g, 5, none⟩ (.bool (closesS cj))) w9.heap.size _ cs from ownsRow_apart (S := fun k => k = g) HS10 (Apart.set (S := fun k => k = g) (a := ⟨g, 5, none⟩) _ rfl (.bool (closesS cj))) (fun k hk e => by have := (World.ownsRow.lt HS10 k hk).1; omega))
                                clear HS10 hb11 kq fq y2
                                go_wp2_with fail
                                go_roundg (cs.length - (j2 + 1))
                                case measure => have := Hk2.out; omega
                                case rel => exact ⟨j2 + 1, rfl, by omega, by go_num, by rw [Hany.out]; exact H11.out, HS11.out⟩
                            ·
                              obtain rfl : j2 = cs.length := by omega
                              have g2 : ¬ ((cs.length : Nat) : Int) < cs.length := by omega
                              rw [List.take_length] at HJ
                              obtain ⟨ph, ch, rfl⟩ := HJ.out.row.forms
                              have k0 := HJ.out.r2.cell 0 _ rfl
                              have k1 := HJ.out.r2.cell 1 _ rfl
                              have k2 := HJ.out.r2.cell 2 _ rfl
                              have k3 := HJ.out.r2.cell 3 _ rfl
                              have k4 := HJ.out.r2.cell 4 _ rfl
                              have k5 := HJ.out.r2.cell 5 _ rfl
                              have c0 := HJ.out.r1.cell 0 _ rfl
                              have f0 := HJ.out.r1.free 0
                              have c1 := HJ.out.r1.cell 1 _ rfl
                              have f1 := HJ.out.r1.free 1
                              have c2 := HJ.out.r1.cell 2 _ rfl
                              have f2 := HJ.out.r1.free 2
                              have c3 := HJ.out.r1.cell 3 _ rfl
                              have f3 := HJ.out.r1.free 3
                              have c4 := HJ.out.r1.cell 4 _ rfl
                              have f4 := HJ.out.r1.free 4
                              have c5 := HJ.out.r1.cell 5 _ rfl
                              have f5 := HJ.out.r1.free 5
                              have hlo := HJ.out.lo
                              go_wp2_with fail
                              refine bodyPost_ret (v := .tuple #[.agg #[.string ⟨m.toArray⟩, .string ⟨u.toArray⟩, .string ⟨q.toArray⟩, .slice ph hs.length ch, .slice none 0 0, .bool (cs.any closesS)], .int .i64 n5, .int .i64 0]) (by simp [results, Tryz.results20, go_sem, c0, c1, c2, c3, c4, c5]) rfl ?_
                              refine ⟨⟨.slice ph hs.length ch, ?_, ?_⟩, ?_⟩
                              · rw [HHD.out]
                                exact HdrV.le (B := g + 1) (ownsRow_apart (S := fun k => k = w.heap.size) HJ.out.row ((((((Apart.set (S := fun k => k = w.heap.size) _ rfl _).tset rfl _).tset rfl _).tset rfl _).tset rfl _).tset rfl _) (fun k hk e => by have := (World.ownsRow.lt HJ.out.row k hk).1; omega)) (by omega)
                              · rw [HHD.out, HFQ.out, Hn5.out]
                              · have hb9 := HJ.out.b
                                go_grown
end Go.Proofs.YtgdfgppgfkkncaaGreatDoor
