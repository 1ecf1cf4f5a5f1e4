/- The walk of the reference's Take. Printed by gen_hr9.py. -/
import Derived.Test.YtgdfgppgfkkncaaGreatDoorHr8
import Derived.Test.YtgdfgppgfkkncaaGreatDoorHtG
namespace Go.Proofs.YtgdfgppgfkkncaaGreatDoor
open Go.RowKit

theorem next_big {lw : List UInt8} (h : 16384 < endS lw) : nextS lw = .err 382 := by
  unfold endS at h
  rcases Lib.index_spec lw ends with ⟨h1, h2⟩ | ⟨i, h1, h2, h3, h4⟩
  · rw [if_pos h1] at h; omega
  · rw [if_neg (by omega), h1] at h
    have := index_low h1
    unfold nextS
    rw [if_pos (.inr (by omega)), if_pos (by omega)]
theorem next_none {lw : List UInt8} (h : endS lw < 0) : nextS lw = if 16384 ≤ lw.length then .err 382 else .more := by
  unfold endS at h
  rcases Lib.index_spec lw ends with ⟨h1, h2⟩ | ⟨i, h1, h2, h3, h4⟩
  · unfold nextS
    rw [if_pos (.inl h1)]
  · rw [if_neg (by omega), h1] at h; omega
theorem next_end {lw : List UInt8} {E : Nat} (h : endS lw = E) (hE : E ≤ 16384) : E ≤ lw.length ∧ nextS lw =
    if (headS (lw.take E)).2.2 ≠ 0 then .err (headS (lw.take E)).2.2
    else if lw.length - E < (headS (lw.take E)).2.1 then .more
    else .got { (headS (lw.take E)).1 with body := (lw.drop E).take (headS (lw.take E)).2.1 } (lw.drop (E + (headS (lw.take E)).2.1)) := by
  unfold endS at h
  rcases Lib.index_spec lw ends with ⟨h1, h2⟩ | ⟨i, h1, h2, h3, h4⟩
  · rw [if_pos h1] at h; omega
  · rw [if_neg (by omega), h1] at h
    have hl := index_low h1
    have e : (Lib.index lw ends).toNat + 4 = E := by omega
    refine ⟨by omega, ?_⟩
    unfold nextS
    rw [if_neg (by omega)]
    simp only [e]
/-- Between two rounds of Take. -/
structure TRI (w wr : World) (l1 : List UInt8) (lv : Value) (rs : List ReqR) (lw : List UInt8) : Prop where
  r2 : RowAt wr w.heap.size [.string ⟨lw.toArray⟩, .bool false]
  r4 : RowAt wr (w.heap.size + 1) [.string ⟨#[]⟩, .bool false]
  reqs : ReqsV wr (w.heap.size + 2) lv rs
  b : Below w.heap.size w wr
  run : runA l1 = (rs.map (·.1) ++ (runA lw).1, (runA lw).2)
  len : rs.length + lw.length ≤ l1.length
theorem TRI.below {w wr w' : World} {l1 : List UInt8} {lv : Value} {rs : List ReqR} {lw : List UInt8} (h : TRI w wr l1 lv rs lw) (hb : Below wr.heap.size wr w') : TRI w w' l1 lv rs lw :=
  ⟨h.r2.below hb, h.r4.below hb, h.reqs.below hb, h.b.trans (hb.mono h.b.size), h.run, h.len⟩
theorem ReqsV.set {w : World} {B : Nat} {v : Value} {rs : List ReqR} (h : ReqsV w B v rs) {a : Addr} (ha : a.block < B) (x : Value) : ReqsV (w.setCell a x) B v rs :=
  h.apart (S := fun k => k = a.block) (Apart.set (S := fun k => k = a.block) w rfl x) (fun k hk _ e => by omega)
/-- What Take answers. -/
def TakeR (w : World) (l : List UInt8) (d : Bool) (m : List UInt8) (e : Ending) (w' : World) : Prop :=
  ∃ v rs, e = .returned (.tuple #[.agg #[.string ⟨(takeS l d m).2.2.1.toArray⟩, .bool (takeS l d m).2.2.2], v, .int .i64 (takeS l d m).2.1]) ∧ ReqsV w' w.heap.size v rs ∧ rs.map (·.1) = (takeS l d m).1 ∧ Below w.heap.size w w'
set_option maxHeartbeats 20000000 in
set_option maxRecDepth 100000 in
theorem takeG_calls (w : World) (l m : List UInt8) (d : Bool) (x : Value) (hx : BytG w x m) (hlen : l.length + m.length ≤ 100000000) :
    Calls Tryz.prog 13 #[.agg #[.string ⟨l.toArray⟩, .bool d], x] w (TakeR w l d m) := by
  obtain ⟨px, cx, rfl, hcx, hmx, _⟩ := hx.open
  have hb1 : Below w.heap.size w ((w.alloc (Obj.cells #[Value.string { data := l.toArray }, Value.bool d] 28)).alloc (Obj.cells #[Value.string { data := #[] }, Value.bool false] 28)) := ((Below.refl _ _).alloc (Nat.le_refl _) _).alloc (by simp) _
  have R2 := Lib.hid ((RowAt.new w #[Value.string { data := l.toArray }, Value.bool d] 28).alloc (Obj.cells #[Value.string { data := #[] }, Value.bool false] 28))
  have R4 := Lib.hid (RowAt.new (w.alloc (Obj.cells #[Value.string { data := l.toArray }, Value.bool d] 28)) #[Value.string { data := #[] }, Value.bool false] 28)
  have hcv := (hx.below hb1).string
  have HB1 := Lib.hid hb1
  rw [World.size_alloc] at R4
  have k0 := R2.out.cell 0 _ rfl
  have k1 := R2.out.cell 1 _ rfl
  have c0 := R4.out.cell 0 _ rfl
  have c1 := R4.out.cell 1 _ rfl
  have g0 := R2.out.free 0
  have f0 := R4.out.free 0
  have f1 := R4.out.free 1
  clear hx hb1
  go_enter Tryz.func13, Tryz.ntmps13
  go_upto_region 2 with fail
  generalize ((w.alloc (Obj.cells #[Value.string { data := l.toArray }, Value.bool d] 28)).alloc (Obj.cells #[Value.string { data := #[] }, Value.bool false] 28)) = w1 at *
  cases d with
  | true =>
    go_wp2_with fail
    refine bodyPost_ret (v := .tuple #[.agg #[.string ⟨l.toArray⟩, .bool true], .slice none 0 0, .int .i64 10]) (by simp [results, Tryz.results13, go_sem, c0, c1]) rfl ?_
    have hb9 := HB1.out
    exact ⟨_, [], rfl, ReqsV.nil _ _, rfl, by go_grown⟩
  | false =>
    obtain ⟨l1, hl1⟩ : ∃ l1, l ++ m = l1 := ⟨_, rfl⟩
    have hl1l : l1.length ≤ 100000000 := by rw [← hl1, List.length_append]; exact hlen
    have hcat : (⟨l.toArray⟩ : ByteArray) ++ ⟨m.toArray⟩ = ⟨l1.toArray⟩ := by rw [bytes_app, hl1]
    have hsz : ¬ 9223372036854775807 < l.length + m.length := by omega
    have HI : Hid (TRI w (w1.setCell ⟨w.heap.size, 0, none⟩ (.string ⟨l1.toArray⟩)) l1 (.slice none 0 0) [] l1) := ⟨R2.out.set 0 _ (by simp), R4.out.far (p := ⟨w.heap.size, 0, none⟩) (by show w.heap.size ≠ w.heap.size + 1; omega) _, ReqsV.nil _ _, HB1.out.setCell (p := ⟨w.heap.size, 0, none⟩) (Nat.le_refl _) _, by simp, by simp⟩
    have HL1 := Lib.hid hl1
    clear hl1 R2 R4 HB1
    go_wp2_with fail
    generalize w1.setCell ⟨w.heap.size, 0, none⟩ (.string ⟨l1.toArray⟩) = w2 at *
    clear k0 k1 c0 c1 g0 f0 f1 hcv hcat hsz
    go_loopg [7] (l1.length + 1) (fun k lv wr => ∃ rs lw, k = lw.length + 1 ∧ TRI w wr l1 lv rs lw)
    case atStart => exact ⟨[], l1, rfl, HI.out⟩
    case round =>
      obtain ⟨rs, lw, hk, hi⟩ := hrel
      have Hk := Lib.hid hk
      have HR := Lib.hid hi
      obtain ⟨pl, cl0, rfl⟩ := hi.reqs.forms
      have hll := hi.len
      clear hk hi HI
      have k0 := HR.out.r2.cell 0 _ rfl
      have k1 := HR.out.r2.cell 1 _ rfl
      have c0 := HR.out.r4.cell 0 _ rfl
      have c1 := HR.out.r4.cell 1 _ rfl
      have f0 := HR.out.r4.free 0
      have f1 := HR.out.r4.free 1
      have g0 := HR.out.r2.free 0
      go_wp2_with fail
      refine (endR_calls wr lw (by omega)).mono ?_
      rintro e9 w9 ⟨rfl, rfl⟩
      obtain ⟨E, hE⟩ : ∃ E, endS lw = E := ⟨_, rfl⟩
      rw [hE]
      have HE := Lib.hid hE
      clear hE
      by_cases hA : 16384 < E
      ·
        have HN : Hid (nextS lw = .err 382) := next_big (by rw [HE.out]; exact hA)
        go_wp2_with fail
        refine bodyPost_ret (v := .tuple #[.agg #[.string ⟨#[]⟩, .bool true], .slice pl rs.length cl0, .int .i64 382]) (by simp [results, Tryz.results13, go_sem, c0, c1]) rfl ?_
        have hrun : runA l1 = (rs.map (·.1), 382, [], true) := by rw [HR.out.run, runA_err HN.out, List.append_nil]
        refine ⟨_, rs, by rw [takeS_live, HL1.out, hrun], ?_, by rw [takeS_live, HL1.out, hrun], ?_⟩
        · exact (((HR.out.reqs.set (a := ⟨w.heap.size + 1, 0, none⟩) (by show w.heap.size + 1 < w.heap.size + 2; omega) _).set (a := ⟨w.heap.size + 1, 1, none⟩) (by show w.heap.size + 1 < w.heap.size + 2; omega) _).le (by omega))
        · exact (HR.out.b.setCell (p := ⟨w.heap.size + 1, 0, none⟩) (by show w.heap.size ≤ w.heap.size + 1; omega) _).setCell (p := ⟨w.heap.size + 1, 1, none⟩) (by show w.heap.size ≤ w.heap.size + 1; omega) _
      by_cases hB : E < 0
      ·
        have HN : Hid (nextS lw = if 16384 ≤ lw.length then .err 382 else .more) := next_none (by rw [HE.out]; exact hB)
        by_cases hC : 16384 ≤ lw.length
        ·
          rw [if_pos hC] at HN
          have hC2 : (16384 : Int) ≤ lw.length := by omega
          go_wp2_with fail
          refine bodyPost_ret (v := .tuple #[.agg #[.string ⟨#[]⟩, .bool true], .slice pl rs.length cl0, .int .i64 382]) (by simp [results, Tryz.results13, go_sem, c0, c1]) rfl ?_
          have hrun : runA l1 = (rs.map (·.1), 382, [], true) := by rw [HR.out.run, runA_err HN.out, List.append_nil]
          refine ⟨_, rs, by rw [takeS_live, HL1.out, hrun], ?_, by rw [takeS_live, HL1.out, hrun], ?_⟩
          · exact (((HR.out.reqs.set (a := ⟨w.heap.size + 1, 0, none⟩) (by show w.heap.size + 1 < w.heap.size + 2; omega) _).set (a := ⟨w.heap.size + 1, 1, none⟩) (by show w.heap.size + 1 < w.heap.size + 2; omega) _).le (by omega))
          · exact (HR.out.b.setCell (p := ⟨w.heap.size + 1, 0, none⟩) (by show w.heap.size ≤ w.heap.size + 1; omega) _).setCell (p := ⟨w.heap.size + 1, 1, none⟩) (by show w.heap.size ≤ w.heap.size + 1; omega) _
        ·
          rw [if_neg hC] at HN
          have hC2 : ¬ (16384 : Int) ≤ lw.length := by omega
          go_wp2_with fail
          refine bodyPost_ret (v := .tuple #[.agg #[.string ⟨lw.toArray⟩, .bool false], .slice pl rs.length cl0, .int .i64 0]) (by simp [results, Tryz.results13, go_sem, c0, c1]) rfl ?_
          have hrun : runA l1 = (rs.map (·.1), 0, lw, false) := by rw [HR.out.run, runA_more HN.out, List.append_nil]
          refine ⟨_, rs, by rw [takeS_live, HL1.out, hrun], ?_, by rw [takeS_live, HL1.out, hrun], ?_⟩
          · exact (((HR.out.reqs.set (a := ⟨w.heap.size + 1, 0, none⟩) (by show w.heap.size + 1 < w.heap.size + 2; omega) _).set (a := ⟨w.heap.size + 1, 1, none⟩) (by show w.heap.size + 1 < w.heap.size + 2; omega) _).le (by omega))
          · exact (HR.out.b.setCell (p := ⟨w.heap.size + 1, 0, none⟩) (by show w.heap.size ≤ w.heap.size + 1; omega) _).setCell (p := ⟨w.heap.size + 1, 1, none⟩) (by show w.heap.size ≤ w.heap.size + 1; omega) _
      obtain ⟨E2, rfl⟩ : ∃ E2 : Nat, E = E2 := ⟨E.toNat, by omega⟩
      obtain ⟨hEl, hN⟩ := next_end HE.out (by omega)
      have HN := Lib.hid hN
      clear hN
      obtain ⟨hd, hhd⟩ : ∃ hd, lw.take E2 = hd := ⟨_, rfl⟩
      rw [hhd] at HN
      have hx1 : (⟨lw.toArray⟩ : ByteArray).extract 0 E2 = ⟨hd.toArray⟩ := by rw [Lib.extract_eq, ← hhd]; simp
      have hdl : hd.length ≤ 16384 := by rw [← hhd, List.length_take]; omega
      have hEl2 : (E2 : Int) ≤ lw.length := by omega
      clear hhd
      obtain ⟨⟨⟨qm, qu, qq, qh, qb, qc⟩, n, er⟩, hH⟩ : ∃ H, headS hd = H := ⟨_, rfl⟩
      have hqb : qb = [] := by have := headS_body hd; rw [hH] at this; exact this
      subst hqb
      have HH := Lib.hid hH
      rw [hH] at HN
      dsimp only at HN
      clear hH
      go_wp2_with fail
      refine (headR_calls wr hd (by omega)).mono ?_
      rintro e9 w4 ⟨⟨hv1, hh1, rfl⟩, hb4⟩
      rw [HH.out] at hh1 ⊢
      dsimp only at hh1 ⊢
      obtain ⟨p1, c2, rfl⟩ := hh1.forms
      have h5 : Below w4.heap.size w4 (w4.alloc (Obj.cells #[Value.string ⟨qm.toArray⟩, .string ⟨qu.toArray⟩, .string ⟨qq.toArray⟩, .slice p1 qh.length c2, .slice none 0 0, .bool qc] 40)) := (Below.refl _ _).alloc (Nat.le_refl _) _
      have H5 := Lib.hid ((HR.out.below hb4).below h5)
      have R5 := Lib.hid (RowAt.new w4 #[Value.string ⟨qm.toArray⟩, .string ⟨qu.toArray⟩, .string ⟨qq.toArray⟩, .slice p1 qh.length c2, .slice none 0 0, .bool qc] 40)
      have HV4 : Hid (HdrV w4 (w.heap.size + 2) (.slice p1 qh.length c2) qh) := HdrV.le hh1 (by have := HR.out.r4.lt; omega)
      have BR4 := Lib.hid (hb4.trans (h5.mono hb4.size))
      have B45 := Lib.hid h5
      have hlt4 : w.heap.size + 1 < w4.heap.size := Nat.lt_of_lt_of_le HR.out.r4.lt hb4.size
      have HG4 : Hid (wr.heap.size ≤ w4.heap.size) := hb4.size
      clear hh1 hb4 h5 k0 k1 c0 c1 f0 f1 g0 hx1
      go_upto_region 11 with fail
      obtain ⟨g4, hg4⟩ : ∃ x, w4.heap.size = x := ⟨_, rfl⟩
      have HGE := Lib.hid hg4
      rw [hg4] at R5 hlt4 B45 HG4 ⊢
      generalize (w4.alloc (Obj.cells #[Value.string ⟨qm.toArray⟩, .string ⟨qu.toArray⟩, .string ⟨qq.toArray⟩, .slice p1 qh.length c2, .slice none 0 0, .bool qc] 40)) = w5 at *
      clear hg4
      have k0 := H5.out.r2.cell 0 _ rfl
      have k1 := H5.out.r2.cell 1 _ rfl
      have c0 := H5.out.r4.cell 0 _ rfl
      have c1 := H5.out.r4.cell 1 _ rfl
      have f0 := H5.out.r4.free 0
      have f1 := H5.out.r4.free 1
      by_cases her : er = 0
      rotate_left
      ·
        have HN2 : Hid (nextS lw = .err er) := by
          have := HN.out
          rw [if_pos her] at this
          exact this
        have g1 : (er != 0) = true := by rw [bne_iff_ne]; exact her
        clear HN her
        go_wp2_with fail
        refine bodyPost_ret (v := .tuple #[.agg #[.string ⟨#[]⟩, .bool true], .slice pl rs.length cl0, .int .i64 er]) (by simp [results, Tryz.results13, go_sem, c0, c1]) rfl ?_
        have hrun : runA l1 = (rs.map (·.1), er, [], true) := by rw [H5.out.run, runA_err HN2.out, List.append_nil]
        refine ⟨_, rs, by rw [takeS_live, HL1.out, hrun], ?_, by rw [takeS_live, HL1.out, hrun], ?_⟩
        · exact (((H5.out.reqs.set (a := ⟨w.heap.size + 1, 0, none⟩) (by show w.heap.size + 1 < w.heap.size + 2; omega) _).set (a := ⟨w.heap.size + 1, 1, none⟩) (by show w.heap.size + 1 < w.heap.size + 2; omega) _).le (by omega))
        · exact (H5.out.b.setCell (p := ⟨w.heap.size + 1, 0, none⟩) (by show w.heap.size ≤ w.heap.size + 1; omega) _).setCell (p := ⟨w.heap.size + 1, 1, none⟩) (by show w.heap.size ≤ w.heap.size + 1; omega) _
      subst her
      have HN3 : Hid (nextS lw = if lw.length - E2 < n then .more else .got ⟨qm, qu, qq, qh, (lw.drop E2).take n, qc⟩ (lw.drop (E2 + n))) := by
        have := HN.out
        rw [if_neg (by simp)] at this
        exact this
      clear HN
      have hwr1 : IntKind.i64.wrap ((lw.length : Int) - E2) = ((lw.length - E2 : Nat) : Int) := by rw [IntWalk.i64_in _ (by omega)]; omega
      by_cases hmo : lw.length - E2 < n
      ·
        have g1 : ((lw.length - E2 : Nat) : Int) < n := by omega
        rw [if_pos hmo] at HN3
        go_wp2_with fail
        refine bodyPost_ret (v := .tuple #[.agg #[.string ⟨lw.toArray⟩, .bool false], .slice pl rs.length cl0, .int .i64 0]) (by simp [results, Tryz.results13, go_sem, c0, c1]) rfl ?_
        have hrun : runA l1 = (rs.map (·.1), 0, lw, false) := by rw [H5.out.run, runA_more HN3.out, List.append_nil]
        refine ⟨_, rs, by rw [takeS_live, HL1.out, hrun], ?_, by rw [takeS_live, HL1.out, hrun], ?_⟩
        · exact (((H5.out.reqs.set (a := ⟨w.heap.size + 1, 0, none⟩) (by show w.heap.size + 1 < w.heap.size + 2; omega) _).set (a := ⟨w.heap.size + 1, 1, none⟩) (by show w.heap.size + 1 < w.heap.size + 2; omega) _).le (by omega))
        · exact (H5.out.b.setCell (p := ⟨w.heap.size + 1, 0, none⟩) (by show w.heap.size ≤ w.heap.size + 1; omega) _).setCell (p := ⟨w.heap.size + 1, 1, none⟩) (by show w.heap.size ≤ w.heap.size + 1; omega) _
      have g1 : ¬ ((lw.length - E2 : Nat) : Int) < n := by omega
      rw [if_neg hmo] at HN3
      obtain ⟨bd, hbd⟩ : ∃ bd, (lw.drop E2).take n = bd := ⟨_, rfl⟩
      obtain ⟨rw_, hrw⟩ : ∃ r, lw.drop (E2 + n) = r := ⟨_, rfl⟩
      rw [hbd, hrw] at HN3
      have hx2 : (⟨lw.toArray⟩ : ByteArray).extract E2 (E2 + n) = ⟨bd.toArray⟩ := by rw [Lib.extract_eq, ← hbd, Nat.add_sub_cancel_left]
      have hx3 : (⟨lw.toArray⟩ : ByteArray).extract (E2 + n) lw.length = ⟨rw_.toArray⟩ := by rw [Lib.extract_eq, ← hrw, List.take_of_length_le (by simp)]
      have hwr2 : IntKind.i64.wrap ((E2 : Int) + n) = ((E2 + n : Nat) : Int) := by rw [IntWalk.i64_in _ (by omega)]; omega
      have hb1 : E2 + n ≤ lw.length := by omega
      have hb2 : ((E2 + n : Nat) : Int) ≤ lw.length := by omega
      have hb3 : (E2 : Int) ≤ ((E2 + n : Nat) : Int) := by omega
      have hb4 : (0 : Int) ≤ ((E2 + n : Nat) : Int) := by omega
      have hbdl : bd.length ≤ 1000000000 := by rw [← hbd]; simp; omega
      have hrwl : rw_.length + 4 ≤ lw.length := nextS_short HN3.out
      clear hbd hrw hmo
      obtain ⟨capb, hconv, hbv, hb6⟩ := bodV_string w5 bd hbdl
      have H6 := Lib.hid (H5.out.below hb6)
      have R6 := Lib.hid (R5.out.below hb6)
      have hlt5 := R5.out.lt
      have hr5 := BR4.out.size
      have hg4r : wr.heap.size ≤ g4 := HG4.out
      have BR6 := Lib.hid (BR4.out.trans (hb6.mono BR4.out.size))
      have B46 := Lib.hid (B45.out.trans (hb6.mono (Nat.le_of_lt hlt5)))
      have HBV := Lib.hid hbv
      clear hbv hb6 H5 R5 BR4 B45
      obtain ⟨w6, hw6⟩ : ∃ x, Lib.bytesWorld w5 5 ⟨bd.toArray⟩ = x := ⟨_, rfl⟩
      rw [hw6] at hconv H6 R6 HBV BR6 B46
      clear hw6
      obtain ⟨gb, hgb⟩ : ∃ x, w5.heap.size = x := ⟨_, rfl⟩
      rw [hgb] at hconv HBV hlt5 hr5
      have n4 := R6.out.cell 4 _ rfl
      have d4 := R6.out.free 4
      have k06 := H6.out.r2.cell 0 _ rfl
      have g06 := H6.out.r2.free 0
      have R27 : Hid (RowAt ((w6.setCell ⟨g4, 4, none⟩ (.slice (some ⟨gb, 0, none⟩) bd.length capb)).setCell ⟨w.heap.size, 0, none⟩ (.string ⟨rw_.toArray⟩)) w.heap.size [.string ⟨rw_.toArray⟩, .bool false]) := (H6.out.r2.far (p := ⟨g4, 4, none⟩) (by show g4 ≠ w.heap.size; omega) _).set 0 _ (by simp)
      have R47 : Hid (RowAt ((w6.setCell ⟨g4, 4, none⟩ (.slice (some ⟨gb, 0, none⟩) bd.length capb)).setCell ⟨w.heap.size, 0, none⟩ (.string ⟨rw_.toArray⟩)) (w.heap.size + 1) [.string ⟨#[]⟩, .bool false]) := (H6.out.r4.far (p := ⟨g4, 4, none⟩) (by show g4 ≠ w.heap.size + 1; omega) _).far (p := ⟨w.heap.size, 0, none⟩) (by show w.heap.size ≠ w.heap.size + 1; omega) _
      have R67 : Hid (RowAt ((w6.setCell ⟨g4, 4, none⟩ (.slice (some ⟨gb, 0, none⟩) bd.length capb)).setCell ⟨w.heap.size, 0, none⟩ (.string ⟨rw_.toArray⟩)) g4 [.string ⟨qm.toArray⟩, .string ⟨qu.toArray⟩, .string ⟨qq.toArray⟩, .slice p1 qh.length c2, (.slice (some ⟨gb, 0, none⟩) bd.length capb), .bool qc]) := (R6.out.set 4 _ (by simp)).far (p := ⟨w.heap.size, 0, none⟩) (by show w.heap.size ≠ g4; omega) _
      have HQ7 : Hid (ReqsV ((w6.setCell ⟨g4, 4, none⟩ (.slice (some ⟨gb, 0, none⟩) bd.length capb)).setCell ⟨w.heap.size, 0, none⟩ (.string ⟨rw_.toArray⟩)) (w.heap.size + 2) (.slice pl rs.length cl0) rs) := (HR.out.reqs.below (BR6.out.setCell (p := ⟨g4, 4, none⟩) hg4r (.slice (some ⟨gb, 0, none⟩) bd.length capb))).set (a := ⟨w.heap.size, 0, none⟩) (by show w.heap.size < w.heap.size + 2; omega) _
      have HV7 : Hid (HdrV ((w6.setCell ⟨g4, 4, none⟩ (.slice (some ⟨gb, 0, none⟩) bd.length capb)).setCell ⟨w.heap.size, 0, none⟩ (.string ⟨rw_.toArray⟩)) (w.heap.size + 2) (.slice p1 qh.length c2) qh) := ownsRow_apart (S := fun k => k = w.heap.size) (ownsRow_apart (S := fun _ => False) HV4.out (.ofBelow (by rw [HGE.out]; exact B46.out.setCell (p := ⟨g4, 4, none⟩) (Nat.le_refl _) (.slice (some ⟨gb, 0, none⟩) bd.length capb))) (fun _ _ h => h)) (Apart.set (S := fun k => k = w.heap.size) (a := ⟨w.heap.size, 0, none⟩) _ rfl _) (fun k hk e => by have := (World.ownsRow.lt HV4.out k hk).1; omega)
      have HB7 : Hid (BodV ((w6.setCell ⟨g4, 4, none⟩ (.slice (some ⟨gb, 0, none⟩) bd.length capb)).setCell ⟨w.heap.size, 0, none⟩ (.string ⟨rw_.toArray⟩)) (w.heap.size + 2) (.slice (some ⟨gb, 0, none⟩) bd.length capb) bd) := ((HBV.out.apart (S := fun k => k = g4) (Apart.set (S := fun k => k = g4) (a := ⟨g4, 4, none⟩) _ rfl _) (fun k hk e => by have := (HBV.out.lt k hk).1; omega)).apart (S := fun k => k = w.heap.size) (Apart.set (S := fun k => k = w.heap.size) (a := ⟨w.heap.size, 0, none⟩) _ rfl _) (fun k hk e => by have := (HBV.out.lt k hk).1; omega)).le (by omega)
      have HW7 : Hid (Below w.heap.size w ((w6.setCell ⟨g4, 4, none⟩ (.slice (some ⟨gb, 0, none⟩) bd.length capb)).setCell ⟨w.heap.size, 0, none⟩ (.string ⟨rw_.toArray⟩))) := (H6.out.b.setCell (p := ⟨g4, 4, none⟩) (by show w.heap.size ≤ g4; omega) _).setCell (p := ⟨w.heap.size, 0, none⟩) (Nat.le_refl _) _
      go_upto_region 17 with fail
      generalize ((w6.setCell ⟨g4, 4, none⟩ (.slice (some ⟨gb, 0, none⟩) bd.length capb)).setCell ⟨w.heap.size, 0, none⟩ (.string ⟨rw_.toArray⟩)) = w7 at *
      clear hconv H6 R6 BR6 B46 HBV n4 d4 k06 g06 k0 k1 c0 c1 f0 f1 HV4 hx2 hx3
      have n0 := R67.out.cell 0 _ rfl
      have n1 := R67.out.cell 1 _ rfl
      have n2 := R67.out.cell 2 _ rfl
      have n3 := R67.out.cell 3 _ rfl
      have n4 := R67.out.cell 4 _ rfl
      have n5 := R67.out.cell 5 _ rfl
      go_wp2_with (at_builtin; go_must (refine wpList_append_req rfl _ _ rfl (w.heap.size + 2) _ rs rfl HQ7.out (⟨qm, qu, qq, qh, bd, qc⟩, .slice p1 qh.length c2, (.slice (some ⟨gb, 0, none⟩) bd.length capb)) HV7.out HB7.out _ rfl rfl ?hlen ?hbase ?_))
      case hlen => omega
      case hbase => have := R47.out.lt; omega
      intro lv' w8 hreq hg
      have hlo : ∀ k, (Value.slice pl rs.length cl0).ownBlock = some k → w.heap.size + 2 ≤ k ∧ k < wr.heap.size := fun k hk => World.ownsRow.lt HR.out.reqs.row k hk
      have R28 := Lib.hid ((R27.out.alloc _).grown hg (fun e => by have := (hlo _ e.symm).1; omega))
      have R48 := Lib.hid ((R47.out.alloc _).grown hg (fun e => by have := (hlo _ e.symm).1; omega))
      have R68 := Lib.hid ((R67.out.alloc _).grown hg (fun e => by have := (hlo _ e.symm).2; omega))
      have HW8 := Lib.hid ((HW7.out.alloc HW7.out.size _).grown hg (by have := HW7.out.size; rw [World.size_alloc]; omega) (fun k hk => by have := (hlo k hk).1; omega))
      have HQ8 := Lib.hid hreq
      obtain ⟨p8, c8, rfl⟩ := hreq.forms
      have k5 := R68.out.cell 5 _ rfl
      have c0 := R48.out.cell 0 _ rfl
      have c1 := R48.out.cell 1 _ rfl
      have f0 := R48.out.free 0
      have f1 := R48.out.free 1
      clear hreq hg hlo R27 R47 R67 HQ7 HV7 HB7 HW7 n0 n1 n2 n3 n4 n5
      cases qc with
      | true =>
        go_wp2_with fail
        refine bodyPost_ret (v := .tuple #[.agg #[.string ⟨#[]⟩, .bool true], .slice p8 (rs ++ [((⟨qm, qu, qq, qh, bd, true⟩ : Req), (Value.slice p1 qh.length c2), (Value.slice (some ⟨gb, 0, none⟩) bd.length capb))]).length c8, .int .i64 0]) (by simp [results, Tryz.results13, go_sem, c0, c1]) rfl ?_
        have hrun : runA l1 = ((rs ++ [((⟨qm, qu, qq, qh, bd, true⟩ : Req), (Value.slice p1 qh.length c2), (Value.slice (some ⟨gb, 0, none⟩) bd.length capb))]).map (·.1), 0, [], true) := by rw [HR.out.run, runA_got HN3.out]; simp
        refine ⟨_, _, by rw [takeS_live, HL1.out, hrun], ?_, by rw [takeS_live, HL1.out, hrun], ?_⟩
        · exact (((HQ8.out.set (a := ⟨w.heap.size + 1, 0, none⟩) (by show w.heap.size + 1 < w.heap.size + 2; omega) _).set (a := ⟨w.heap.size + 1, 1, none⟩) (by show w.heap.size + 1 < w.heap.size + 2; omega) _).le (by omega))
        · exact (HW8.out.setCell (p := ⟨w.heap.size + 1, 0, none⟩) (by show w.heap.size ≤ w.heap.size + 1; omega) _).setCell (p := ⟨w.heap.size + 1, 1, none⟩) (by show w.heap.size ≤ w.heap.size + 1; omega) _
      | false =>
        go_wp2_with fail
        go_roundg (rw_.length + 1)
        case measure => have := Hk.out; omega
        case rel =>
          refine ⟨rs ++ [((⟨qm, qu, qq, qh, bd, false⟩ : Req), (Value.slice p1 qh.length c2), (Value.slice (some ⟨gb, 0, none⟩) bd.length capb))], rw_, rfl, ⟨R28.out, R48.out, HQ8.out, HW8.out, ?_, ?_⟩⟩
          · rw [HR.out.run, runA_got HN3.out]; simp
          · simp only [List.length_append, List.length_singleton]; omega
theorem takeR_calls (w : World) (l m : List UInt8) (d : Bool) (x : Value) (hx : BytS w x m) (hlen : l.length + m.length ≤ 100000000) :
    Calls Tryz.prog 13 #[.agg #[.string ⟨l.toArray⟩, .bool d], x] w (TakeR w l d m) := takeG_calls w l m d x hx.g hlen
end Go.Proofs.YtgdfgppgfkkncaaGreatDoor
