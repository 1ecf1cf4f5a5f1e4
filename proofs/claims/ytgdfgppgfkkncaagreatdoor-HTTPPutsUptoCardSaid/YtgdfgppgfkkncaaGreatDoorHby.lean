/- The program's Bytes: a request's bytes, if it is read as it was put. Printed by gen_hby.py. -/
import Derived.Test.YtgdfgppgfkkncaaGreatDoorHbW
namespace Go.Proofs.YtgdfgppgfkkncaaGreatDoor
open Go.RowKit

/-- What Bytes answers. -/
def BytesOut (q : Req) (e : Ending) (w' : World) : Prop :=
  (BackB q (toldS q) ∧ ∃ v, e = .returned (.tuple #[v, .int .i64 0]) ∧ BytS w' v (toldS q)) ∨ (¬ BackB q (toldS q) ∧ e = .returned (.tuple #[.slice none 0 0, .int .i64 2]))
theorem RowAt.belowB {w w' : World} {g B : Nat} {l : List Value} (h : RowAt w g l) (hb : Below B w w') (hg : g < B) : RowAt w' g l :=
  ⟨fun i v hi => (hb.cell (p := ⟨g, i, none⟩) hg).trans (h.cell i v hi), fun i => (hb.frozen (p := ⟨g, i, none⟩) hg).trans (h.free i), Nat.lt_of_lt_of_le h.lt hb.size⟩
theorem BytS.lt {w : World} {v : Value} {l : List UInt8} (h : BytS w v l) (k : Nat) (hk : v.ownBlock = some k) : k < w.heap.size := by
  rcases h with ⟨rfl, _⟩ | ⟨b, off, cap, rfl, _, _, h4, _⟩
  · cases hk
  · cases hk; exact h4
/-- The buffer, the request's cells: between two steps of Bytes. -/
structure ByI (w W : World) (vl : List Value) (l : List UInt8) : Prop where
  buf : Buf (w.heap.size + 1) (w.heap.size + 1) l W
  r1 : RowAt W w.heap.size vl
  b : Below w.heap.size w W
theorem ByI.lt {w W : World} {vl : List Value} {l : List UInt8} (h : ByI w W vl l) : w.heap.size + 1 < W.heap.size := Lib.IsBuffer.lt h.buf
theorem ByI.step {w W W' : World} {vl : List Value} {l l' : List UInt8} (h : ByI w W vl l) (hb : Buf (w.heap.size + 1) (w.heap.size + 1) l' W') (hB : Below (w.heap.size + 1) W W') : ByI w W' vl l' :=
  ⟨hb, h.r1.belowB hB (by omega), h.b.trans (hB.mono (by omega))⟩
theorem ByI.below {w W W' : World} {vl : List Value} {l : List UInt8} (h : ByI w W vl l) (hb : Below W.heap.size W W') : ByI w W' vl l := ⟨h.buf.below hb, h.r1.below hb, h.b.trans (hb.mono h.b.size)⟩
theorem told_eq (m u qy bd : List UInt8) (hs : List Hdr) (cl : Bool) : (((((([] ++ (m ++ 32 :: u)) ++ qryT qy) ++ lineT) ++ hs.flatMap hdrT) ++ [13, 10]) ++ bd) = toldS ⟨m, u, qy, hs, bd, cl⟩ := by simp [toldS]
theorem flat_take (hs : List Hdr) (j : Nat) (hj : j < hs.length) : (hs.take (j + 1)).flatMap hdrT = (hs.take j).flatMap hdrT ++ hdrT (hs.getD j ⟨[], []⟩) := by
  have e : hs.take (j + 1) = hs.take j ++ [hs.getD j ⟨[], []⟩] := by rw [List.take_add_one, List.getElem?_eq_getElem hj]; simp [List.getElem?_eq_getElem hj]
  rw [e, List.flatMap_append]
  simp
theorem flat_le (hs : List Hdr) (j : Nat) : ((hs.take j).flatMap hdrT).length ≤ (hs.flatMap hdrT).length := by
  have h : (hs.take j).flatMap hdrT ++ (hs.drop j).flatMap hdrT = hs.flatMap hdrT := by rw [← List.flatMap_append, List.take_append_drop]
  rw [← h, List.length_append]; omega
set_option maxHeartbeats 20000000 in
set_option maxRecDepth 100000 in
theorem bytesP_calls (w : World) (he : Env w) (x : Value) (r : Req) (hx : ReqS w x r) (hn : reqN r ≤ 90000000) : Calls Tryz.prog 31 #[x] w fun e w' => BytesOut r e w' ∧ Below w.heap.size w w' := by
  obtain ⟨hv1, bv1, rfl, hh1, hb1⟩ := hx
  obtain ⟨m, u, qy, hs, bd, cl⟩ := r
  simp only at hh1 hb1 ⊢
  have hTl := toldS_len ⟨m, u, qy, hs, bd, cl⟩
  have HTE := Lib.hid (told_eq m u qy bd hs cl)
  have hfl := flat_len hs
  obtain ⟨p1, c1, rfl, hc1, hm1, hp1⟩ := hh1.form
  obtain ⟨b1, e1, rfl, _⟩ := hb1.open
  have ha1 : Below w.heap.size w (w.alloc (Obj.cells #[Value.string { data := m.toArray }, Value.string { data := u.toArray }, Value.string { data := qy.toArray }, Value.slice p1 hs.length c1, Value.slice b1 bd.length e1, Value.bool cl] 40)) := (Below.refl _ _).alloc (Nat.le_refl _) _
  have hbf := Lib.fresh_isBuffer 106 5 (w.alloc (Obj.cells #[Value.string { data := m.toArray }, Value.string { data := u.toArray }, Value.string { data := qy.toArray }, Value.slice p1 hs.length c1, Value.slice b1 bd.length e1, Value.bool cl] 40))
  rw [World.size_alloc] at hbf
  have HI : Hid (ByI w ((w.alloc (Obj.cells #[Value.string { data := m.toArray }, Value.string { data := u.toArray }, Value.string { data := qy.toArray }, Value.slice p1 hs.length c1, Value.slice b1 bd.length e1, Value.bool cl] 40)).alloc (Obj.cells #[Value.slice none 0 0, Value.int IntKind.i64 0, Value.int IntKind.i8 0] 106)) [.string ⟨m.toArray⟩, .string ⟨u.toArray⟩, .string ⟨qy.toArray⟩, .slice p1 hs.length c1, .slice b1 bd.length e1, .bool cl] []) := ⟨hbf, (RowAt.new w #[Value.string { data := m.toArray }, Value.string { data := u.toArray }, Value.string { data := qy.toArray }, Value.slice p1 hs.length c1, Value.slice b1 bd.length e1, Value.bool cl] 40).alloc _, ha1.alloc (by simp) _⟩
  have He := Lib.hid he
  have HH0 := Lib.hid hh1
  have HB0 := Lib.hid hb1
  have HP := Lib.hid hp1
  have hmx : hs.length ≤ 9223372036854775807 := hm1
  have hsz : m.length + u.length + qy.length + bd.length + (hs.flatMap hdrT).length ≤ 90000000 := by
    rw [hfl]; exact hn
  have HSZ := Lib.hid hsz
  obtain ⟨T, hT⟩ : ∃ T, toldS ⟨m, u, qy, hs, bd, cl⟩ = T := ⟨_, rfl⟩
  have HTL : Hid (T.length ≤ 90000015) := Lib.hid (by rw [← hT]; exact Nat.le_trans hTl (Nat.add_le_add_right hn 15))
  have HT := Lib.hid hT
  clear hh1 hb1 ha1 hp1 hm1 hbf he hTl hfl hn hsz hT
  go_enter Tryz.func31, Tryz.ntmps31
  go_upto_region 2 with fail
  generalize ((w.alloc (Obj.cells #[Value.string { data := m.toArray }, Value.string { data := u.toArray }, Value.string { data := qy.toArray }, Value.slice p1 hs.length c1, Value.slice b1 bd.length e1, Value.bool cl] 40)).alloc (Obj.cells #[Value.slice none 0 0, Value.int IntKind.i64 0, Value.int IntKind.i8 0] 106)) = w2 at *
  have a0 := HI.out.r1.cell 0 _ rfl
  have a1 := HI.out.r1.cell 1 _ rfl
  obtain ⟨A1, hA1⟩ : ∃ A, m ++ [32] = A := ⟨_, rfl⟩
  obtain ⟨A2, hA2⟩ : ∃ A, m ++ 32 :: u = A := ⟨_, rfl⟩
  have hA1l : A1.length = m.length + 1 := by rw [← hA1]; simp
  have hA2l : A2.length = m.length + u.length + 1 := by rw [← hA2]; simp; omega
  have hk1 : (⟨m.toArray⟩ : ByteArray) ++ ⟨#[32]⟩ = ⟨A1.toArray⟩ := by rw [← hA1]; exact bytes_app m [32]
  have hk2 : (⟨A1.toArray⟩ : ByteArray) ++ ⟨u.toArray⟩ = ⟨A2.toArray⟩ := by rw [bytes_app, ← hA1, ← hA2]; simp
  have hsz1 : ¬ 9223372036854775807 < m.length + 1 := by have := HSZ.out; omega
  have hsz2 : ¬ 9223372036854775807 < A1.length + u.length := by have := HSZ.out; omega
  have HA2l := Lib.hid hA2l
  rw [hA2] at HTE
  clear hA1 hA2 hA1l hA2l
  go_wp2_with fail
  refine (writeS_calls _ _ [] A2 w2 HI.out.buf (Nat.le_of_lt HI.out.lt) (by have := HSZ.out; have := HA2l.out; simp; omega)).mono ?_
  rintro e w3 ⟨⟨vw, rfl⟩, hbu, hbb⟩
  have HI2 := Lib.hid (HI.out.step hbu hbb)
  clear hbu hbb HI
  have HI := HI2
  clear HI2
  clear hk1 hk2 hsz1 hsz2 a0 a1
  have a2 := HI.out.r1.cell 2 _ rfl
  go_upto_if 19 with fail
  go_cut [3] from 17 to 23 (fun u9 wc => u9 = .int .i64 0 ∧ ByI w wc [.string ⟨m.toArray⟩, .string ⟨u.toArray⟩, .string ⟨qy.toArray⟩, .slice p1 hs.length c1, .slice b1 bd.length e1, .bool cl] (([] ++ A2) ++ qryT qy))
  case first =>
    rcases qy with _ | ⟨qc, qt⟩
    ·
      go_wp2_with fail
      go_meet
      exact ⟨rfl, by rw [show qryT [] = [] from rfl, List.append_nil]; exact HI.out⟩
    ·
      obtain ⟨Q, hQ⟩ : ∃ Q, qc :: qt = Q := ⟨_, rfl⟩
      have hqn : Q ≠ [] := by rw [← hQ]; simp
      have hqe : qryT Q = 63 :: Q := by unfold qryT; rw [if_neg hqn]
      have hkq : (⟨#[63]⟩ : ByteArray) ++ ⟨(qc :: qt).toArray⟩ = ⟨(63 :: qc :: qt).toArray⟩ := bytes_app [63] (qc :: qt)
      have hszq : ¬ 9223372036854775807 < 1 + (qc :: qt).length := by have := HSZ.out; simp only [List.length_cons] at this ⊢; omega
      have HQE := Lib.hid hqe
      rw [← hQ] at HQE
      clear hqn hqe hQ
      go_wp2_with fail
      refine (writeS_calls _ _ ([] ++ A2) (63 :: qc :: qt) w3 HI.out.buf (Nat.le_of_lt HI.out.lt) (by have h1 := HSZ.out; have h2 := HA2l.out; simp only [List.length_cons] at h1; simp only [List.length_cons, List.length_append, List.length_nil]; omega)).mono ?_
      rintro e w4 ⟨⟨vw, rfl⟩, hbu, hbb⟩
      have HI2 := Lib.hid (HI.out.step hbu hbb)
      clear hbu hbb HI
      have HI := HI2
      clear HI2
      go_wp2_with fail
      go_meet
      exact ⟨rfl, by rw [HQE.out]; exact HI.out⟩
  case rest =>
    obtain ⟨rfl, hcut⟩ := hcut
    have HI := Lib.hid hcut
    obtain ⟨w4, hw4⟩ : ∃ x, wc = x := ⟨_, rfl⟩
    rw [hw4] at HI ⊢
    clear hcut hw4 a2
    have hql : (qryT qy).length ≤ qy.length + 1 := by unfold qryT; split <;> simp
    have HQL := Lib.hid hql
    clear hql
    generalize qryT qy = Q at *
    go_wp2_with fail
    refine (writeS_calls _ _ (([] ++ A2) ++ Q) lineT w4 HI.out.buf (Nat.le_of_lt HI.out.lt) (by have := HSZ.out; have := HA2l.out; have := HQL.out; rw [show lineT.length = 11 from rfl]; simp only [List.length_append, List.length_nil]; omega)).mono ?_
    rintro e w5 ⟨⟨vw, rfl⟩, hbu, hbb⟩
    have HI2 := Lib.hid (HI.out.step hbu hbb)
    clear hbu hbb HI
    have HI := HI2
    clear HI2
    obtain ⟨P0, hP0⟩ : ∃ P, (([] ++ A2) ++ Q) ++ lineT = P := ⟨_, rfl⟩
    have HP0l : Hid (P0.length ≤ m.length + u.length + qy.length + 13) := Lib.hid (by have := HA2l.out; have := HQL.out; rw [← hP0]; simp only [List.length_append, List.length_nil, show lineT.length = 11 from rfl]; omega)
    rw [hP0] at HI HTE
    clear hP0 HA2l HQL
    have a3 := HI.out.r1.cell 3 _ rfl
    go_wp2_with fail
    clear a3
    go_loopg [28] hs.length (fun k i wr => ∃ j : Nat, k = hs.length - j ∧ j ≤ hs.length ∧ i = .int .i64 (j : Int) ∧ ByI w wr [.string ⟨m.toArray⟩, .string ⟨u.toArray⟩, .string ⟨qy.toArray⟩, .slice p1 hs.length c1, .slice b1 bd.length e1, .bool cl] (P0 ++ (hs.take j).flatMap hdrT))
    case atStart => exact ⟨0, rfl, Nat.zero_le _, rfl, by rw [List.take_zero]; simpa using HI.out⟩
    case round =>
      obtain ⟨j, hk, hj, rfl, hi⟩ := hrel
      have Hk := Lib.hid hk
      clear HI
      have HI := Lib.hid hi
      clear hk hi
      by_cases hlt : j < hs.length
      ·
        have hlt2 : (j : Int) < hs.length := by omega
        obtain ⟨g1, o1, rfl⟩ := HP.out (by omega)
        have y1 := (HH0.out.below HI.out.b).at j hlt
        have HST := Lib.hid (flat_take hs j hlt)
        have hf1 := flat_le hs j
        have hf2 := flat_le hs (j + 1)
        rw [HST.out] at hf2
        have HF1 := Lib.hid hf1
        have HF2 := Lib.hid hf2
        clear hf1 hf2
        generalize (hs.take j).flatMap hdrT = FT at *
        generalize hs.getD j ⟨[], []⟩ = d at *
        obtain ⟨nm, vl⟩ := d
        dsimp only at y1
        have hal : Below wr.heap.size wr (wr.alloc (Obj.cells #[Value.string { data := nm.toArray }, Value.string { data := vl.toArray }] 61)) := (Below.refl _ _).alloc (Nat.le_refl _) _
        have RH := RowAt.new wr #[Value.string { data := nm.toArray }, Value.string { data := vl.toArray }] 61
        have HI2 := Lib.hid (HI.out.below hal)
        have z0 := RH.cell 0 _ rfl
        have z1 := RH.cell 1 _ rfl
        clear HI RH hal
        have HI := HI2
        clear HI2
        go_upto_region 9 with fail
        obtain ⟨g6, hg6⟩ : ∃ x, wr.heap.size = x := ⟨_, rfl⟩
        rw [hg6] at z0 z1 ⊢
        generalize wr.alloc (Obj.cells #[Value.string { data := nm.toArray }, Value.string { data := vl.toArray }] 61) = w6 at *
        clear hg6
        obtain ⟨D1, hD1⟩ : ∃ D, nm ++ [58] = D := ⟨_, rfl⟩
        obtain ⟨D2, hD2⟩ : ∃ D, nm ++ 58 :: vl = D := ⟨_, rfl⟩
        obtain ⟨D3, hD3⟩ : ∃ D, hdrT ⟨nm, vl⟩ = D := ⟨_, rfl⟩
        have hd1 : (⟨nm.toArray⟩ : ByteArray) ++ ⟨#[58]⟩ = ⟨D1.toArray⟩ := by rw [← hD1]; exact bytes_app nm [58]
        have hd2 : (⟨D1.toArray⟩ : ByteArray) ++ ⟨vl.toArray⟩ = ⟨D2.toArray⟩ := by rw [bytes_app, ← hD1, ← hD2]; simp
        have hd3 : (⟨D2.toArray⟩ : ByteArray) ++ ⟨#[13, 10]⟩ = ⟨D3.toArray⟩ := by rw [← hD2, ← hD3]; unfold hdrT; exact (bytes_app _ [13, 10]).trans (by simp)
        rw [hD3] at HF2
        have hD3l : D3.length = nm.length + vl.length + 3 := by rw [← hD3]; unfold hdrT; simp; omega
        have hD2l : D2.length = nm.length + vl.length + 1 := by rw [← hD2]; simp; omega
        have hD1l : D1.length = nm.length + 1 := by rw [← hD1]; simp
        have hD3b : D3.length ≤ 90000000 := by have := HF2.out; have := HSZ.out; rw [List.length_append] at *; omega
        have q1 : ¬ 9223372036854775807 < nm.length + 1 := by omega
        have q2 : ¬ 9223372036854775807 < D1.length + vl.length := by omega
        have q3 : ¬ 9223372036854775807 < D2.length + 2 := by omega
        rw [hD3] at HST
        have HD3b := Lib.hid hD3b
        clear hD1 hD2 hD3 hD1l hD2l hD3l hD3b
        go_wp2_with fail
        refine (writeS_calls _ _ (P0 ++ FT) D3 w6 HI.out.buf (Nat.le_of_lt HI.out.lt) (by have := HSZ.out; have := HP0l.out; have := HF1.out; have := HD3b.out; rw [List.length_append]; omega)).mono ?_
        rintro e w7 ⟨⟨vw, rfl⟩, hbu, hbb⟩
        have HI2 := Lib.hid (HI.out.step hbu hbb)
        clear hbu hbb HI
        have HI := HI2
        clear HI2
        go_wp2_with fail
        go_roundg (hs.length - (j + 1))
        case measure => have := Hk.out; omega
        case rel => exact ⟨j + 1, rfl, by omega, by go_num, by rw [HST.out, ← List.append_assoc]; exact HI.out⟩
      ·
        obtain rfl : j = hs.length := by omega
        have hlt2 : ¬ (hs.length : Int) < hs.length := by omega
        rw [List.take_length] at HI
        generalize hs.flatMap hdrT = FT at *
        obtain ⟨P1, hP1⟩ : ∃ P, P0 ++ FT = P := ⟨_, rfl⟩
        have HP1l : Hid (P1.length ≤ m.length + u.length + qy.length + FT.length + 13) := Lib.hid (by have := HP0l.out; rw [← hP1, List.length_append]; omega)
        rw [hP1] at HI HTE
        clear hP1 HP0l
        go_wp2_with fail
        refine (writeS_calls _ _ P1 [13, 10] wr HI.out.buf (Nat.le_of_lt HI.out.lt) (by have := HSZ.out; have := HP1l.out; simp; omega)).mono ?_
        rintro e w8 ⟨⟨vw, rfl⟩, hbu, hbb⟩
        have HI2 := Lib.hid (HI.out.step hbu hbb)
        clear hbu hbb HI
        have HI := HI2
        clear HI2
        have a4 := HI.out.r1.cell 4 _ rfl
        go_wp2_with fail
        refine (write_calls _ _ (P1 ++ [13, 10]) bd w8 _ HI.out.buf (Nat.le_of_lt HI.out.lt) (HB0.out.below HI.out.b) (fun hm k hk => by rcases HB0.out.cases with ⟨h9, _⟩ | ⟨_, h9⟩; (· exact absurd h9 hm); have := h9.lt k hk; omega) (by have := HSZ.out; have := HP1l.out; rw [List.length_append]; simp; omega)).mono ?_
        rintro e w9 ⟨⟨vw, rfl⟩, hbu, hbb⟩
        have HI2 := Lib.hid (HI.out.step hbu hbb)
        clear hbu hbb HI a4
        have HI := HI2
        clear HI2
        rw [HTE.out, HT.out] at HI
        clear HTE HP1l
        go_wp2_with fail
        refine (new_calls w9).mono ?_
        rintro e w10 ⟨rfl, hcn, hbn⟩
        have HCN := Lib.hid hcn
        have HBN := Lib.hid hbn
        have hsz9 : w9.heap.size ≤ w10.heap.size := hbn.size
        clear hcn hbn
        go_wp2_with fail
        refine (bufBytes_calls _ _ T w10 (HI.out.buf.below HBN.out)).mono ?_
        rintro e w11 ⟨bv, rfl, hbv, hb11⟩
        have HBV := Lib.hid (BytV.byts hbv)
        have HC11 := Lib.hid (HCN.out.below hb11)
        have HB11 := Lib.hid (HBN.out.trans (hb11.mono hsz9))
        clear hbv hb11 HCN HBN
        go_wp2_with fail
        refine (take_calls w w11 He.out (HI.out.b.trans (HB11.out.mono HI.out.b.size)) HC11.out (HI.out.b.size) HBV.out (by have := HTL.out; simp; omega)).mono ?_
        rintro e w12 ⟨Bt, xt, rs, vt, rfl, hBt, hrs, hm, hcn, hap, hfr, hown⟩
        simp only [takeS_live, List.nil_append] at hm hcn ⊢
        have hb12 : Below w9.heap.size w9 w12 := HB11.out.trans ((hap.below HB11.out.size (fun i hi h9 => by rcases h9 with h9 | h9; (· omega); exact absurd h9 (by intro h8; cases h8))))
        have HI2 := Lib.hid (HI.out.below hb12)
        clear HI HBV HC11 HB11
        have HI := HI2
        clear HI2
        obtain ⟨⟨R1, E, R3, R4⟩, hR⟩ : ∃ R, runA T = R := ⟨_, rfl⟩
        rw [hR] at hm hcn ⊢
        dsimp only at hm hcn ⊢
        have HR := Lib.hid hR
        have HM := Lib.hid hm
        have HRS := Lib.hid hrs
        have HCN := Lib.hid hcn
        obtain ⟨px, cx, rfl⟩ := hrs.forms
        clear hb12 hap hfr hown hBt hR hm hrs hcn
        go_upto_region 15 with fail
        have HId := Lib.hid (HI.out.below (Below.refl _ _).drew)
        by_cases hE : E = 0
        rotate_left
        ·
          have gE : (E != 0) = true := by rw [bne_iff_ne]; exact hE
          have HE := Lib.hid hE
          have hS0 : (fun _ : World => True) w12.drew := trivial
          clear hE
          refine wp_region_held_drew (S := (fun _ : World => True)) (by kernel_rfl) hS0 (fun hHeld0 => ?_)
          generalize w12.drew = wd at *
          refine held_take (i := 0) (v := ?_) rfl (by kernel_rfl) (by kernel_rfl) (by kernel_rfl) (fun _ _ _ h => h) (by rfl) (fun wq hSq => ?_) hHeld0 ?_
          rotate_left
          · (try dsimp only at hSq); go_simp; try with_reducible rfl
          simp only [Act.put, List.setIfInBounds_toArray, List.set_cons_zero, List.set_cons_succ]
          refine held_take (i := 1) (v := ?_) rfl (by kernel_rfl) (by kernel_rfl) (by kernel_rfl) (fun _ _ _ h => h) (by rfl) (fun wq hSq => ?_) hHeld0 ?_
          rotate_left
          · (try dsimp only at hSq); go_simp; try with_reducible rfl
          simp only [Act.put, List.setIfInBounds_toArray, List.set_cons_zero, List.set_cons_succ]
          refine held_take (i := 2) (v := ?_) rfl (by kernel_rfl) (by kernel_rfl) (by kernel_rfl) (fun _ _ _ h => h) (by rfl) (fun wq hSq => ?_) hHeld0 ?_
          rotate_left
          · (try dsimp only at hSq); go_simp; try with_reducible rfl
          simp only [Act.put, List.setIfInBounds_toArray, List.set_cons_zero, List.set_cons_succ]
          refine held_skip (i := 3) rfl (by kernel_rfl) (by kernel_rfl) (by kernel_rfl) (fun _ _ _ h => h) (by rfl) hHeld0 ?_
          simp only [Act.put, List.setIfInBounds_toArray, List.set_cons_zero, List.set_cons_succ]
          refine held_skip (i := 4) rfl (by kernel_rfl) (by kernel_rfl) (by kernel_rfl) (fun _ _ _ h => h) (by rfl) hHeld0 ?_
          simp only [Act.put, List.setIfInBounds_toArray, List.set_cons_zero, List.set_cons_succ]
          refine held_skip (i := 5) rfl (by kernel_rfl) (by kernel_rfl) (by kernel_rfl) (fun _ _ _ h => h) (by rfl) hHeld0 ?_
          simp only [Act.put, List.setIfInBounds_toArray, List.set_cons_zero, List.set_cons_succ]
          refine held_take (i := 6) (v := ?_) rfl (by kernel_rfl) (by kernel_rfl) (by kernel_rfl) (fun _ _ _ h => h) (by rfl) (fun wq hSq => ?_) hHeld0 ?_
          rotate_left
          · (try dsimp only at hSq); go_simp; try with_reducible rfl
          simp only [Act.put, List.setIfInBounds_toArray, List.set_cons_zero, List.set_cons_succ]
          refine held_take (i := 7) (v := ?_) rfl (by kernel_rfl) (by kernel_rfl) (by kernel_rfl) (fun _ _ _ h => h) (by rfl) (fun wq hSq => ?_) hHeld0 ?_
          rotate_left
          · (try dsimp only at hSq); go_simp; try with_reducible rfl
          simp only [Act.put, List.setIfInBounds_toArray, List.set_cons_zero, List.set_cons_succ]
          refine held_skip (i := 8) rfl (by kernel_rfl) (by kernel_rfl) (by kernel_rfl) (fun _ _ _ h => h) (by rfl) hHeld0 ?_
          simp only [Act.put, List.setIfInBounds_toArray, List.set_cons_zero, List.set_cons_succ]
          refine held_skip (i := 9) rfl (by kernel_rfl) (by kernel_rfl) (by kernel_rfl) (fun _ _ _ h => h) (by rfl) hHeld0 ?_
          simp only [Act.put, List.setIfInBounds_toArray, List.set_cons_zero, List.set_cons_succ]
          refine held_skip (i := 10) rfl (by kernel_rfl) (by kernel_rfl) (by kernel_rfl) (fun _ _ _ h => h) (by rfl) hHeld0 ?_
          simp only [Act.put, List.setIfInBounds_toArray, List.set_cons_zero, List.set_cons_succ]
          refine held_skip (i := 11) rfl (by kernel_rfl) (by kernel_rfl) (by kernel_rfl) (fun _ _ _ h => h) (by rfl) hHeld0 ?_
          simp only [Act.put, List.setIfInBounds_toArray, List.set_cons_zero, List.set_cons_succ]
          refine held_skip (i := 12) rfl (by kernel_rfl) (by kernel_rfl) (by kernel_rfl) (fun _ _ _ h => h) (by rfl) hHeld0 ?_
          simp only [Act.put, List.setIfInBounds_toArray, List.set_cons_zero, List.set_cons_succ]
          refine held_skip (i := 13) rfl (by kernel_rfl) (by kernel_rfl) (by kernel_rfl) (fun _ _ _ h => h) (by rfl) hHeld0 ?_
          simp only [Act.put, List.setIfInBounds_toArray, List.set_cons_zero, List.set_cons_succ]
          refine held_take (i := 14) (v := ?_) rfl (by kernel_rfl) (by kernel_rfl) (by kernel_rfl) (fun _ _ _ h => h) (by rfl) (fun wq hSq => ?_) hHeld0 ?_
          rotate_left
          · (try dsimp only at hSq); go_simp; try with_reducible rfl
          simp only [Act.put, List.setIfInBounds_toArray, List.set_cons_zero, List.set_cons_succ]
          refine held_take (i := 15) (v := ?_) rfl (by kernel_rfl) (by kernel_rfl) (by kernel_rfl) (fun _ _ _ h => h) (by rfl) (fun wq hSq => ?_) hHeld0 ?_
          rotate_left
          · (try dsimp only at hSq); go_simp; try with_reducible rfl
          simp only [Act.put, List.setIfInBounds_toArray, List.set_cons_zero, List.set_cons_succ]
          refine held_skip (i := 16) rfl (by kernel_rfl) (by kernel_rfl) (by kernel_rfl) (fun _ _ _ h => h) (by rfl) hHeld0 ?_
          simp only [Act.put, List.setIfInBounds_toArray, List.set_cons_zero, List.set_cons_succ]
          refine held_skip (i := 17) rfl (by kernel_rfl) (by kernel_rfl) (by kernel_rfl) (fun _ _ _ h => h) (by rfl) hHeld0 ?_
          simp only [Act.put, List.setIfInBounds_toArray, List.set_cons_zero, List.set_cons_succ]
          refine held_skip (i := 18) rfl (by kernel_rfl) (by kernel_rfl) (by kernel_rfl) (fun _ _ _ h => h) (by rfl) hHeld0 ?_
          simp only [Act.put, List.setIfInBounds_toArray, List.set_cons_zero, List.set_cons_succ]
          refine held_take (i := 19) (v := ?_) rfl (by kernel_rfl) (by kernel_rfl) (by kernel_rfl) (fun _ _ _ h => h) (by rfl) (fun wq hSq => ?_) hHeld0 ?_
          rotate_left
          · (try dsimp only at hSq); go_simp; try with_reducible rfl
          simp only [Act.put, List.setIfInBounds_toArray, List.set_cons_zero, List.set_cons_succ]
          refine wpAnyH_done (by kernel_rfl) ?_ _
          clear hHeld0
          go_wp2_with fail
          go_ret2
          exact ⟨.inr ⟨(fun hbk => by unfold BackB at hbk; rw [HT.out, HR.out] at hbk; exact HE.out hbk.1), rfl⟩, HId.out.b⟩
        subst hE
        by_cases hL : rs.length = 1
        rotate_left
        ·
          have gL : ((rs.length : Int) != 1) = true := by rw [bne_iff_ne]; omega
          have HL := Lib.hid hL
          have hS0 : (fun _ : World => True) w12.drew := trivial
          clear hL
          refine wp_region_held_drew (S := (fun _ : World => True)) (by kernel_rfl) hS0 (fun hHeld0 => ?_)
          generalize w12.drew = wd at *
          refine held_take (i := 0) (v := ?_) rfl (by kernel_rfl) (by kernel_rfl) (by kernel_rfl) (fun _ _ _ h => h) (by rfl) (fun wq hSq => ?_) hHeld0 ?_
          rotate_left
          · (try dsimp only at hSq); go_simp; try with_reducible rfl
          simp only [Act.put, List.setIfInBounds_toArray, List.set_cons_zero, List.set_cons_succ]
          refine held_take (i := 1) (v := ?_) rfl (by kernel_rfl) (by kernel_rfl) (by kernel_rfl) (fun _ _ _ h => h) (by rfl) (fun wq hSq => ?_) hHeld0 ?_
          rotate_left
          · (try dsimp only at hSq); go_simp; try with_reducible rfl
          simp only [Act.put, List.setIfInBounds_toArray, List.set_cons_zero, List.set_cons_succ]
          refine held_take (i := 2) (v := ?_) rfl (by kernel_rfl) (by kernel_rfl) (by kernel_rfl) (fun _ _ _ h => h) (by rfl) (fun wq hSq => ?_) hHeld0 ?_
          rotate_left
          · (try dsimp only at hSq); go_simp; try with_reducible rfl
          simp only [Act.put, List.setIfInBounds_toArray, List.set_cons_zero, List.set_cons_succ]
          refine held_take (i := 3) (v := ?_) rfl (by kernel_rfl) (by kernel_rfl) (by kernel_rfl) (fun _ _ _ h => h) (by rfl) (fun wq hSq => ?_) hHeld0 ?_
          rotate_left
          · (try dsimp only at hSq); go_simp; try with_reducible rfl
          simp only [Act.put, List.setIfInBounds_toArray, List.set_cons_zero, List.set_cons_succ]
          refine held_take (i := 4) (v := ?_) rfl (by kernel_rfl) (by kernel_rfl) (by kernel_rfl) (fun _ _ _ h => h) (by rfl) (fun wq hSq => ?_) hHeld0 ?_
          rotate_left
          · (try dsimp only at hSq); go_simp; try with_reducible rfl
          simp only [Act.put, List.setIfInBounds_toArray, List.set_cons_zero, List.set_cons_succ]
          refine held_take (i := 5) (v := ?_) rfl (by kernel_rfl) (by kernel_rfl) (by kernel_rfl) (fun _ _ _ h => h) (by rfl) (fun wq hSq => ?_) hHeld0 ?_
          rotate_left
          · (try dsimp only at hSq); go_simp; try with_reducible rfl
          simp only [Act.put, List.setIfInBounds_toArray, List.set_cons_zero, List.set_cons_succ]
          refine held_take (i := 6) (v := ?_) rfl (by kernel_rfl) (by kernel_rfl) (by kernel_rfl) (fun _ _ _ h => h) (by rfl) (fun wq hSq => ?_) hHeld0 ?_
          rotate_left
          · (try dsimp only at hSq); go_simp; try with_reducible rfl
          simp only [Act.put, List.setIfInBounds_toArray, List.set_cons_zero, List.set_cons_succ]
          refine held_take (i := 7) (v := ?_) rfl (by kernel_rfl) (by kernel_rfl) (by kernel_rfl) (fun _ _ _ h => h) (by rfl) (fun wq hSq => ?_) hHeld0 ?_
          rotate_left
          · (try dsimp only at hSq); go_simp; try with_reducible rfl
          simp only [Act.put, List.setIfInBounds_toArray, List.set_cons_zero, List.set_cons_succ]
          refine held_skip (i := 8) rfl (by kernel_rfl) (by kernel_rfl) (by kernel_rfl) (fun _ _ _ h => h) (by rfl) hHeld0 ?_
          simp only [Act.put, List.setIfInBounds_toArray, List.set_cons_zero, List.set_cons_succ]
          refine held_skip (i := 9) rfl (by kernel_rfl) (by kernel_rfl) (by kernel_rfl) (fun _ _ _ h => h) (by rfl) hHeld0 ?_
          simp only [Act.put, List.setIfInBounds_toArray, List.set_cons_zero, List.set_cons_succ]
          refine held_skip (i := 10) rfl (by kernel_rfl) (by kernel_rfl) (by kernel_rfl) (fun _ _ _ h => h) (by rfl) hHeld0 ?_
          simp only [Act.put, List.setIfInBounds_toArray, List.set_cons_zero, List.set_cons_succ]
          refine held_skip (i := 11) rfl (by kernel_rfl) (by kernel_rfl) (by kernel_rfl) (fun _ _ _ h => h) (by rfl) hHeld0 ?_
          simp only [Act.put, List.setIfInBounds_toArray, List.set_cons_zero, List.set_cons_succ]
          refine held_skip (i := 12) rfl (by kernel_rfl) (by kernel_rfl) (by kernel_rfl) (fun _ _ _ h => h) (by rfl) hHeld0 ?_
          simp only [Act.put, List.setIfInBounds_toArray, List.set_cons_zero, List.set_cons_succ]
          refine held_skip (i := 13) rfl (by kernel_rfl) (by kernel_rfl) (by kernel_rfl) (fun _ _ _ h => h) (by rfl) hHeld0 ?_
          simp only [Act.put, List.setIfInBounds_toArray, List.set_cons_zero, List.set_cons_succ]
          refine held_take (i := 14) (v := ?_) rfl (by kernel_rfl) (by kernel_rfl) (by kernel_rfl) (fun _ _ _ h => h) (by rfl) (fun wq hSq => ?_) hHeld0 ?_
          rotate_left
          · (try dsimp only at hSq); go_simp; try with_reducible rfl
          simp only [Act.put, List.setIfInBounds_toArray, List.set_cons_zero, List.set_cons_succ]
          refine held_take (i := 15) (v := ?_) rfl (by kernel_rfl) (by kernel_rfl) (by kernel_rfl) (fun _ _ _ h => h) (by rfl) (fun wq hSq => ?_) hHeld0 ?_
          rotate_left
          · (try dsimp only at hSq); go_simp; try with_reducible rfl
          simp only [Act.put, List.setIfInBounds_toArray, List.set_cons_zero, List.set_cons_succ]
          refine held_skip (i := 16) rfl (by kernel_rfl) (by kernel_rfl) (by kernel_rfl) (fun _ _ _ h => h) (by rfl) hHeld0 ?_
          simp only [Act.put, List.setIfInBounds_toArray, List.set_cons_zero, List.set_cons_succ]
          refine held_skip (i := 17) rfl (by kernel_rfl) (by kernel_rfl) (by kernel_rfl) (fun _ _ _ h => h) (by rfl) hHeld0 ?_
          simp only [Act.put, List.setIfInBounds_toArray, List.set_cons_zero, List.set_cons_succ]
          refine held_skip (i := 18) rfl (by kernel_rfl) (by kernel_rfl) (by kernel_rfl) (fun _ _ _ h => h) (by rfl) hHeld0 ?_
          simp only [Act.put, List.setIfInBounds_toArray, List.set_cons_zero, List.set_cons_succ]
          refine held_take (i := 19) (v := ?_) rfl (by kernel_rfl) (by kernel_rfl) (by kernel_rfl) (fun _ _ _ h => h) (by rfl) (fun wq hSq => ?_) hHeld0 ?_
          rotate_left
          · (try dsimp only at hSq); go_simp; try with_reducible rfl
          simp only [Act.put, List.setIfInBounds_toArray, List.set_cons_zero, List.set_cons_succ]
          refine wpAnyH_done (by kernel_rfl) ?_ _
          clear hHeld0
          go_wp2_with fail
          go_ret2
          exact ⟨.inr ⟨(fun hbk => by unfold BackB at hbk; rw [HT.out, HR.out] at hbk; exact HL.out (by have h9 := congrArg List.length (HM.out.trans hbk.2.1); simpa using h9)), rfl⟩, HId.out.b⟩
        obtain ⟨r1, hr1⟩ := List.length_eq_one_iff.1 hL
        have HR1 := Lib.hid hr1
        obtain ⟨gt, ot, hpx⟩ : ∃ gt, ∃ ot : Unit, px = some ⟨gt, 0, none⟩ := by
          rcases HRS.out.row.2 with ⟨h9, h8⟩ | ⟨g, c, cur, h9, _⟩
          · omega
          · simp only [Value.slice.injEq] at h9; exact ⟨g, (), h9.1⟩
        subst hpx
        have HQ := Lib.hid (HRS.out.req (r := r1) (by rw [hr1]; exact List.mem_singleton.2 rfl))
        have y0 := HRS.out.at rfl (j := 0) (r := r1) (by rw [hr1]; rfl) 0 (by decide)
        have y1 := HRS.out.at rfl (j := 0) (r := r1) (by rw [hr1]; rfl) 1 (by decide)
        have y2 := HRS.out.at rfl (j := 0) (r := r1) (by rw [hr1]; rfl) 2 (by decide)
        have y3 := HRS.out.at rfl (j := 0) (r := r1) (by rw [hr1]; rfl) 3 (by decide)
        have y4 := HRS.out.at rfl (j := 0) (r := r1) (by rw [hr1]; rfl) 4 (by decide)
        have y5 := HRS.out.at rfl (j := 0) (r := r1) (by rw [hr1]; rfl) 5 (by decide)
        rw [hL] at HRS ⊢
        clear hr1 hL
        obtain ⟨⟨m2, u2, q2, hs2, bd2, cl2⟩, hv2, bv2⟩ := r1
        simp only [reqCells, reqVal, List.getElem?_cons_zero, List.getElem?_cons_succ, Nat.zero_mul, Nat.zero_add] at HQ y0 y1 y2 y3 y4 y5
        have a0 := HI.out.r1.cell 0 _ rfl
        have a1 := HI.out.r1.cell 1 _ rfl
        have a2 := HI.out.r1.cell 2 _ rfl
        have a3 := HI.out.r1.cell 3 _ rfl
        have a4 := HI.out.r1.cell 4 _ rfl
        have a5 := HI.out.r1.cell 5 _ rfl
        have HQd := Lib.hid (HQ.out.below (Below.refl _ _).drew)
        have HCd := Lib.hid (HCN.out.below (Below.refl _ _).drew)
        have HRd := Lib.hid (HRS.out.below (Below.refl _ _).drew)
        have HXd : Hid (ReqS w12.drew (.agg #[.string ⟨m.toArray⟩, .string ⟨u.toArray⟩, .string ⟨qy.toArray⟩, .slice p1 hs.length c1, .slice b1 bd.length e1, .bool cl]) ⟨m, u, qy, hs, bd, cl⟩) := ⟨_, _, rfl, HH0.out.below HId.out.b, HB0.out.below HId.out.b⟩
        have hS0 : (fun W => W.cell? ⟨gt, 0, none⟩ = some (.string ⟨m2.toArray⟩) ∧ W.cell? ⟨gt, 1, none⟩ = some (.string ⟨u2.toArray⟩) ∧ W.cell? ⟨gt, 2, none⟩ = some (.string ⟨q2.toArray⟩) ∧ W.cell? ⟨gt, 3, none⟩ = some (hv2) ∧ W.cell? ⟨gt, 4, none⟩ = some (bv2) ∧ W.cell? ⟨gt, 5, none⟩ = some (.bool cl2) ∧ W.cell? ⟨w.heap.size, 0, none⟩ = some (.string ⟨m.toArray⟩) ∧ W.cell? ⟨w.heap.size, 1, none⟩ = some (.string ⟨u.toArray⟩) ∧ W.cell? ⟨w.heap.size, 2, none⟩ = some (.string ⟨qy.toArray⟩) ∧ W.cell? ⟨w.heap.size, 3, none⟩ = some (.slice p1 hs.length c1) ∧ W.cell? ⟨w.heap.size, 4, none⟩ = some (.slice b1 bd.length e1) ∧ W.cell? ⟨w.heap.size, 5, none⟩ = some (.bool cl)) w12.drew := ⟨y0, y1, y2, y3, y4, y5, a0, a1, a2, a3, a4, a5⟩
        obtain ⟨sm, hsm⟩ : ∃ b, eqB (⟨m2, u2, q2, hs2, bd2, cl2⟩ : Req) ⟨m, u, qy, hs, bd, cl⟩ = b := ⟨_, rfl⟩
        have HSM := Lib.hid hsm
        clear hsm HI HCN HRS HQ
        have Y0 := Lib.hid (show w12.drew.cell? ⟨gt, 0, none⟩ = _ from y0)
        have Y1 := Lib.hid (show w12.drew.cell? ⟨gt, 1, none⟩ = _ from y1)
        have Y2 := Lib.hid (show w12.drew.cell? ⟨gt, 2, none⟩ = _ from y2)
        have Y3 := Lib.hid (show w12.drew.cell? ⟨gt, 3, none⟩ = _ from y3)
        have Y4 := Lib.hid (show w12.drew.cell? ⟨gt, 4, none⟩ = _ from y4)
        have Y5 := Lib.hid (show w12.drew.cell? ⟨gt, 5, none⟩ = _ from y5)
        cases sm with
        | false =>
          have HGT : Hid (gt < w12.drew.heap.size) := Lib.hid (by have h9 := (World.ownsRow.lt HRd.out.row gt rfl).2; exact h9)
          clear HRd
          refine wp_region_held_drew (S := (fun W => W.cell? ⟨gt, 0, none⟩ = some (.string ⟨m2.toArray⟩) ∧ W.cell? ⟨gt, 1, none⟩ = some (.string ⟨u2.toArray⟩) ∧ W.cell? ⟨gt, 2, none⟩ = some (.string ⟨q2.toArray⟩) ∧ W.cell? ⟨gt, 3, none⟩ = some (hv2) ∧ W.cell? ⟨gt, 4, none⟩ = some (bv2) ∧ W.cell? ⟨gt, 5, none⟩ = some (.bool cl2) ∧ W.cell? ⟨w.heap.size, 0, none⟩ = some (.string ⟨m.toArray⟩) ∧ W.cell? ⟨w.heap.size, 1, none⟩ = some (.string ⟨u.toArray⟩) ∧ W.cell? ⟨w.heap.size, 2, none⟩ = some (.string ⟨qy.toArray⟩) ∧ W.cell? ⟨w.heap.size, 3, none⟩ = some (.slice p1 hs.length c1) ∧ W.cell? ⟨w.heap.size, 4, none⟩ = some (.slice b1 bd.length e1) ∧ W.cell? ⟨w.heap.size, 5, none⟩ = some (.bool cl))) (by kernel_rfl) hS0 (fun hHeld0 => ?_)
          generalize w12.drew = wd at *
          refine held_take (i := 0) (v := ?_) rfl (by kernel_rfl) (by kernel_rfl) (by kernel_rfl) (fun _ _ _ h => h) (by rfl) (fun wq hSq => ?_) hHeld0 ?_
          rotate_left
          · (try dsimp only at hSq); go_simp; try with_reducible rfl
          simp only [Act.put, List.setIfInBounds_toArray, List.set_cons_zero, List.set_cons_succ]
          refine held_take (i := 1) (v := ?_) rfl (by kernel_rfl) (by kernel_rfl) (by kernel_rfl) (fun _ _ _ h => h) (by rfl) (fun wq hSq => ?_) hHeld0 ?_
          rotate_left
          · (try dsimp only at hSq); go_simp; try with_reducible rfl
          simp only [Act.put, List.setIfInBounds_toArray, List.set_cons_zero, List.set_cons_succ]
          refine held_take (i := 2) (v := ?_) rfl (by kernel_rfl) (by kernel_rfl) (by kernel_rfl) (fun _ _ _ h => h) (by rfl) (fun wq hSq => ?_) hHeld0 ?_
          rotate_left
          · (try dsimp only at hSq); go_simp; try with_reducible rfl
          simp only [Act.put, List.setIfInBounds_toArray, List.set_cons_zero, List.set_cons_succ]
          refine held_take (i := 3) (v := ?_) rfl (by kernel_rfl) (by kernel_rfl) (by kernel_rfl) (fun _ _ _ h => h) (by rfl) (fun wq hSq => ?_) hHeld0 ?_
          rotate_left
          · (try dsimp only at hSq); go_simp; try with_reducible rfl
          simp only [Act.put, List.setIfInBounds_toArray, List.set_cons_zero, List.set_cons_succ]
          refine held_take (i := 4) (v := ?_) rfl (by kernel_rfl) (by kernel_rfl) (by kernel_rfl) (fun _ _ _ h => h) (by rfl) (fun wq hSq => ?_) hHeld0 ?_
          rotate_left
          · (try dsimp only at hSq); go_simp; try with_reducible rfl
          simp only [Act.put, List.setIfInBounds_toArray, List.set_cons_zero, List.set_cons_succ]
          refine held_take (i := 5) (v := ?_) rfl (by kernel_rfl) (by kernel_rfl) (by kernel_rfl) (fun _ _ _ h => h) (by rfl) (fun wq hSq => ?_) hHeld0 ?_
          rotate_left
          · (try dsimp only at hSq); go_simp; try with_reducible rfl
          simp only [Act.put, List.setIfInBounds_toArray, List.set_cons_zero, List.set_cons_succ]
          refine held_take (i := 6) (v := ?_) rfl (by kernel_rfl) (by kernel_rfl) (by kernel_rfl) (fun _ _ _ h => h) (by rfl) (fun wq hSq => ?_) hHeld0 ?_
          rotate_left
          · (try dsimp only at hSq); go_simp; try with_reducible rfl
          simp only [Act.put, List.setIfInBounds_toArray, List.set_cons_zero, List.set_cons_succ]
          refine held_take (i := 7) (v := ?_) rfl (by kernel_rfl) (by kernel_rfl) (by kernel_rfl) (fun _ _ _ h => h) (by rfl) (fun wq hSq => ?_) hHeld0 ?_
          rotate_left
          · (try dsimp only at hSq); go_simp; try with_reducible rfl
          simp only [Act.put, List.setIfInBounds_toArray, List.set_cons_zero, List.set_cons_succ]
          refine held_take (i := 8) (v := ?_) rfl (by kernel_rfl) (by kernel_rfl) (by kernel_rfl) (fun _ _ _ h => h) (by rfl) (fun wq hSq => ?_) hHeld0 ?_
          rotate_left
          · (try dsimp only at hSq); go_simp; try with_reducible rfl
          simp only [Act.put, List.setIfInBounds_toArray, List.set_cons_zero, List.set_cons_succ]
          refine held_take (i := 9) (v := ?_) rfl (by kernel_rfl) (by kernel_rfl) (by kernel_rfl) (fun _ _ _ h => h) (by rfl) (fun wq hSq => ?_) hHeld0 ?_
          rotate_left
          · (try dsimp only at hSq); go_simp; try with_reducible rfl
          simp only [Act.put, List.setIfInBounds_toArray, List.set_cons_zero, List.set_cons_succ]
          refine held_take (i := 10) (v := ?_) rfl (by kernel_rfl) (by kernel_rfl) (by kernel_rfl) (fun _ _ _ h => h) (by rfl) (fun wq hSq => ?_) hHeld0 ?_
          rotate_left
          · (try dsimp only at hSq); go_simp; try with_reducible rfl
          simp only [Act.put, List.setIfInBounds_toArray, List.set_cons_zero, List.set_cons_succ]
          refine held_take (i := 11) (v := ?_) rfl (by kernel_rfl) (by kernel_rfl) (by kernel_rfl) (fun _ _ _ h => h) (by rfl) (fun wq hSq => ?_) hHeld0 ?_
          rotate_left
          · (try dsimp only at hSq); go_simp; try with_reducible rfl
          simp only [Act.put, List.setIfInBounds_toArray, List.set_cons_zero, List.set_cons_succ]
          refine held_step (i := 12) (by kernel_rfl) rfl (by rfl) (fun K hK => ?_)
          go_simp
          refine (sameP_calls wd _ _ _ _ HQd.out HXd.out).mono ?_
          rintro e9 w13 ⟨rfl, hb13⟩
          rw [HSM.out]
          dsimp only
          have HI3 := Lib.hid (HId.out.below hb13)
          have HC3 := Lib.hid (HCd.out.below hb13)
          have hlt13 : ∀ i, w13.cell? ⟨gt, i, none⟩ = wd.cell? ⟨gt, i, none⟩ := fun i => hb13.cell (p := ⟨gt, i, none⟩) HGT.out
          skip
          have x0 := (hlt13 0).trans Y0.out
          have b0 := HI3.out.r1.cell 0 _ rfl
          have x1 := (hlt13 1).trans Y1.out
          have b1 := HI3.out.r1.cell 1 _ rfl
          have x2 := (hlt13 2).trans Y2.out
          have b2 := HI3.out.r1.cell 2 _ rfl
          have x3 := (hlt13 3).trans Y3.out
          have b3 := HI3.out.r1.cell 3 _ rfl
          have x4 := (hlt13 4).trans Y4.out
          have b4 := HI3.out.r1.cell 4 _ rfl
          have x5 := (hlt13 5).trans Y5.out
          have b5 := HI3.out.r1.cell 5 _ rfl
          refine hK.out _ _ ⟨x0, x1, x2, x3, x4, x5, b0, b1, b2, b3, b4, b5⟩ (fun hHeld1 => ?_)
          clear hK K hHeld0
          refine held_take (i := 13) (v := ?_) rfl (by kernel_rfl) (by kernel_rfl) (by kernel_rfl) (fun _ _ _ h => h) (by rfl) (fun wq hSq => ?_) hHeld1 ?_
          rotate_left
          · (try dsimp only at hSq); go_simp; try with_reducible rfl
          simp only [Act.put, List.setIfInBounds_toArray, List.set_cons_zero, List.set_cons_succ]
          refine held_take (i := 14) (v := ?_) rfl (by kernel_rfl) (by kernel_rfl) (by kernel_rfl) (fun _ _ _ h => h) (by rfl) (fun wq hSq => ?_) hHeld1 ?_
          rotate_left
          · (try dsimp only at hSq); go_simp; try with_reducible rfl
          simp only [Act.put, List.setIfInBounds_toArray, List.set_cons_zero, List.set_cons_succ]
          refine held_take (i := 15) (v := ?_) rfl (by kernel_rfl) (by kernel_rfl) (by kernel_rfl) (fun _ _ _ h => h) (by rfl) (fun wq hSq => ?_) hHeld1 ?_
          rotate_left
          · (try dsimp only at hSq); go_simp; try with_reducible rfl
          simp only [Act.put, List.setIfInBounds_toArray, List.set_cons_zero, List.set_cons_succ]
          refine held_skip (i := 16) rfl (by kernel_rfl) (by kernel_rfl) (by kernel_rfl) (fun _ _ _ h => h) (by rfl) hHeld1 ?_
          simp only [Act.put, List.setIfInBounds_toArray, List.set_cons_zero, List.set_cons_succ]
          refine held_skip (i := 17) rfl (by kernel_rfl) (by kernel_rfl) (by kernel_rfl) (fun _ _ _ h => h) (by rfl) hHeld1 ?_
          simp only [Act.put, List.setIfInBounds_toArray, List.set_cons_zero, List.set_cons_succ]
          refine held_skip (i := 18) rfl (by kernel_rfl) (by kernel_rfl) (by kernel_rfl) (fun _ _ _ h => h) (by rfl) hHeld1 ?_
          simp only [Act.put, List.setIfInBounds_toArray, List.set_cons_zero, List.set_cons_succ]
          refine held_take (i := 19) (v := ?_) rfl (by kernel_rfl) (by kernel_rfl) (by kernel_rfl) (fun _ _ _ h => h) (by rfl) (fun wq hSq => ?_) hHeld1 ?_
          rotate_left
          · (try dsimp only at hSq); go_simp; try with_reducible rfl
          simp only [Act.put, List.setIfInBounds_toArray, List.set_cons_zero, List.set_cons_succ]
          refine wpAnyH_done (by kernel_rfl) ?_ _
          clear hHeld1
          go_wp2_with fail
          go_ret2
          exact ⟨.inr ⟨(fun hbk => by unfold BackB at hbk; rw [HT.out, HR.out] at hbk; have h9 := HM.out.trans hbk.2.1; rw [HR1.out] at h9; have h8 : (⟨m2, u2, q2, hs2, bd2, cl2⟩ : Req) = ⟨m, u, qy, hs, bd, cl⟩ := (by simpa using h9); have h7 := HSM.out; rw [eqB_true h8] at h7; cases h7), rfl⟩, HI3.out.b⟩
        | true =>
          have HGT : Hid (gt < w12.drew.heap.size) := Lib.hid (by have h9 := (World.ownsRow.lt HRd.out.row gt rfl).2; exact h9)
          clear HRd
          refine wp_region_held_drew (S := (fun W => W.cell? ⟨gt, 0, none⟩ = some (.string ⟨m2.toArray⟩) ∧ W.cell? ⟨gt, 1, none⟩ = some (.string ⟨u2.toArray⟩) ∧ W.cell? ⟨gt, 2, none⟩ = some (.string ⟨q2.toArray⟩) ∧ W.cell? ⟨gt, 3, none⟩ = some (hv2) ∧ W.cell? ⟨gt, 4, none⟩ = some (bv2) ∧ W.cell? ⟨gt, 5, none⟩ = some (.bool cl2) ∧ W.cell? ⟨w.heap.size, 0, none⟩ = some (.string ⟨m.toArray⟩) ∧ W.cell? ⟨w.heap.size, 1, none⟩ = some (.string ⟨u.toArray⟩) ∧ W.cell? ⟨w.heap.size, 2, none⟩ = some (.string ⟨qy.toArray⟩) ∧ W.cell? ⟨w.heap.size, 3, none⟩ = some (.slice p1 hs.length c1) ∧ W.cell? ⟨w.heap.size, 4, none⟩ = some (.slice b1 bd.length e1) ∧ W.cell? ⟨w.heap.size, 5, none⟩ = some (.bool cl))) (by kernel_rfl) hS0 (fun hHeld0 => ?_)
          generalize w12.drew = wd at *
          refine held_take (i := 0) (v := ?_) rfl (by kernel_rfl) (by kernel_rfl) (by kernel_rfl) (fun _ _ _ h => h) (by rfl) (fun wq hSq => ?_) hHeld0 ?_
          rotate_left
          · (try dsimp only at hSq); go_simp; try with_reducible rfl
          simp only [Act.put, List.setIfInBounds_toArray, List.set_cons_zero, List.set_cons_succ]
          refine held_take (i := 1) (v := ?_) rfl (by kernel_rfl) (by kernel_rfl) (by kernel_rfl) (fun _ _ _ h => h) (by rfl) (fun wq hSq => ?_) hHeld0 ?_
          rotate_left
          · (try dsimp only at hSq); go_simp; try with_reducible rfl
          simp only [Act.put, List.setIfInBounds_toArray, List.set_cons_zero, List.set_cons_succ]
          refine held_take (i := 2) (v := ?_) rfl (by kernel_rfl) (by kernel_rfl) (by kernel_rfl) (fun _ _ _ h => h) (by rfl) (fun wq hSq => ?_) hHeld0 ?_
          rotate_left
          · (try dsimp only at hSq); go_simp; try with_reducible rfl
          simp only [Act.put, List.setIfInBounds_toArray, List.set_cons_zero, List.set_cons_succ]
          refine held_take (i := 3) (v := ?_) rfl (by kernel_rfl) (by kernel_rfl) (by kernel_rfl) (fun _ _ _ h => h) (by rfl) (fun wq hSq => ?_) hHeld0 ?_
          rotate_left
          · (try dsimp only at hSq); go_simp; try with_reducible rfl
          simp only [Act.put, List.setIfInBounds_toArray, List.set_cons_zero, List.set_cons_succ]
          refine held_take (i := 4) (v := ?_) rfl (by kernel_rfl) (by kernel_rfl) (by kernel_rfl) (fun _ _ _ h => h) (by rfl) (fun wq hSq => ?_) hHeld0 ?_
          rotate_left
          · (try dsimp only at hSq); go_simp; try with_reducible rfl
          simp only [Act.put, List.setIfInBounds_toArray, List.set_cons_zero, List.set_cons_succ]
          refine held_take (i := 5) (v := ?_) rfl (by kernel_rfl) (by kernel_rfl) (by kernel_rfl) (fun _ _ _ h => h) (by rfl) (fun wq hSq => ?_) hHeld0 ?_
          rotate_left
          · (try dsimp only at hSq); go_simp; try with_reducible rfl
          simp only [Act.put, List.setIfInBounds_toArray, List.set_cons_zero, List.set_cons_succ]
          refine held_take (i := 6) (v := ?_) rfl (by kernel_rfl) (by kernel_rfl) (by kernel_rfl) (fun _ _ _ h => h) (by rfl) (fun wq hSq => ?_) hHeld0 ?_
          rotate_left
          · (try dsimp only at hSq); go_simp; try with_reducible rfl
          simp only [Act.put, List.setIfInBounds_toArray, List.set_cons_zero, List.set_cons_succ]
          refine held_take (i := 7) (v := ?_) rfl (by kernel_rfl) (by kernel_rfl) (by kernel_rfl) (fun _ _ _ h => h) (by rfl) (fun wq hSq => ?_) hHeld0 ?_
          rotate_left
          · (try dsimp only at hSq); go_simp; try with_reducible rfl
          simp only [Act.put, List.setIfInBounds_toArray, List.set_cons_zero, List.set_cons_succ]
          refine held_take (i := 8) (v := ?_) rfl (by kernel_rfl) (by kernel_rfl) (by kernel_rfl) (fun _ _ _ h => h) (by rfl) (fun wq hSq => ?_) hHeld0 ?_
          rotate_left
          · (try dsimp only at hSq); go_simp; try with_reducible rfl
          simp only [Act.put, List.setIfInBounds_toArray, List.set_cons_zero, List.set_cons_succ]
          refine held_take (i := 9) (v := ?_) rfl (by kernel_rfl) (by kernel_rfl) (by kernel_rfl) (fun _ _ _ h => h) (by rfl) (fun wq hSq => ?_) hHeld0 ?_
          rotate_left
          · (try dsimp only at hSq); go_simp; try with_reducible rfl
          simp only [Act.put, List.setIfInBounds_toArray, List.set_cons_zero, List.set_cons_succ]
          refine held_take (i := 10) (v := ?_) rfl (by kernel_rfl) (by kernel_rfl) (by kernel_rfl) (fun _ _ _ h => h) (by rfl) (fun wq hSq => ?_) hHeld0 ?_
          rotate_left
          · (try dsimp only at hSq); go_simp; try with_reducible rfl
          simp only [Act.put, List.setIfInBounds_toArray, List.set_cons_zero, List.set_cons_succ]
          refine held_take (i := 11) (v := ?_) rfl (by kernel_rfl) (by kernel_rfl) (by kernel_rfl) (fun _ _ _ h => h) (by rfl) (fun wq hSq => ?_) hHeld0 ?_
          rotate_left
          · (try dsimp only at hSq); go_simp; try with_reducible rfl
          simp only [Act.put, List.setIfInBounds_toArray, List.set_cons_zero, List.set_cons_succ]
          refine held_step (i := 12) (by kernel_rfl) rfl (by rfl) (fun K hK => ?_)
          go_simp
          refine (sameP_calls wd _ _ _ _ HQd.out HXd.out).mono ?_
          rintro e9 w13 ⟨rfl, hb13⟩
          rw [HSM.out]
          dsimp only
          have HI3 := Lib.hid (HId.out.below hb13)
          have HC3 := Lib.hid (HCd.out.below hb13)
          have hlt13 : ∀ i, w13.cell? ⟨gt, i, none⟩ = wd.cell? ⟨gt, i, none⟩ := fun i => hb13.cell (p := ⟨gt, i, none⟩) HGT.out
          skip
          have x0 := (hlt13 0).trans Y0.out
          have b0 := HI3.out.r1.cell 0 _ rfl
          have x1 := (hlt13 1).trans Y1.out
          have b1 := HI3.out.r1.cell 1 _ rfl
          have x2 := (hlt13 2).trans Y2.out
          have b2 := HI3.out.r1.cell 2 _ rfl
          have x3 := (hlt13 3).trans Y3.out
          have b3 := HI3.out.r1.cell 3 _ rfl
          have x4 := (hlt13 4).trans Y4.out
          have b4 := HI3.out.r1.cell 4 _ rfl
          have x5 := (hlt13 5).trans Y5.out
          have b5 := HI3.out.r1.cell 5 _ rfl
          refine hK.out _ _ ⟨x0, x1, x2, x3, x4, x5, b0, b1, b2, b3, b4, b5⟩ (fun hHeld1 => ?_)
          clear hK K hHeld0
          refine held_take (i := 13) (v := ?_) rfl (by kernel_rfl) (by kernel_rfl) (by kernel_rfl) (fun _ _ _ h => h) (by rfl) (fun wq hSq => ?_) hHeld1 ?_
          rotate_left
          · (try dsimp only at hSq); go_simp; try with_reducible rfl
          simp only [Act.put, List.setIfInBounds_toArray, List.set_cons_zero, List.set_cons_succ]
          refine held_take (i := 14) (v := ?_) rfl (by kernel_rfl) (by kernel_rfl) (by kernel_rfl) (fun _ _ _ h => h) (by rfl) (fun wq hSq => ?_) hHeld1 ?_
          rotate_left
          · (try dsimp only at hSq); go_simp; try with_reducible rfl
          simp only [Act.put, List.setIfInBounds_toArray, List.set_cons_zero, List.set_cons_succ]
          refine held_take (i := 15) (v := ?_) rfl (by kernel_rfl) (by kernel_rfl) (by kernel_rfl) (fun _ _ _ h => h) (by rfl) (fun wq hSq => ?_) hHeld1 ?_
          rotate_left
          · (try dsimp only at hSq); go_simp; try with_reducible rfl
          simp only [Act.put, List.setIfInBounds_toArray, List.set_cons_zero, List.set_cons_succ]
          refine held_take (i := 16) (v := ?_) rfl (by kernel_rfl) (by kernel_rfl) (by kernel_rfl) (fun _ _ _ h => h) (by rfl) (fun wq hSq => ?_) hHeld1 ?_
          rotate_left
          · (try dsimp only at hSq); go_simp; try with_reducible rfl
          simp only [Act.put, List.setIfInBounds_toArray, List.set_cons_zero, List.set_cons_succ]
          refine held_step (i := 17) (by kernel_rfl) rfl (by rfl) (fun K hK => ?_)
          go_simp
          refine (waiting_calls w13 HC3.out).mono ?_
          rintro e9 w14 ⟨rfl, rfl⟩
          dsimp only
          refine hK.out _ _ ⟨x0, x1, x2, x3, x4, x5, b0, b1, b2, b3, b4, b5⟩ (fun hHeld2 => ?_)
          clear hK K hHeld1
          refine held_take (i := 18) (v := ?_) rfl (by kernel_rfl) (by kernel_rfl) (by kernel_rfl) (fun _ _ _ h => h) (by rfl) (fun wq hSq => ?_) hHeld2 ?_
          rotate_left
          · (try dsimp only at hSq); go_simp; try with_reducible rfl
          simp only [Act.put, List.setIfInBounds_toArray, List.set_cons_zero, List.set_cons_succ]
          refine held_take (i := 19) (v := ?_) rfl (by kernel_rfl) (by kernel_rfl) (by kernel_rfl) (fun _ _ _ h => h) (by rfl) (fun wq hSq => ?_) hHeld2 ?_
          rotate_left
          · (try dsimp only at hSq); go_simp; try with_reducible rfl
          simp only [Act.put, List.setIfInBounds_toArray, List.set_cons_zero, List.set_cons_succ]
          refine wpAnyH_done (by kernel_rfl) ?_ _
          clear hHeld2
          by_cases hW : 0 < R3.length
          ·
            have gW : (0 : Int) < R3.length := by omega
            have HW := Lib.hid hW
            clear hW
            go_wp2_with fail
            go_ret2
            exact ⟨.inr ⟨(fun hbk => by unfold BackB at hbk; rw [HT.out, HR.out] at hbk; have h9 := HW.out; have h8 : R3 = [] := hbk.2.2; rw [h8] at h9; simp at h9), rfl⟩, HI3.out.b⟩
          ·
            have gW : ¬ (0 : Int) < R3.length := by omega
            have HW := Lib.hid hW
            clear hW
            go_wp2_with fail
            refine (bufBytes_calls _ _ T w13 HI3.out.buf).mono ?_
            rintro e w15 ⟨bw, rfl, hbw, hb15⟩
            have HBW := Lib.hid (BytV.byts hbw)
            have HB15 := Lib.hid (HI3.out.b.trans (hb15.mono HI3.out.b.size))
            clear hbw hb15
            go_wp2_with fail
            go_ret2
            refine ⟨.inl ⟨?_, _, rfl, by rw [HT.out]; exact HBW.out⟩, HB15.out⟩
            unfold BackB
            rw [HT.out, HR.out]
            refine ⟨rfl, ?_, ?_⟩
            · have h9 := HM.out
              rw [HR1.out] at h9
              rw [← h9, List.map_cons, List.map_nil, eqB_iff.1 HSM.out]
            · show R3 = []
              exact List.length_eq_zero_iff.1 (by have := HW.out; omega)
end Go.Proofs.YtgdfgppgfkkncaaGreatDoor
