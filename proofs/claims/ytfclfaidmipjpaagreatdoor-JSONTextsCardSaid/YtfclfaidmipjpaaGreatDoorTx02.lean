/- Texts of this claim, joined: Jr5, Jr6. -/
import Derived.Test.YtfclfaidmipjpaaGreatDoorTx01
namespace Go.Proofs.YtfclfaidmipjpaaGreatDoor
set_option maxRecDepth 100000
set_option maxHeartbeats 20000000
open Go.RowKit
theorem takeB_one {b : List UInt8} {n : Nat} (c : UInt8) (h : n < b.length) : takeB b n [c] = (b.getD n 0 == c) := by
 unfold takeB
 rw [drop_at h]
 cases hh : (b.getD n 0 == c) with
 | true => rw [beq_iff_eq] at hh ⊢; rw [← hh]; rfl
 | false => rw [beq_eq_false_iff_ne] at hh ⊢; intro h9; apply hh; simpa using h9
theorem takeB_end {b : List UInt8} {n : Nat} (c : UInt8) (s : List UInt8) (h : b.length ≤ n) : takeB b n (c :: s) = false := by
 unfold takeB
 rw [List.drop_of_length_le h, beq_eq_false_iff_ne]
 simp
def plL : List UInt8 := [34, 92, 47, 98, 102, 110, 114, 116]
def mnL : List UInt8 := [34, 92, 47, 8, 12, 10, 13, 9]
theorem plain_at : ∀ j, j < 8 → plainS (plL.getD j 0) = some (mnL.getD j 0) := by decide
theorem plain_no {c : UInt8} (h : c ∉ plL) : plainS c = none := by
 simp only [plL, List.mem_cons, List.not_mem_nil, or_false, not_or] at h
 unfold plainS
 obtain ⟨h1, h2, h3, h4, h5, h6, h7, h8⟩ := h
 rw [if_neg h1, if_neg h2, if_neg h3, if_neg h4, if_neg h5, if_neg h6, if_neg h7, if_neg h8]
theorem pair_take {b : List UInt8} {m x : Nat} (hx : x < 56320) : pairS x (b.drop m) = if takeB b m [92, 117] then (match hexN 4 0 (b.drop (m + 2)) with
  | some (y, t4) => if 56320 ≤ y ∧ y < 57344 then some (letS (65536 + 1024 * (x - 55296) + y - 56320), t4) else none
  | none => none) else none := by
 unfold pairS
 rw [if_pos hx]
 rcases Nat.lt_or_ge m b.length with h | h
 ·rcases Nat.lt_or_ge (m + 1) b.length with h2 | h2
  ·rw [drop_at h, drop_at h2]
   have ht : takeB b m [92, 117] = (b.getD m 0 == 92 && b.getD (m + 1) 0 == 117) := by
    unfold takeB
    rw [drop_at h, drop_at h2]
    generalize b.getD m 0 = c
    generalize b.getD (m + 1) 0 = d
    rw [Bool.eq_iff_iff]
    simp
   rw [ht]
   by_cases hh : b.getD m 0 = 92 ∧ b.getD (m + 1) 0 = 117
   ·obtain ⟨e1, e2⟩ := hh
    rw [e1, e2]
    rfl
   ·have hf : (b.getD m 0 == 92 && b.getD (m + 1) 0 == 117) = false := by
     rw [Bool.and_eq_false_iff, beq_eq_false_iff_ne, beq_eq_false_iff_ne]
     by_cases h9 : b.getD m 0 = 92
     ·exact .inr (fun h8 => hh ⟨h9, h8⟩)
     ·exact .inl h9
    rw [hf]
    split
    ·rename_i h9
     simp only [List.cons.injEq] at h9
     exact absurd ⟨h9.1, h9.2.1⟩ hh
    ·rfl
  ·have e : b.drop (m + 1) = [] := List.drop_of_length_le h2
   rw [drop_at h, e]
   have ht : takeB b m [92, 117] = false := by
    unfold takeB
    rw [drop_at h, e, beq_eq_false_iff_ne]
    simp
   rw [ht]
   split
   ·rename_i h9; simp at h9
   ·rfl
 ·rw [takeB_end _ _ h, List.drop_of_length_le h]; rfl
def EscTo (w : World) (R : Nat) (b : List UInt8) (n : Nat) (f : Fl) (e : Ending) (w' : World) : Prop :=
 OnlyR R w w' ∧ ((escS [] (b.drop n) = none ∧ ∃ m, m ≤ b.length ∧ e = .returned (.string ⟨([] : List UInt8).toArray⟩) ∧ RdAt w' R b m true f) ∨
  ∃ (u : List UInt8) (m : Nat) (a : Bool), escS [] (b.drop n) = some (u, b.drop m, a) ∧ m ≤ b.length ∧ n < m ∧ u.length ≤ 4 ∧ e = .returned (.string ⟨u.toArray⟩) ∧ RdAt w' R b m false { f with alone := f.alone || a })
theorem RdAt.setBad {w : World} {R : Nat} {b : List UInt8} {n : Nat} {bad : Bool} {f : Fl} (h : RdAt w R b n bad f) (x : Bool) : RdAt (w.setCell ⟨R, 2, none⟩ (.bool x)) R b n x f := RowAt.set h 2 _ (by simp)
theorem RdAt.setAlone {w : World} {R : Nat} {b : List UInt8} {n : Nat} {bad : Bool} {f : Fl} (h : RdAt w R b n bad f) (x : Bool) : RdAt (w.setCell ⟨R, 4, none⟩ (.bool x)) R b n bad { f with alone := x } := RowAt.set h 4 _ (by simp)
theorem letS_len (x : Nat) : (letS x).length ≤ 4 := by
 unfold letS
 split
 ·simp
 split
 ·simp
 split
 ·simp
 ·simp
theorem Fl.or_false (f : Fl) : ({ f with alone := f.alone || false } : Fl) = f := by cases f; simp
theorem escR_calls (w : World) {R : Nat} {b : List UInt8} {n : Nat} {f : Fl} (h : RdAt w R b n false f) (hn : n ≤ b.length) (hl : b.length ≤ 1000000000) :
  Calls Tryz.prog 125 #[.pointer (some ⟨R, 0, none⟩)] w (EscTo w R b n f) := by
 have H := Lib.hid h
 clear h
 go_enter Tryz.func125, Tryz.ntmps125
 go_wp2_with fail
 refine (next_calls w H.out).mono ?_
 rintro e w2 ⟨rfl, hb2⟩
 have H2 := Lib.hid (H.out.below hb2)
 have W2 := Lib.hid (OnlyR.ofBelow (R := R) hb2)
 clear hb2
 have HE : Hid (b.length ≤ n → b.getD n 0 = 0) := Lib.hid (fun h9 => by simp [List.getElem?_eq_none h9])
 have HDR : Hid (n < b.length → b.drop n = b.getD n 0 :: b.drop (n + 1)) := Lib.hid (fun h => drop_at h)
 have HT1 : Hid (n < b.length → takeB b n [117] = (b.getD n 0 == 117)) := Lib.hid (fun h => takeB_one 117 h)
 have hc := (b.getD n 0).toNat_lt
 generalize b.getD n 0 = c at *
 have c1 := H2.out.cell 1 _ rfl
 have f1 := H2.out.free 1
 have hpl : Hid (([34, 92, 47, 98, 102, 110, 114, 116] : List UInt8) = plL) := Lib.hid rfl
 have hmn : Hid (([34, 92, 47, 8, 12, 10, 13, 9] : List UInt8) = mnL) := Lib.hid rfl
 have hwr : IntKind.i64.wrap ((n : Int) + 1) = (n : Int) + 1 := IntWalk.i64_in _ (by omega)
 go_upto_region 3 with fail
 rw [hpl.out, hmn.out]
 have HPA := Lib.hid plain_at
 have HPN : Hid (c ∉ plL → plainS c = none) := Lib.hid plain_no
 have HMB : Hid (∀ j, j < 8 → (⟨mnL.toArray⟩ : ByteArray).extract j (j + 1) = ⟨[mnL.getD j 0].toArray⟩) := Lib.hid (by decide)
 have hz1 : plL.length = 8 := rfl
 have hz2 : mnL.length = 8 := rfl
 clear hpl hmn
 generalize plL = pl at *
 generalize mnL = mn at *
 go_wp2_with fail
 have HZ1 := Lib.hid hz1
 go_loopg [6] 8 (fun k s6 wr => ∃ j : Nat, k = 8 - j ∧ j ≤ 8 ∧ s6 = .int .i64 (j : Int) ∧ (∀ i, i < j → c ≠ pl.getD i 0) ∧ w2 = wr)
 case atStart => exact ⟨0, rfl, by omega, rfl, fun i hi => by omega, rfl⟩
 case round =>
  obtain ⟨j, hk, hj, rfl, hno, rfl⟩ := hrel
  have Hk := Lib.hid hk
  have HNO := Lib.hid hno
  clear hk hno
  by_cases hlt : j < 8
  ·have hlt2 : (j : Int) < pl.length := by omega
   have hjl : j < pl.length := by omega
   have hij := byte_at pl j hjl
   have HP := Lib.hid (HPA.out j hlt)
   have hm := HMB.out j hlt
   have hmm : (j : Int) + 1 ≤ mn.length := by omega
   have hj1 : (j : Int) + 1 ≤ (mn.length : Int) := by omega
   generalize mn.getD j 0 = v at *
   by_cases hcd : c = pl.getD j 0
   ·rw [← hcd] at hij HP
    have hnl : n < b.length := by
     rcases Nat.lt_or_ge n b.length with h9 | h9
     ·exact h9
     ·have h8 := HE.out h9
      have h7 := HP.out
      rw [h8, show plainS 0 = none by decide] at h7
      cases h7
    have HF : Hid (escS [] (b.drop n) = some ([v], b.drop (n + 1), false)) := Lib.hid (by rw [HDR.out hnl]; simp only [escS]; rw [HP.out])
    clear hcd
    have hcc : ((c.toNat : Int) == (c.toNat : Int)) = true := beq_self_eq_true _
    go_wp2_with fail
    go_ret
    refine ⟨(W2.out.set 1 _), .inr ⟨_, n + 1, false, HF.out, by omega, by omega, by simp, rfl, ?_⟩⟩
    rw [Fl.or_false]
    have h9 := H2.out.go (n + 1)
    rw [Int.natCast_add] at h9
    exact h9
   ·have hne : ((c.toNat : Int) == ((pl.getD j 0).toNat : Int)) = false := by
     rw [beq_eq_false_iff_ne]
     intro h9
     exact hcd (UInt8.toNat_inj.1 (by omega))
    have HN2 : Hid (∀ i, i < j + 1 → c ≠ pl.getD i 0) := Lib.hid (fun i hi => by
     rcases Nat.lt_or_ge i j with h9 | h9
     ·exact HNO.out i h9
     ·obtain rfl : i = j := by omega
      exact hcd)
    clear hcd
    generalize pl.getD j 0 = q at *
    go_wp2_with fail
    go_roundg (8 - (j + 1))
    case measure => have := Hk.out; omega
    case rel => exact ⟨j + 1, rfl, by omega, by go_num, HN2.out, rfl⟩
  ·obtain rfl : j = 8 := by omega
   have hlt2 : ¬ ((8 : Nat) : Int) < pl.length := by omega
   have HPC : Hid (plainS c = none) := Lib.hid (HPN.out (fun hm => by
    obtain ⟨i, hi, he⟩ := List.getElem_of_mem hm
    refine HNO.out i (by omega) ?_
    rw [List.getD_eq_getElem?_getD, List.getElem?_eq_getElem hi]
    exact he.symm))
   clear HPA HPN HMB
   go_wp2_with fail
   refine (takeR_calls w2 H2.out hn hl [117] (by decide)).mono ?_
   rintro e w3 ⟨rfl, h3, hw3⟩
   have W3 := Lib.hid (W2.out.trans hw3)
   clear hw3
   cases ht : takeB b n [117] with
   | false =>
    have HF : Hid (escS [] (b.drop n) = none) := by
     refine Lib.hid ?_
     rcases Nat.lt_or_ge n b.length with h9 | h9
     ·rw [HDR.out h9]
      simp only [escS]
      rw [HPC.out]
      have h8 := HT1.out h9
      rw [ht] at h8
      have h7 : c ≠ 117 := fun e => by rw [e] at h8; exact absurd h8 (by decide)
      simp only
      rw [if_neg h7]
     ·rw [List.drop_of_length_le h9]; rfl
    rw [ht] at h3
    have H3 := Lib.hid h3
    have f2 := h3.free 2
    have c2 := h3.cell 2 _ rfl
    clear h3 ht
    go_wp2_with fail
    go_ret
    exact ⟨W3.out.set 2 _, .inl ⟨HF.out, n, hn, rfl, H3.out.setBad true⟩⟩
   | true =>
    have hnl : n < b.length := by
     rcases takeB_len ht with h9 | h9
     ·simp only [List.length_cons, List.length_nil] at h9; omega
     ·cases h9
    have hcu : c = 117 := by
     have h8 := HT1.out hnl
     rw [ht] at h8
     exact beq_iff_eq.1 h8.symm
    have HU : Hid (escS [] (b.drop n) = match hexN 4 0 (b.drop (n + 1)) with
      | none => none
      | some (x, t2) => if 55296 ≤ x ∧ x < 57344 then match pairS x t2 with
        | some (bs, t4) => some (bs, t4, false)
        | none => some ([], t2, true)
       else some (letS x, t2, false)) := by
     refine Lib.hid ?_
     rw [HDR.out hnl]
     simp only [escS]
     rw [HPC.out]
     simp only
     rw [if_pos hcu]
     rfl
    rw [ht] at h3
    have H3 : Hid (RdAt w3 R b (n + 1) false f) := Lib.hid h3
    clear h3 ht hcu HPC HDR HT1
    go_wp2_with fail
    refine (hexR_calls w3 H3.out (by omega) hl).mono ?_
    rintro e w4 ⟨hw4, hx⟩
    have W4 := Lib.hid (W3.out.trans hw4)
    clear hw4
    rcases hx with ⟨hno, rfl, m, hm, h4⟩ | ⟨x, hx, hx5, hn4, rfl, h4⟩
    ·have HF : Hid (escS [] (b.drop n) = none) := Lib.hid (by rw [HU.out, hno])
     have H4 := Lib.hid h4
     have f2 := h4.free 2
     have c2 := h4.cell 2 _ rfl
     clear h4 hno HU
     go_wp2_with fail
     go_ret
     exact ⟨W4.out.set 2 _, .inl ⟨HF.out, m, hm, rfl, H4.out.setBad true⟩⟩
    rw [hx] at HU
    obtain ⟨q, hq⟩ : ∃ q, n + 1 + 4 = q := ⟨_, rfl⟩
    rw [hq] at HU h4 hn4
    have HQ : Hid (n < q) := Lib.hid (by omega)
    have H4 := Lib.hid h4
    clear h4 hx hq
    have c1 := H4.out.cell 1 _ rfl
    have f1 := H4.out.free 1
    have c4 := H4.out.cell 4 _ rfl
    have f4 := H4.out.free 4
    clear hz1 hz2 hlt2 hlt hj
    have HN5 : Hid (q ≤ b.length) := Lib.hid hn4
    have HX5 := Lib.hid hx5
    clear hx5
    go_upto_region 16 with fail
    by_cases hx1 : x < 55296
    ·have HF : Hid (escS [] (b.drop n) = some (letS x, b.drop q, false)) := Lib.hid (by rw [HU.out]; (try simp only); rw [if_neg (by omega)])
     have hx2 : ¬ (55296 : Int) ≤ (x : Int) := by omega
     have hd2 : decide ((55296 : Int) ≤ (x : Int)) = false := decide_eq_false hx2
     clear HU hx1
     go_wp2_with fail
     refine (bytes_calls w4 x (Nat.le_trans HX5.out (by omega))).mono ?_
     rintro e w5 ⟨rfl, hb5⟩
     go_wp2_with fail
     go_ret
     exact ⟨W4.out.trans (OnlyR.ofBelow hb5), .inr ⟨_, q, false, HF.out, HN5.out, HQ.out, letS_len x, rfl, by rw [Fl.or_false]; exact H4.out.below hb5⟩⟩
    by_cases hx3 : 57344 ≤ x
    ·have HF : Hid (escS [] (b.drop n) = some (letS x, b.drop q, false)) := Lib.hid (by rw [HU.out]; (try simp only); rw [if_neg (by omega)])
     have hx2 : (55296 : Int) ≤ (x : Int) := by omega
     have hx4 : ¬ (x : Int) < 56320 := by omega
     have hx6 : ¬ (x : Int) < 57344 := by omega
     have hd4 : decide ((x : Int) < 56320) = false := decide_eq_false hx4
     have hd6 : decide ((x : Int) < 57344) = false := decide_eq_false hx6
     clear HU hx1 hx3
     go_wp2_with fail
     refine (bytes_calls w4 x (Nat.le_trans HX5.out (by omega))).mono ?_
     rintro e w5 ⟨rfl, hb5⟩
     go_wp2_with fail
     go_ret
     exact ⟨W4.out.trans (OnlyR.ofBelow hb5), .inr ⟨_, q, false, HF.out, HN5.out, HQ.out, letS_len x, rfl, by rw [Fl.or_false]; exact H4.out.below hb5⟩⟩
    have hx2 : 55296 ≤ x := by omega
    have hx7 : x < 57344 := by omega
    have HV : Hid (escS [] (b.drop n) = match pairS x (b.drop q) with
      | some (bs, t4) => some (bs, t4, false)
      | none => some ([], b.drop q, true)) := Lib.hid (by rw [HU.out]; (try simp only); rw [if_pos ⟨hx2, hx7⟩])
    clear HU hx1 hx3
    by_cases hx4 : x < 56320
    ·have HPT := Lib.hid (pair_take (b := b) (m := q) hx4)
     have hi2 : (55296 : Int) ≤ (x : Int) := by omega
     have hi4 : (x : Int) < 56320 := by omega
     have hi7 : (x : Int) < 57344 := by omega
     clear hx2 hx7 hx4
     go_upto_region 18 with fail
     go_wp2_with fail
     refine (takeR_calls w4 H4.out HN5.out hl [92, 117] (by decide)).mono ?_
     rintro e w5 ⟨rfl, h5, hw5⟩
     have W5 := Lib.hid (W4.out.trans hw5)
     clear hw5
     cases ht : takeB b q [92, 117] with
     | false =>
      rw [ht] at h5 HPT
      have HF : Hid (escS [] (b.drop n) = some ([], b.drop q, true)) := Lib.hid (by rw [HV.out, HPT.out]; rfl)
      have H5 : Hid (RdAt w5 R b q false f) := Lib.hid h5
      clear h5 ht c1 f1 c4 f4 HV HPT
      have c1 := H5.out.cell 1 _ rfl
      have f1 := H5.out.free 1
      have H6 : Hid (RdAt (w5.setCell ⟨R, 1, none⟩ (.int .i64 (q : Int))) R b q false f) := Lib.hid (H5.out.go q)
      have c4 := H6.out.cell 4 _ rfl
      have f4 := H6.out.free 4
      go_wp2_with fail
      go_ret
      exact ⟨(W5.out.set 1 _).set 4 _, .inr ⟨[], q, true, HF.out, HN5.out, HQ.out, by simp, rfl, by rw [Bool.or_true]; exact H6.out.setAlone true⟩⟩
     | true =>
      rw [ht] at h5 HPT
      have hn7 : q + 2 ≤ b.length := by
       rcases takeB_len ht with h9 | h9
       ·simp only [List.length_cons, List.length_nil] at h9; omega
       ·cases h9
      have h5b : RdAt w5 R b (q + 2) false f := h5
      simp only [if_true] at HPT
      obtain ⟨q2, hq2⟩ : ∃ q2, q + 2 = q2 := ⟨_, rfl⟩
      rw [hq2] at HPT h5b hn7
      have H5 := Lib.hid h5b
      have HQ2 : Hid (q < q2) := Lib.hid (by omega)
      clear h5 h5b ht c1 f1 c4 f4 hq2
      go_wp2_with fail
      refine (hexR_calls w5 H5.out hn7 hl).mono ?_
      rintro e w6 ⟨hw6, hy⟩
      have W6 := Lib.hid (W5.out.trans hw6)
      clear hw6
      rcases hy with ⟨hno, rfl, m, hm, h6⟩ | ⟨y, hy, hy5, hn11, rfl, h6⟩
      ·rw [hno] at HPT
       have HF : Hid (escS [] (b.drop n) = some ([], b.drop q, true)) := Lib.hid (by rw [HV.out, HPT.out])
       have H6 := Lib.hid h6
       clear h6 hno HV HPT
       have c1 := H6.out.cell 1 _ rfl
       have f1 := H6.out.free 1
       have H7 : Hid (RdAt (w6.setCell ⟨R, 1, none⟩ (.int .i64 (q : Int))) R b q false f) := Lib.hid (H6.out.go q)
       have c4 := H7.out.cell 4 _ rfl
       have f4 := H7.out.free 4
       go_wp2_with fail
       go_ret
       exact ⟨(W6.out.set 1 _).set 4 _, .inr ⟨[], q, true, HF.out, HN5.out, HQ.out, by simp, rfl, by rw [Bool.or_true]; exact H7.out.setAlone true⟩⟩
      ·rw [hy] at HPT
       simp only at HPT
       have H6 := Lib.hid h6
       have HY5 := Lib.hid hy5
       clear h6 hy hy5
       go_upto_region 20 with fail
       by_cases hyr : 56320 ≤ y ∧ y < 57344
       ·have HF : Hid (escS [] (b.drop n) = some (letS (65536 + 1024 * (x - 55296) + y - 56320), b.drop (q2 + 4), false)) := Lib.hid (by rw [HV.out, HPT.out, if_pos hyr])
        obtain ⟨hy1, hy2⟩ := hyr
        obtain ⟨X, hX⟩ : ∃ X, 65536 + 1024 * (x - 55296) + y - 56320 = X := ⟨_, rfl⟩
        rw [hX] at HF
        have hXb : Hid (X ≤ 1114111) := Lib.hid (by have := HX5.out; omega)
        have hXi : 65536 + 1024 * ((x : Int) - 55296) + (y : Int) - 56320 = (X : Int) := by omega
        have HXi := Lib.hid hXi
        have hj1 : (56320 : Int) ≤ (y : Int) := by omega
        have hj2 : (y : Int) < 57344 := by omega
        clear hX hXi HV HPT hy1 hy2
        go_wp2_with fail
        rw [HXi.out]
        refine (bytes_calls w6 X hXb.out).mono ?_
        rintro e w7 ⟨rfl, hb7⟩
        go_wp2_with fail
        go_ret
        exact ⟨W6.out.trans (OnlyR.ofBelow hb7), .inr ⟨_, q2 + 4, false, HF.out, hn11, by have := HQ.out; have := HQ2.out; omega, letS_len X, rfl, by rw [Fl.or_false]; exact H6.out.below hb7⟩⟩
       ·have HF : Hid (escS [] (b.drop n) = some ([], b.drop q, true)) := Lib.hid (by rw [HV.out, HPT.out, if_neg hyr])
        clear HV HPT
        have c1 := H6.out.cell 1 _ rfl
        have f1 := H6.out.free 1
        have H7 : Hid (RdAt (w6.setCell ⟨R, 1, none⟩ (.int .i64 (q : Int))) R b q false f) := Lib.hid (H6.out.go q)
        have c4 := H7.out.cell 4 _ rfl
        have f4 := H7.out.free 4
        by_cases hy1 : 56320 ≤ y
        ·have hy2 : ¬ y < 57344 := fun h9 => hyr ⟨hy1, h9⟩
         have hj1 : (56320 : Int) ≤ (y : Int) := by omega
         have hj2 : ¬ (y : Int) < 57344 := by omega
         clear hyr hy1 hy2
         go_wp2_with fail
         go_ret
         exact ⟨(W6.out.set 1 _).set 4 _, .inr ⟨[], q, true, HF.out, HN5.out, HQ.out, by simp, rfl, by rw [Bool.or_true]; exact H7.out.setAlone true⟩⟩
        ·have hj1 : ¬ (56320 : Int) ≤ (y : Int) := by omega
         clear hyr hy1
         go_wp2_with fail
         go_ret
         exact ⟨(W6.out.set 1 _).set 4 _, .inr ⟨[], q, true, HF.out, HN5.out, HQ.out, by simp, rfl, by rw [Bool.or_true]; exact H7.out.setAlone true⟩⟩
    ·have HF : Hid (escS [] (b.drop n) = some ([], b.drop q, true)) := Lib.hid (by rw [HV.out]; unfold pairS; rw [if_neg hx4])
     have hi2 : (55296 : Int) ≤ (x : Int) := by omega
     have hi7 : (x : Int) < 57344 := by omega
     have hx8 : ¬ (x : Int) < 56320 := by omega
     have hd8 : decide ((x : Int) < 56320) = false := decide_eq_false hx8
     clear HV c1 f1 hx4 hx2 hx7
     go_wp2_with fail
     go_ret
     exact ⟨W4.out.set 4 _, .inr ⟨[], q, true, HF.out, HN5.out, HQ.out, by simp, rfl, by rw [Bool.or_true]; exact H4.out.setAlone true⟩⟩
open Go.RowKit
theorem qt_low {z b : List UInt8} {m : Nat} (h : (b.getD m 0).toNat < 32) : qtS z (b.drop m) = none := by
 rcases Nat.lt_or_ge m b.length with h1 | h1
 ·rw [drop_at h1]; unfold qtS; simp only [List.length_cons, qtN]; rw [if_pos h]
 ·rw [List.drop_of_length_le h1]; rfl
theorem qt_end {z b : List UInt8} {m : Nat} (h1 : m < b.length) (h : b.getD m 0 = 34) : qtS z (b.drop m) = some ([], b.drop (m + 1), false) := by
 rw [drop_at h1, h]; unfold qtS; simp only [List.length_cons, qtN]; rfl
def qmap (acc : List UInt8) (a : Bool) : Option (List UInt8 × List UInt8 × Bool) → Option (List UInt8 × List UInt8 × Bool)
 | none => none
 | some (u, r, a2) => some (acc ++ u, r, a || a2)
theorem qmap_two (x y : List UInt8) (a c : Bool) (q : Option (List UInt8 × List UInt8 × Bool)) : qmap x a (qmap y c q) = qmap (x ++ y) (a || c) q := by
 cases q with
 | none => rfl
 | some v => obtain ⟨u, r, a2⟩ := v; simp [qmap, List.append_assoc, Bool.or_assoc]
theorem qmap_nil (q : Option (List UInt8 × List UInt8 × Bool)) : qmap [] false q = q := by
 cases q with
 | none => rfl
 | some v => obtain ⟨u, r, a2⟩ := v; simp [qmap]
theorem qt_chr {z b : List UInt8} {m : Nat} (h1 : m < b.length) (h2 : ¬ (b.getD m 0).toNat < 32) (h3 : b.getD m 0 ≠ 34) (h4 : b.getD m 0 ≠ 92) : qtS z (b.drop m) = qmap [b.getD m 0] false (qtS z (b.drop (m + 1))) := by
 rw [drop_at h1]
 generalize b.getD m 0 = c at *
 unfold qtS
 simp only [List.length_cons]
 rw [qtN, if_neg h2, if_neg h3, if_neg h4]
 cases qtN z ((b.drop (m + 1)).length + 1) (b.drop (m + 1)) with
 | none => rfl
 | some v => obtain ⟨u, r, a2⟩ := v; simp [qmap]
theorem qt_esc {z b : List UInt8} {m : Nat} (h1 : m < b.length) (h4 : b.getD m 0 = 92) : qtS z (b.drop m) = match escS z (b.drop (m + 1)) with
  | none => none
  | some (u, r, a) => qmap u a (qtS z r) := by
 rw [drop_at h1, h4]
 unfold qtS
 simp only [List.length_cons]
 rw [qtN, if_neg (by decide), if_neg (by decide), if_pos rfl]
 cases he : escS z (b.drop (m + 1)) with
 | none => rfl
 | some v =>
  obtain ⟨u, r, a⟩ := v
  have hl := esc_len he
  simp only
  rw [qt_fuel ((b.drop (m + 1)).length + 1) (r.length + 1) r (by omega) (by omega)]
  cases qtN z (r.length + 1) r with
  | none => rfl
  | some y => obtain ⟨v, r2, a2⟩ := y; rfl
def QtTo (w : World) (R : Nat) (b : List UInt8) (n : Nat) (f : Fl) (e : Ending) (w' : World) : Prop :=
 OnlyR R w w' ∧ ((qS [] (b.drop n) = none ∧ ∃ (m : Nat) (u : List UInt8) (f2 : Fl), m ≤ b.length ∧ e = .returned (.string ⟨u.toArray⟩) ∧ RdAt w' R b m true f2) ∨
  ∃ (u : List UInt8) (m : Nat) (a : Bool), qS [] (b.drop n) = some (u, b.drop m, a) ∧ m ≤ b.length ∧ n < m ∧ u.length ≤ 4 * m ∧ e = .returned (.string ⟨u.toArray⟩) ∧ RdAt w' R b m false { f with alone := f.alone || a })
def QtI (w wr : World) (R : Nat) (b : List UInt8) (n1 : Nat) (f : Fl) (acc : List UInt8) (m : Nat) (bad : Bool) : Prop :=
 OnlyR R w wr ∧ m ≤ b.length ∧ ((bad = true ∧ qtS [] (b.drop n1) = none ∧ ∃ f2, RdAt wr R b m true f2) ∨
  (bad = false ∧ n1 ≤ m ∧ acc.length ≤ 4 * m ∧ ∃ a, qtS [] (b.drop n1) = qmap acc a (qtS [] (b.drop m)) ∧ RdAt wr R b m false { f with alone := f.alone || a }))
theorem quotedR_calls (w : World) {R : Nat} {b : List UInt8} {n : Nat} {f : Fl} (h : RdAt w R b n false f) (hn : n ≤ b.length) (hl : b.length ≤ 1000000000) :
  Calls Tryz.prog 88 #[.pointer (some ⟨R, 0, none⟩)] w (QtTo w R b n f) := by
 have H := Lib.hid h
 clear h
 go_enter Tryz.func88, Tryz.ntmps88
 go_wp2_with fail
 refine (takeR_calls w H.out hn hl [34] (by decide)).mono ?_
 rintro e w2 ⟨rfl, h2, hw2⟩
 have W2 := Lib.hid hw2
 clear hw2
 cases ht : takeB b n [34] with
 | false =>
  have HF : Hid (qS [] (b.drop n) = none) := by
   refine Lib.hid ?_
   rcases Nat.lt_or_ge n b.length with h9 | h9
   ·rw [takeB_one 34 h9] at ht
    rw [drop_at h9]
    unfold qS
    rw [beq_eq_false_iff_ne] at ht
    simp only
    rw [if_neg ht]
   ·rw [List.drop_of_length_le h9]; rfl
  rw [ht] at h2
  have H2 : Hid (RdAt w2 R b n false f) := Lib.hid h2
  have c2 := H2.out.cell 2 _ rfl
  have f2 := H2.out.free 2
  clear h2 ht
  go_wp2_with fail
  go_ret
  exact ⟨W2.out.set 2 _, .inl ⟨HF.out, n, [], f, hn, rfl, H2.out.setBad true⟩⟩
 | true =>
  have hnl : n < b.length := by
   rcases takeB_len ht with h9 | h9
   ·simp only [List.length_cons, List.length_nil] at h9; omega
   ·cases h9
  have HU : Hid (qS [] (b.drop n) = qtS [] (b.drop (n + 1))) := by
   refine Lib.hid ?_
   rw [takeB_one 34 hnl, beq_iff_eq] at ht
   rw [drop_at hnl, ht]; rfl
  rw [ht] at h2
  have H2 : Hid (RdAt w2 R b (n + 1) false f) := Lib.hid h2
  obtain ⟨n1, hn1⟩ : ∃ n1, n + 1 = n1 := ⟨_, rfl⟩
  rw [hn1] at H2 HU
  have hn1l : n1 ≤ b.length := by omega
  have HN : Hid (n < n1) := Lib.hid (by omega)
  clear h2 ht hn1 hnl
  go_wp2_with fail
  go_loopg [3] (b.length - n1 + 1) (fun k s3 wr => ∃ (acc : List UInt8) (m : Nat) (bad : Bool), k = (if bad then 0 else b.length - m + 1) ∧ s3 = .string ⟨acc.toArray⟩ ∧ QtI w wr R b n1 f acc m bad)
  case atStart => exact ⟨[], n1, false, rfl, rfl, W2.out, hn1l, .inr ⟨rfl, Nat.le_refl _, by simp, false, (qmap_nil _).symm, by rw [Fl.or_false]; exact H2.out⟩⟩
  case round =>
   obtain ⟨acc, m, bad, hk, rfl, hw, hm, hI⟩ := hrel
   have Hk := Lib.hid hk
   have HW := Lib.hid hw
   clear hk hw
   rcases hI with ⟨rfl, hno, f2, hr⟩ | ⟨rfl, hnm, hac, a, hq, hr⟩
   ·have HNO := Lib.hid hno
    have HR := Lib.hid hr
    have c2 := hr.cell 2 _ rfl
    clear hno hr
    go_wp2_with fail
    go_ret
    exact ⟨HW.out, .inl ⟨by rw [HU.out, HNO.out], m, _, f2, hm, rfl, HR.out⟩⟩
   ·have HQ := Lib.hid hq
    have HR := Lib.hid hr
    have c2 := hr.cell 2 _ rfl
    clear hq hr
    go_wp2_with fail
    refine (next_calls wr HR.out).mono ?_
    rintro e w3 ⟨rfl, hb3⟩
    have H3 := Lib.hid (HR.out.below hb3)
    have W3 := Lib.hid (HW.out.trans (OnlyR.ofBelow hb3))
    have HE : Hid (b.length ≤ m → b.getD m 0 = 0) := Lib.hid (fun h9 => by simp [List.getElem?_eq_none h9])
    have HQ1 : Hid ((b.getD m 0).toNat < 32 → qtS [] (b.drop m) = none) := Lib.hid qt_low
    have HQ2 : Hid (m < b.length → b.getD m 0 = 34 → qtS [] (b.drop m) = some ([], b.drop (m + 1), false)) := Lib.hid qt_end
    have HQ3 : Hid (m < b.length → ¬ (b.getD m 0).toNat < 32 → b.getD m 0 ≠ 34 → b.getD m 0 ≠ 92 → qtS [] (b.drop m) = qmap [b.getD m 0] false (qtS [] (b.drop (m + 1)))) := Lib.hid qt_chr
    have HQ4 : Hid (m < b.length → b.getD m 0 = 92 → qtS [] (b.drop m) = match escS [] (b.drop (m + 1)) with
      | none => none
      | some (u, r, a) => qmap u a (qtS [] r)) := Lib.hid qt_esc
    have hc := (b.getD m 0).toNat_lt
    have c1 := H3.out.cell 1 _ rfl
    have f1 := H3.out.free 1
    have c2 := H3.out.cell 2 _ rfl
    have f2 := H3.out.free 2
    generalize b.getD m 0 = c at *
    clear hb3 HR HW
    by_cases h1 : c.toNat < 32
    ·have HF : Hid (qS [] (b.drop n) = none) := Lib.hid (by rw [HU.out, HQ.out, HQ1.out h1]; rfl)
     clear HQ1 HQ2 HQ3 HQ4
     go_wp2_with fail
     go_ret
     exact ⟨W3.out.set 2 _, .inl ⟨HF.out, m, _, _, hm, rfl, H3.out.setBad true⟩⟩
    have hml : m < b.length := by
     rcases Nat.lt_or_ge m b.length with h9 | h9
     ·exact h9
     ·rw [HE.out h9] at h1; exact absurd (by decide) h1
    have HM1 : Hid (RdAt (w3.setCell ⟨R, 1, none⟩ (.int .i64 ((m : Int) + 1))) R b (m + 1) false { f with alone := f.alone || a }) := by
     have h9 := H3.out.go (m + 1)
     rw [Int.natCast_add] at h9
     exact Lib.hid h9
    have hm1 : m + 1 ≤ b.length := hml
    by_cases h34 : c = 34
    ·have HF : Hid (qS [] (b.drop n) = some (acc, b.drop (m + 1), a)) := Lib.hid (by rw [HU.out, HQ.out, HQ2.out hml h34]; simp [qmap])
     have hcc : ((c.toNat : Int) == 34) = true := by rw [h34]; rfl
     clear HQ1 HQ2 HQ3 HQ4 h34
     go_wp2_with fail
     go_ret
     exact ⟨W3.out.set 1 _, .inr ⟨acc, m + 1, a, HF.out, hm1, by have := HN.out; omega, by omega, rfl, HM1.out⟩⟩
    have hcc : ((c.toNat : Int) == 34) = false := by
     rw [beq_eq_false_iff_ne]; intro h9; exact h34 (UInt8.toNat_inj.1 (by simpa using Int.ofNat.inj h9))
    by_cases h92 : c = 92
    ·have HQ5 := Lib.hid (HQ4.out hml h92)
     have hcd : ((c.toNat : Int) == 92) = true := by rw [h92]; rfl
     have W4 := Lib.hid (W3.out.set 1 (.int .i64 ((m : Int) + 1)))
     clear HQ1 HQ2 HQ3 HQ4 h34 h92
     go_wp2_with fail
     generalize (w3.setCell ⟨R, 1, none⟩ (.int .i64 ((m : Int) + 1))) = w4 at *
     refine (escR_calls w4 HM1.out hm1 hl).mono ?_
     rintro e w5 ⟨hw5, hx⟩
     have W5 := Lib.hid (W4.out.trans hw5)
     clear hw5 W4 W3 H3 c1 f1 c2 f2
     rcases hx with ⟨hno, m2, hm2, rfl, h5⟩ | ⟨u, m2, a2, hx, hm2, hlt, hul, rfl, h5⟩
     ·have HNO : Hid (qtS [] (b.drop n1) = none) := Lib.hid (by rw [HQ.out, HQ5.out, hno]; rfl)
      have H5 := Lib.hid h5
      have hcat := bytes_app acc []
      rw [List.append_nil] at hcat
      have hsum : ¬ (9223372036854775807 < acc.length + ([] : List UInt8).length) := by simp; omega
      clear h5 hno HQ5
      go_wp2_with fail
      go_roundg 0
      case measure => have := Hk.out; simp at this; omega
      case rel => exact ⟨acc, m2, true, rfl, rfl, W5.out, hm2, .inl ⟨rfl, HNO.out, _, H5.out⟩⟩
     ·have HNE : Hid (qtS [] (b.drop n1) = qmap (acc ++ u) (a || a2) (qtS [] (b.drop m2))) := Lib.hid (by rw [HQ.out, HQ5.out, hx]; exact qmap_two _ _ _ _ _)
      have H5 : Hid (RdAt w5 R b m2 false { f with alone := f.alone || (a || a2) }) := by
       rw [Bool.or_assoc] at h5
       exact Lib.hid h5
      have hcat := bytes_app acc u
      have hsum : ¬ (9223372036854775807 < acc.length + u.length) := by omega
      clear h5 hx HQ5
      go_wp2_with fail
      go_roundg (b.length - m2 + 1)
      case measure => have := Hk.out; simp at this; omega
      case rel => exact ⟨acc ++ u, m2, false, rfl, rfl, W5.out, hm2, .inr ⟨rfl, by omega, by rw [List.length_append]; omega, _, HNE.out, H5.out⟩⟩
    ·have HQ5 := Lib.hid (HQ3.out hml h1 h34 h92)
     have hcd : ((c.toNat : Int) == 92) = false := by
      rw [beq_eq_false_iff_ne]; intro h9; exact h92 (UInt8.toNat_inj.1 (by simpa using Int.ofNat.inj h9))
     have W4 := Lib.hid (W3.out.set 1 (.int .i64 ((m : Int) + 1)))
     have HNE : Hid (qtS [] (b.drop n1) = qmap (acc ++ [c]) a (qtS [] (b.drop (m + 1)))) := Lib.hid (by rw [HQ.out, HQ5.out, qmap_two, Bool.or_false])
     have hcv := lit_string (w3.setCell ⟨R, 1, none⟩ (.int .i64 ((m : Int) + 1))) [(c.toNat : Int)] [c] rfl (by simp [maxLen])
     simp only [List.map_cons, List.map_nil, List.length_cons, List.length_nil, Nat.zero_add, World.size_setCell] at hcv
     have hcat := bytes_app acc [c]
     have hsum : ¬ (9223372036854775807 < acc.length + [c].length) := by simp only [List.length_cons, List.length_nil]; omega
     clear HQ1 HQ2 HQ3 HQ4 h34 h92 HQ5
     go_wp2_with fail
     go_roundg (b.length - (m + 1) + 1)
     case measure => have := Hk.out; simp at this; omega
     case rel => exact ⟨acc ++ [c], m + 1, false, rfl, rfl, W4.out.trans (OnlyR.ofBelow ((Below.refl _ _).alloc (Nat.le_refl _) _)), hm1, .inr ⟨rfl, by omega, by simp only [List.length_append, List.length_cons, List.length_nil]; omega, a, HNE.out, HM1.out.below ((Below.refl _ _).alloc (Nat.le_refl _) _)⟩⟩
end Go.Proofs.YtfclfaidmipjpaaGreatDoor
