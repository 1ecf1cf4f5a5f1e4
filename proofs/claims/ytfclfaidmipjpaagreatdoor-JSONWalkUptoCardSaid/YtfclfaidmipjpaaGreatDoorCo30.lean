/- Texts of this claim, joined: Va2. -/
import Derived.Test.YtfclfaidmipjpaaGreatDoorCo29
namespace Go.Proofs.YtfclfaidmipjpaaGreatDoor
set_option maxRecDepth 100000
set_option maxHeartbeats 20000000
open Go.Lib (hid)
open Go.RowKit Go.Lib
theorem below_nq {B : Nat} {a w : World} (h : Below B a w) (n : Nat) : Below B a (w.drewN n) := below_drewN h n
theorem tabs_below {w w' : World} (h : Utf8Tabs 0 1 w) {B : Nat} (hb : Below B w w') (h1 : 0 < B) (h2 : 1 < B) : Utf8Tabs 0 1 w' :=
 ⟨fun k hk => (hb.cell (p := ⟨0, k, none⟩) h1).trans (h.1 k hk), fun k hk => ⟨(hb.cell (p := ⟨1, 2 * k, none⟩) h2).trans (h.2 k hk).1, (hb.cell (p := ⟨1, 2 * k + 1, none⟩) h2).trans (h.2 k hk).2⟩⟩
theorem tabs_lt {w : World} (h : Utf8Tabs 0 1 w) : 0 < w.heap.size ∧ 1 < w.heap.size :=
 ⟨World.block_lt_of_cell? w ⟨0, 0, none⟩ (h.1 0 (by decide)), World.block_lt_of_cell? w ⟨1, 2 * 0, none⟩ (h.2 0 (by decide)).1⟩
def ValR (w : World) (b : Nat) (l : List UInt8) (A : Bool) (gk : Nat) (s0 : Value) (wr : World) : Prop := Below w.heap.size w wr ∧ ∃ t : List UInt8, TailV wr b s0 t ∧ validD t = A ∧ t.length < gk ∧ t.length ≤ l.length
structure SegAt (W : World) (b o m : Nat) (t : List UInt8) : Prop where
 len : t.length = m
 cell : ∀ j, j < m → W.cell? ⟨b, o + j, none⟩ = some (.int .u8 ((t.getD j 0).toNat : Int))
theorem getD_drop (t : List UInt8) (k j : Nat) : (t.drop k).getD j 0 = t.getD (k + j) 0 := by simp [List.getD_eq_getElem?_getD]
theorem SegAt.drop {W : World} {b o m : Nat} {t : List UInt8} (k : Nat) (h : SegAt W b o (m + k) t) : SegAt W b (o + k) m (t.drop k) :=
 ⟨by rw [List.length_drop, h.len]; omega, fun j hj => by rw [Nat.add_assoc, getD_drop]; exact h.cell (k + j) (by omega)⟩
theorem SegAt.drewN {W : World} {b o m : Nat} {t : List UInt8} (h : SegAt W b o m t) (n : Nat) : SegAt (W.drewN n) b o m t := ⟨h.len, fun j hj => by rw [World.cell?_drewN]; exact h.cell j hj⟩
theorem SegAt.word {W : World} {b o m : Nat} {t : List UInt8} (h : SegAt W b o m t) (hm : 8 ≤ m) (n c : Nat) :
  Calls Tryz.prog 76 #[.slice (some ⟨b, o, none⟩) m c] (W.drewN n) fun e w' => e = .returned (.int .u64 (w8 t)) ∧ ∃ q, w' = (W.drewN n).drewN q :=
 word_calls (W.drewN n) hm (fun j hj => (h.drewN n).cell j (by omega))
theorem SegAt.alloc {W : World} {b o m : Nat} {t : List UInt8} (h : SegAt W b o m t) (x : Obj) : SegAt (W.alloc x) b o m t := ⟨h.len, fun j hj => by
 rw [World.cell?_alloc_some W _ x (by rw [h.cell j hj]; rfl)]; exact h.cell j hj⟩
theorem tail_nil {t : List UInt8} (h : ¬ 0 < t.length) : t = [] := List.eq_nil_of_length_eq_zero (by omega)
theorem ValR.seg {w W : World} {b o m : Nat} {l t : List UInt8} {A : Bool} {gk : Nat} (hb : Below w.heap.size w W) (h : SegAt W b o m t) (hv : validD t = A) (hg : m < gk) (hl : m ≤ l.length) : ValR w b l A gk (.slice (some ⟨b, o, none⟩) m m) W := by
 obtain ⟨rfl, h2⟩ := h
 exact ⟨hb, t, ⟨_, rfl, fun _ => ⟨o, rfl, h2⟩⟩, hv, hg, hl⟩
theorem ValR.zero {w W : World} {b : Nat} {q : Option Addr} {l t : List UInt8} {A : Bool} {g' k : Nat} (hb : Below w.heap.size w W) (hl : t.length ≤ k) (hv : validD (t.drop k) = A) (hg : 0 < g') : ValR w b l A g' (.slice q 0 0) W :=
 ⟨hb, [], TailV.nil _ _ _, by rw [List.drop_of_length_le hl] at hv; exact hv, hg, Nat.zero_le _⟩
theorem mask_or (a b : Nat) : (a ||| b) &&& 9259542123273814144 = 0 ↔ a &&& 9259542123273814144 = 0 ∧ b &&& 9259542123273814144 = 0 := or_mask a b _
set_option maxRecDepth 1000000 in
theorem validP_calls (w : World) {v : Value} {l : List UInt8} (hbs : BytS w v l) (hT : Utf8Tabs 0 1 w) : Calls Tryz.prog 44 #[v] w fun e w' => e = .returned (.bool (validD l)) ∧ Below w.heap.size w w' := by
 have mixed : Tryz.prog.follows .mixedOrders = true := by kernel_rfl
 obtain ⟨ANS, hANS⟩ : ∃ ANS, validD l = ANS := ⟨_, rfl⟩
 rw [hANS]
 have HT := hid hT
 have htl := tabs_lt hT
 obtain ⟨p0, cap, b, rfl, hcap, hml, hbl, htail⟩ : ∃ p0 cap b, v = .slice p0 l.length cap ∧ l.length ≤ cap ∧ l.length ≤ 9223372036854775807 ∧ (0 < l.length → b < w.heap.size) ∧ TailV w b (.slice p0 l.length l.length) l := by
  rcases hbs with ⟨rfl, rfl⟩ | ⟨b, off, cap, rfl, h2, h3, h4, h5⟩
  ·exact ⟨none, 0, 0, rfl, Nat.le_refl _, Nat.zero_le _, fun h => by simp at h, TailV.nil _ _ _⟩
  exact ⟨_, cap, b, rfl, h2, by unfold maxLen at h3; omega, fun _ => h4, _, rfl, fun _ => ⟨off, rfl, h5⟩⟩
 have HTL := hid htail
 have HBL := hid hbl
 have HANS := hid hANS
 have hcapi : (l.length : Int) ≤ (cap : Int) := by omega
 clear hbs hT htail hbl hANS
 go_enter Tryz.func44, Tryz.ntmps44
 go_wp2
 go_loopg [0] (l.length + 1) (fun gk s0 wr => ValR w b l ANS gk s0 wr)
 case atStart => exact ⟨Below.refl _ _, l, HTL.out, HANS.out, by omega, Nat.le_refl _⟩
 obtain ⟨hbw, t, ⟨q, rfl, hq⟩, hv, hg, hts⟩ := hrel
 have HV := hid hv
 have HBW := hid hbw
 have HTr := hid (tabs_below HT.out hbw htl.1 htl.2)
 clear hv hbw HTL HANS
 by_cases h0 : 0 < t.length
 ·
  as_aux_lemma =>
   obtain ⟨g', hgg⟩ : ∃ g', gk = g' + 1 := ⟨gk - 1, by omega⟩
   have HGG := hid hgg
   obtain ⟨m1, hm1⟩ : ∃ m1, t.length = m1 + 1 := ⟨t.length - 1, by omega⟩
   obtain ⟨off, rfl, hkk⟩ := hq h0
   have HS0 : Hid (SegAt wr b off (m1 + 1) t) := hid ⟨hm1, fun j hj => hkk j (by omega)⟩
   clear hkk hq
   have k0 := HS0.out.cell 0 (by omega)
   rw [Nat.add_zero] at k0
   have hx0 := (t.getD 0 0).toNat_lt
   rw [hm1]
   have hg2 : m1 < g' := by omega
   have hts2 : m1 + 1 ≤ l.length := by omega
   have HH0 := hid h0
   clear hm1 hgg h0 hg hts
   have h0z : (0 : Int) < (m1 : Int) + 1 := by omega
   by_cases hasc : (t.getD 0 0).toNat < 128
   ·
    as_aux_lemma =>
     have hascz : ((t.getD 0 0).toNat : Int) < 128 := by omega
     have HA1 := hid (asc_head (l := t) HH0.out hasc)
     have HV1 : Hid (validD (t.drop 1) = ANS) := hid ((valid_drop HA1.out).trans HV.out)
     generalize t.getD 0 0 = x0 at *
     clear hasc HTr
     by_cases hm0 : m1 = 0
     ·
      as_aux_lemma =>
       subst hm0
       have hz1 : (1 : Int) ≤ ((0 : Nat) : Int) + 1 := by omega
       go_wp2_with fail
       go_roundg g'
       case measure => have := HGG.out; omega
       exact ValR.zero HBW.out (by rw [HS0.out.len]; exact Nat.le_refl _) HV1.out (by omega)
     have hm0p : 0 < m1 := by omega
     have HS1 := hid (HS0.out.drop 1)
     by_cases c8 : 8 < m1
     ·
      as_aux_lemma =>
       have c8z : (8 : Int) < (m1 : Int) := by omega
       go_upto_region 6 with fail
       obtain ⟨o1, ho1⟩ : ∃ o1, off + 1 = o1 := ⟨_, rfl⟩
       rw [ho1] at HS1 ⊢
       obtain ⟨t1, ht1⟩ : ∃ t1, t.drop 1 = t1 := ⟨_, rfl⟩
       rw [ht1] at HS1 HV1
       clear ho1 ht1 HS0 HA1 HV k0
       have hcw := HS1.out.word (by omega) 0 m1
       rw [show wr.drewN 0 = wr from rfl] at hcw
       have HKA := hid (w8_asc (l := t1) (by rw [HS1.out.len]; omega))
       have lA1 := w8_lt t1
       generalize w8 t1 = A1 at *
       have hand1 : bits .and .u64 (A1 : Int) 9259542123273814144 = ((A1 &&& 9259542123273814144 : Nat) : Int) := u64_and_nat A1 9259542123273814144 lA1 (by omega)
       obtain ⟨Z1, hZ1⟩ : ∃ Z1, A1 &&& 9259542123273814144 = Z1 := ⟨_, rfl⟩
       rw [hZ1] at hand1 HKA
       clear hZ1
       by_cases hz1 : Z1 = 0
       ·
        as_aux_lemma =>
         have hz1b : ((Z1 : Int) == 0) = true := by simp [hz1]
         have HA8 := hid (HKA.out hz1)
         clear hz1 HKA
         obtain ⟨m2, hm2⟩ : ∃ m2, m1 = m2 + 8 := ⟨m1 - 8, by omega⟩
         have hm2p : 0 < m2 := by omega
         subst hm2
         have HS2 := hid (HS1.out.drop 8)
         have HV2 := hid ((valid_drop HA8.out).trans HV1.out)
         go_wp2_with fail
         refine hcw.mono ?_
         rintro e W1 ⟨rfl, q1, rfl⟩
         have HB1 := hid (below_nq HBW.out q1)
         have HS3 := hid (HS2.out.drewN q1)
         generalize wr.drewN q1 = wq at *
         clear HBW HS1 HS2 hcw
         have hm2i : (8 : Int) ≤ (m2 : Int) + 8 := by omega
         go_upto_region 8 with fail
         obtain ⟨o2, ho2⟩ : ∃ o2, o1 + 8 = o2 := ⟨_, rfl⟩
         rw [ho2] at HS3 ⊢
         obtain ⟨t2, ht2⟩ : ∃ t2, t1.drop 8 = t2 := ⟨_, rfl⟩
         rw [ht2] at HS3 HV2
         clear ho2 ht2 HA8 HV1 hand1 lA1
         by_cases c16 : 16 < m2
         ·
          as_aux_lemma =>
           obtain ⟨m3, hm3⟩ : ∃ m3, m2 = m3 + 16 := ⟨m2 - 16, by omega⟩
           have hm3p : 0 < m3 := by omega
           subst hm3
           have c16z : (16 : Int) < (m3 : Int) + 16 := by omega
           have s8z : (8 : Int) ≤ (m3 : Int) + 16 := by omega
           have HS3b := hid (SegAt.drop (m := m3 + 8) 8 HS3.out)
           have hcA : ∀ n, _ := fun n => HS3.out.word (by omega) n (m3 + 16)
           have hcB : ∀ n, _ := fun n => HS3b.out.word (by omega) n (m3 + 8)
           have HKA := hid (w8_asc (l := t2) (by rw [HS3.out.len]; omega))
           have HKB := hid (w8_asc (l := t2.drop 8) (by rw [HS3b.out.len]; omega))
           have lA2 := w8_lt t2
           have lA3 := w8_lt (t2.drop 8)
           generalize w8 t2 = A2 at *
           generalize w8 (t2.drop 8) = A3 at *
           have hor2 : bits .or .u64 (A2 : Int) (A3 : Int) = ((A2 ||| A3 : Nat) : Int) := u64_or_nat A2 A3 lA2 lA3
           have lor2 : A2 ||| A3 < 18446744073709551616 := Nat.or_lt_two_pow (n := 64) lA2 lA3
           have hand2 : bits .and .u64 ((A2 ||| A3 : Nat) : Int) 9259542123273814144 = (((A2 ||| A3) &&& 9259542123273814144 : Nat) : Int) := u64_and_nat _ 9259542123273814144 lor2 (by omega)
           have HK2 : Hid ((A2 ||| A3) &&& 9259542123273814144 = 0 → AscL t2 16) := hid (fun h9 => asc_more (HKA.out ((mask_or _ _).1 h9).1) (HKB.out ((mask_or _ _).1 h9).2))
           obtain ⟨O2, hO2⟩ : ∃ O2, A2 ||| A3 = O2 := ⟨_, rfl⟩
           rw [hO2] at hor2 hand2 HK2
           obtain ⟨Z2, hZ2⟩ : ∃ Z2, O2 &&& 9259542123273814144 = Z2 := ⟨_, rfl⟩
           rw [hZ2] at hand2 HK2
           clear hO2 hZ2 HKA HKB lor2
           by_cases hz2 : Z2 = 0
           ·
            as_aux_lemma =>
             have hz2b : ((Z2 : Int) == 0) = true := by simp [hz2]
             have HA16 := hid (HK2.out hz2)
             have HS4 := hid (HS3.out.drop 16)
             have HV3 := hid ((valid_drop HA16.out).trans HV2.out)
             clear hz2 HK2
             have s16z : (16 : Int) ≤ (m3 : Int) + 16 := by omega
             go_big_quiet_o (first | (with_reducible refine Calls.quiet_of (hcA _)) | (with_reducible refine Calls.quiet_of (hcB _)))
             have HB2 := hid (below_nq HB1.out nq)
             have HS5 := hid (HS4.out.drewN nq)
             generalize wq.drewN nq = wq2 at *
             clear HB1 HS3 HS3b HS4 hcA hcB hor2 hand2 lA2 lA3 HA16 HV2
             go_wp2
             obtain ⟨o3, ho3⟩ : ∃ o3, o2 + 16 = o3 := ⟨_, rfl⟩
             rw [ho3] at HS5 ⊢
             obtain ⟨t3, ht3⟩ : ∃ t3, t2.drop 16 = t3 := ⟨_, rfl⟩
             rw [ht3] at HS5 HV3
             clear ho3 ht3
             go_loopg [0] (m3 + 1) (fun g2 s0 wx => ∃ (o m : Nat) (u : List UInt8), s0 = .slice (some ⟨b, o, none⟩) m m ∧ Below w.heap.size w wx ∧ SegAt wx b o m u ∧ validD u = ANS ∧ m < g2 ∧ m ≤ m3)
             case atStart => exact ⟨o3, m3, t3, rfl, HB2.out, HS5.out, HV3.out, Nat.lt_succ_self _, Nat.le_refl _⟩
             obtain ⟨o, m, u, rfl, hbu, hsu, hvu, hgm, hmm⟩ := hrel
             have HBU := hid hbu
             have HSU := hid hsu
             have HVU := hid hvu
             clear hbu hsu hvu HB2 HS5 HV3
             by_cases c32 : 32 < m
             ·
              as_aux_lemma =>
               obtain ⟨m4, hm4⟩ : ∃ m4, m = m4 + 32 := ⟨m - 32, by omega⟩
               have hm4p : 0 < m4 := by omega
               subst hm4
               have c32z : (32 : Int) < (m4 : Int) + 32 := by omega
               have t8z : (8 : Int) ≤ (m4 : Int) + 32 := by omega
               have t16z : (16 : Int) ≤ (m4 : Int) + 32 := by omega
               have t24z : (24 : Int) ≤ (m4 : Int) + 32 := by omega
               have t32z : (32 : Int) ≤ (m4 : Int) + 32 := by omega
               have HU1 := hid (SegAt.drop (m := m4 + 24) 8 HSU.out)
               have HU2 := hid (SegAt.drop (m := m4 + 16) 16 HSU.out)
               have HU3 := hid (SegAt.drop (m := m4 + 8) 24 HSU.out)
               have HU4 := hid (SegAt.drop (m := m4) 32 HSU.out)
               have hc0 : ∀ n, _ := fun n => HSU.out.word (by omega) n (m4 + 32)
               have hc1 : ∀ n, _ := fun n => HU1.out.word (by omega) n (m4 + 24)
               have hc2 : ∀ n, _ := fun n => HU2.out.word (by omega) n (m4 + 16)
               have hc3 : ∀ n, _ := fun n => HU3.out.word (by omega) n (m4 + 8)
               have HK0 := hid (w8_asc (l := u) (by rw [HSU.out.len]; omega))
               have HK1 := hid (w8_asc (l := u.drop 8) (by rw [HU1.out.len]; omega))
               have HK2 := hid (w8_asc (l := u.drop 16) (by rw [HU2.out.len]; omega))
               have HK3 := hid (w8_asc (l := u.drop 24) (by rw [HU3.out.len]; omega))
               have lB0 := w8_lt u
               have lB1 := w8_lt (u.drop 8)
               have lB2 := w8_lt (u.drop 16)
               have lB3 := w8_lt (u.drop 24)
               generalize w8 u = B0 at *
               generalize w8 (u.drop 8) = B1 at *
               generalize w8 (u.drop 16) = B2 at *
               generalize w8 (u.drop 24) = B3 at *
               have ho1 : bits .or .u64 (B0 : Int) (B1 : Int) = ((B0 ||| B1 : Nat) : Int) := u64_or_nat B0 B1 lB0 lB1
               have ho2 : bits .or .u64 (B2 : Int) (B3 : Int) = ((B2 ||| B3 : Nat) : Int) := u64_or_nat B2 B3 lB2 lB3
               have lo1 : B0 ||| B1 < 18446744073709551616 := Nat.or_lt_two_pow (n := 64) lB0 lB1
               have lo2 : B2 ||| B3 < 18446744073709551616 := Nat.or_lt_two_pow (n := 64) lB2 lB3
               have HK4 : Hid (((B0 ||| B1) ||| (B2 ||| B3)) &&& 9259542123273814144 = 0 → AscL u 32) := hid (fun h9 => by
                obtain ⟨e01, e23⟩ := (mask_or _ _).1 h9
                obtain ⟨e0, e1⟩ := (mask_or _ _).1 e01
                obtain ⟨e2, e3⟩ := (mask_or _ _).1 e23
                exact asc_more (asc_more (asc_more (HK0.out e0) (HK1.out e1)) (HK2.out e2)) (HK3.out e3))
               obtain ⟨P1, hP1⟩ : ∃ P1, B0 ||| B1 = P1 := ⟨_, rfl⟩
               obtain ⟨P2, hP2⟩ : ∃ P2, B2 ||| B3 = P2 := ⟨_, rfl⟩
               rw [hP1] at ho1 lo1 HK4
               rw [hP2] at ho2 lo2 HK4
               have ho3 : bits .or .u64 (P1 : Int) (P2 : Int) = ((P1 ||| P2 : Nat) : Int) := u64_or_nat P1 P2 lo1 lo2
               have lo3 : P1 ||| P2 < 18446744073709551616 := Nat.or_lt_two_pow (n := 64) lo1 lo2
               obtain ⟨P3, hP3⟩ : ∃ P3, P1 ||| P2 = P3 := ⟨_, rfl⟩
               rw [hP3] at ho3 lo3 HK4
               have hand3 : bits .and .u64 (P3 : Int) 9259542123273814144 = ((P3 &&& 9259542123273814144 : Nat) : Int) := u64_and_nat P3 9259542123273814144 lo3 (by omega)
               obtain ⟨Z3, hZ3⟩ : ∃ Z3, P3 &&& 9259542123273814144 = Z3 := ⟨_, rfl⟩
               rw [hZ3] at hand3 HK4
               clear hP1 hP2 hP3 hZ3 HK0 HK1 HK2 HK3 lo1 lo2 lo3
               by_cases hz3 : Z3 = 0
               ·
                as_aux_lemma =>
                 have hz3b : ((Z3 : Int) == 0) = true := by simp [hz3]
                 have HV4 := hid ((valid_drop (HK4.out hz3)).trans HVU.out)
                 clear hz3 HK4
                 go_wp2_with fail
                 go_big_quiet_o (first | (with_reducible refine Calls.quiet_of (hc0 _)) | (with_reducible refine Calls.quiet_of (hc1 _)) | (with_reducible refine Calls.quiet_of (hc2 _)) | (with_reducible refine Calls.quiet_of (hc3 _)))
                 go_wp2_with fail
                 go_roundg (m4 + 1)
                 case measure => omega
                 exact ⟨o + 32, m4, u.drop 32, rfl, below_nq HBU.out nq, HU4.out.drewN nq, HV4.out, Nat.lt_succ_self _, by omega⟩
               as_aux_lemma =>
                have hz3b : ((Z3 : Int) == 0) = false := by simp; omega
                clear HK4
                go_wp2_with fail
                go_big_quiet_o (first | (with_reducible refine Calls.quiet_of (hc0 _)) | (with_reducible refine Calls.quiet_of (hc1 _)) | (with_reducible refine Calls.quiet_of (hc2 _)) | (with_reducible refine Calls.quiet_of (hc3 _)))
                go_wp2_with fail
                go_roundg g'
                case measure => have := HGG.out; omega
                exact ValR.seg (below_nq HBU.out nq) (HSU.out.drewN nq) HVU.out (by omega) (by omega)
             as_aux_lemma =>
              have c32z : ¬ ((32 : Int) < (m : Int)) := by omega
              have c32b : decide ((32 : Int) < (m : Int)) = false := decide_eq_false c32z
              go_wp2_with fail
              go_big_quiet_o (fail)
              go_wp2_with fail
              go_roundg g'
              case measure => have := HGG.out; omega
              exact ValR.seg (below_nq HBU.out nq) (HSU.out.drewN nq) HVU.out (by omega) (by omega)
           as_aux_lemma =>
            have hz2b : ((Z2 : Int) == 0) = false := by simp; omega
            clear hz2 HK2
            go_big_quiet_o (first | (with_reducible refine Calls.quiet_of (hcA _)) | (with_reducible refine Calls.quiet_of (hcB _)))
            go_wp2_with fail
            go_roundg g'
            case measure => have := HGG.out; omega
            exact ValR.seg (below_nq HB1.out nq) (HS3.out.drewN nq) HV2.out (by omega) (by omega)
         as_aux_lemma =>
          have c16z : ¬ ((16 : Int) < (m2 : Int)) := by omega
          have c16b : decide ((16 : Int) < (m2 : Int)) = false := decide_eq_false c16z
          go_big_quiet_o (fail)
          go_wp2_with fail
          go_roundg g'
          case measure => have := HGG.out; omega
          exact ValR.seg (below_nq HB1.out nq) (HS3.out.drewN nq) HV2.out (by omega) (by omega)
       as_aux_lemma =>
        have hz1b : ((Z1 : Int) == 0) = false := by simp; omega
        clear hz1 HKA
        go_wp2_with fail
        refine hcw.mono ?_
        rintro e W1 ⟨rfl, q1, rfl⟩
        go_wp2_with fail
        go_roundg g'
        case measure => have := HGG.out; omega
        exact ValR.seg (below_nq HBW.out q1) (HS1.out.drewN q1) HV1.out (by omega) (by omega)
     as_aux_lemma =>
      have c8z : ¬ ((8 : Int) < (m1 : Int)) := by omega
      go_wp2_with fail
      go_roundg g'
      case measure => have := HGG.out; omega
      exact ValR.seg HBW.out HS1.out HV1.out (by omega) (by omega)
   as_aux_lemma =>
    have hge : 128 ≤ (t.getD 0 0).toNat := by omega
    have hascz : ¬ (((t.getD 0 0).toNat : Int) < 128) := by omega
    have hlead := validD_lead t (List.length_pos_iff.1 HH0.out) hge
    rw [HS0.out.len, HV.out] at hlead
    have hc0 := HTr.out.1 (t.getD 0 0).toNat hx0
    have hXlt : firstT (t.getD 0 0).toNat < 256 := by rcases firstT_cases (t.getD 0 0).toNat with h | h | h | h | h | h | h | h | h <;> omega
    obtain ⟨X, hX⟩ : ∃ X, firstT (t.getD 0 0).toNat = X := ⟨_, rfl⟩
    rw [hX] at hc0 hXlt hlead
    have h7 := Go.Proofs.and7 ⟨X, hXlt⟩
    simp only at h7
    have ha0 : wr.cell? ⟨1, X / 16 * 2, none⟩ = some (.int .u8 (accLo (X / 16))) := by rw [Nat.mul_comm]; exact (HTr.out.2 (X / 16) (by omega)).1
    have ha1 : wr.cell? ⟨1, X / 16 * 2 + 1, none⟩ = some (.int .u8 (accHi (X / 16))) := by rw [Nat.mul_comm]; exact (HTr.out.2 (X / 16) (by omega)).2
    obtain ⟨LO, hLO⟩ : ∃ LO, accLo (X / 16) = LO := ⟨_, rfl⟩
    obtain ⟨HI, hHI⟩ : ∃ HI, accHi (X / 16) = HI := ⟨_, rfl⟩
    rw [hLO] at ha0 hlead
    rw [hHI] at ha1 hlead
    obtain ⟨SZ, hSZ⟩ : ∃ SZ, X % 8 = SZ := ⟨_, rfl⟩
    rw [hSZ] at hlead
    have HLEAD := hid hlead
    have HSZ := hid hSZ
    clear hX hLO hHI hge hlead hasc HTr
    generalize t.getD 0 0 = x0 at *
    go_upto_region 15 with fail
    obtain ⟨g6, hg6⟩ : ∃ g, wr.heap.size = g := ⟨_, rfl⟩
    rw [hg6]
    have hla := RowAt.new wr #[Value.int IntKind.u8 LO, Value.int IntKind.u8 HI] 102
    rw [hg6] at hla
    have z0 := hla.cell 0 _ rfl
    have z1 := hla.cell 1 _ rfl
    have HB1 : Hid (Below w.heap.size w (wr.alloc (Obj.cells #[Value.int IntKind.u8 LO, Value.int IntKind.u8 HI] 102))) := hid (HBW.out.alloc HBW.out.size _)
    have HS1 := hid (HS0.out.alloc (Obj.cells #[Value.int IntKind.u8 LO, Value.int IntKind.u8 HI] 102))
    generalize (wr.alloc (Obj.cells #[Value.int IntKind.u8 LO, Value.int IntKind.u8 HI] 102)) = wa at *
    clear hla hg6 hc0 ha0 ha1 k0 HBW HS0
    have hx1 := (t.getD 1 0).toNat_lt
    have hx2 := (t.getD 2 0).toNat_lt
    have hx3 := (t.getD 3 0).toNat_lt
    have K1 : Hid (1 < m1 + 1 → wa.cell? ⟨b, off + 1, none⟩ = some (.int .u8 ((t.getD 1 0).toNat : Int))) := hid (HS1.out.cell 1)
    have K2 : Hid (2 < m1 + 1 → wa.cell? ⟨b, off + 2, none⟩ = some (.int .u8 ((t.getD 2 0).toNat : Int))) := hid (HS1.out.cell 2)
    have K3 : Hid (3 < m1 + 1 → wa.cell? ⟨b, off + 3, none⟩ = some (.int .u8 ((t.getD 3 0).toNat : Int))) := hid (HS1.out.cell 3)
    generalize t.getD 1 0 = x1 at *
    generalize t.getD 2 0 = x2 at *
    generalize t.getD 3 0 = x3 at *
    by_cases s2 : SZ = 2
    ·
     as_aux_lemma =>
      subst s2
      have hSZz : (X : Int) % 8 = 2 := by have := HSZ.out; omega
      have HL2 : Hid (ANS = match (if m1 + 1 < 2 ∨ x1.toNat < LO ∨ HI < x1.toNat then none else some 2 : Option Nat) with | none => false | some k => validD (t.drop k)) := HLEAD
      clear HLEAD
      go_upto_region 18 with fail
      go_cut [103] from 85 to 103 (fun c wx => c = .bool (decide (m1 + 1 < 2 ∨ x1.toNat < LO ∨ HI < x1.toNat)) ∧ Below w.heap.size w wx ∧ SegAt wx b off (m1 + 1) t)
      case first =>
       as_aux_lemma =>
        by_cases q0 : m1 + 1 < 2
        ·
         as_aux_lemma =>
          have q0z : (m1 : Int) + 1 < 2 := by omega
          have q0b : decide ((m1 : Int) + 1 < 2) = true := decide_eq_true q0z
          go_big_quiet_o (fail)
          go_wp2_with fail
          go_meet
          exact ⟨congrArg Value.bool (decide_eq_true (p := m1 + 1 < 2 ∨ x1.toNat < LO ∨ HI < x1.toNat) (by omega)).symm, below_nq HB1.out _, HS1.out.drewN _⟩
        as_aux_lemma =>
         have q0z : ¬ ((m1 : Int) + 1 < 2) := by omega
         have q0b : decide ((m1 : Int) + 1 < 2) = false := decide_eq_false q0z
         have i1 : (1 : Int) < (m1 : Int) + 1 := by omega
         have k1 := K1.out (by omega)
         by_cases q1 : x1.toNat < LO
         ·
          as_aux_lemma =>
           have q1z : (x1.toNat : Int) < (LO : Int) := by omega
           have q1b : decide ((x1.toNat : Int) < (LO : Int)) = true := decide_eq_true q1z
           go_big_quiet_o (fail)
           go_wp2_with fail
           go_meet
           exact ⟨congrArg Value.bool (decide_eq_true (p := m1 + 1 < 2 ∨ x1.toNat < LO ∨ HI < x1.toNat) (by omega)).symm, below_nq HB1.out _, HS1.out.drewN _⟩
         as_aux_lemma =>
          have q1z : ¬ ((x1.toNat : Int) < (LO : Int)) := by omega
          have q1b : decide ((x1.toNat : Int) < (LO : Int)) = false := decide_eq_false q1z
          by_cases q2 : HI < x1.toNat
          ·
           as_aux_lemma =>
            have q2z : (HI : Int) < (x1.toNat : Int) := by omega
            have q2b : decide ((HI : Int) < (x1.toNat : Int)) = true := decide_eq_true q2z
            go_big_quiet_o (fail)
            go_wp2_with fail
            go_meet
            exact ⟨congrArg Value.bool (decide_eq_true (p := m1 + 1 < 2 ∨ x1.toNat < LO ∨ HI < x1.toNat) (by omega)).symm, below_nq HB1.out _, HS1.out.drewN _⟩
          as_aux_lemma =>
           have q2z : ¬ ((HI : Int) < (x1.toNat : Int)) := by omega
           have q2b : decide ((HI : Int) < (x1.toNat : Int)) = false := decide_eq_false q2z
           go_big_quiet_o (fail)
           go_wp2_with fail
           go_meet
           exact ⟨congrArg Value.bool (decide_eq_false (p := m1 + 1 < 2 ∨ x1.toNat < LO ∨ HI < x1.toNat) (by omega)).symm, below_nq HB1.out _, HS1.out.drewN _⟩
      as_aux_lemma =>
       obtain ⟨rfl, hbc, hsc⟩ := hcut
       have HBC := hid hbc
       have HSC := hid hsc
       clear hbc hsc
       by_cases hb : m1 + 1 < 2 ∨ x1.toNat < LO ∨ HI < x1.toNat
       ·
        as_aux_lemma =>
         have hbd : decide (m1 + 1 < 2 ∨ x1.toNat < LO ∨ HI < x1.toNat) = true := decide_eq_true hb
         have HA : Hid (ANS = false) := hid (by have h9 := HL2.out; rw [if_pos hb] at h9; exact h9)
         rw [hbd]
         clear hb hbd HL2
         go_wp2_with fail
         go_ret
         exact ⟨by rw [HA.out]; try rfl, HBC.out⟩
       as_aux_lemma =>
        have hbd : decide (m1 + 1 < 2 ∨ x1.toNat < LO ∨ HI < x1.toNat) = false := decide_eq_false hb
        have HA : Hid (validD (t.drop 2) = ANS) := hid (by have h9 := HL2.out; rw [if_neg hb] at h9; exact h9.symm)
        rw [hbd]
        have hnm : 2 ≤ m1 + 1 := by omega
        clear hb hbd HL2
        by_cases hlast : m1 + 1 = 2
        ·
         as_aux_lemma =>
          obtain rfl : m1 = 1 := by omega
          clear hlast hnm
          go_wp2_with fail
          go_roundg g'
          case measure => have := HGG.out; omega
          exact ValR.zero HBC.out (by rw [HSC.out.len]; exact Nat.le_refl _) HA.out (by omega)
        as_aux_lemma =>
         obtain ⟨m2, rfl⟩ : ∃ m2, m1 = m2 + 1 := ⟨m1 - 1, by omega⟩
         have hm2p : 0 < m2 := by omega
         have hle : (2 : Int) ≤ (m2 : Int) + 1 + 1 := by omega
         have hle2 : (2 : Int) ≤ (m2 : Int) + 2 := by omega
         have HSD : Hid (SegAt _ b (off + 2) m2 (t.drop 2)) := hid (SegAt.drop (m := m2) 2 HSC.out)
         clear hlast hnm
         go_wp2_with fail
         go_roundg g'
         case measure => have := HGG.out; omega
         exact ValR.seg HBC.out HSD.out HA.out (by omega) (by omega)
    by_cases s3 : SZ = 3
    ·
     as_aux_lemma =>
      subst s3
      have hSZz : (X : Int) % 8 = 3 := by have := HSZ.out; omega
      have HL2 : Hid (ANS = match (if m1 + 1 < 3 ∨ x1.toNat < LO ∨ HI < x1.toNat ∨ x2.toNat < 128 ∨ 191 < x2.toNat then none else some 3 : Option Nat) with | none => false | some k => validD (t.drop k)) := HLEAD
      clear HLEAD
      go_upto_region 22 with fail
      go_cut [138] from 108 to 138 (fun c wx => c = .bool (decide (m1 + 1 < 3 ∨ x1.toNat < LO ∨ HI < x1.toNat ∨ x2.toNat < 128 ∨ 191 < x2.toNat)) ∧ Below w.heap.size w wx ∧ SegAt wx b off (m1 + 1) t)
      case first =>
       as_aux_lemma =>
        by_cases q0 : m1 + 1 < 3
        ·
         as_aux_lemma =>
          have q0z : (m1 : Int) + 1 < 3 := by omega
          have q0b : decide ((m1 : Int) + 1 < 3) = true := decide_eq_true q0z
          go_big_quiet_o (fail)
          go_wp2_with fail
          go_meet
          exact ⟨congrArg Value.bool (decide_eq_true (p := m1 + 1 < 3 ∨ x1.toNat < LO ∨ HI < x1.toNat ∨ x2.toNat < 128 ∨ 191 < x2.toNat) (by omega)).symm, below_nq HB1.out _, HS1.out.drewN _⟩
        as_aux_lemma =>
         have q0z : ¬ ((m1 : Int) + 1 < 3) := by omega
         have q0b : decide ((m1 : Int) + 1 < 3) = false := decide_eq_false q0z
         have i1 : (1 : Int) < (m1 : Int) + 1 := by omega
         have k1 := K1.out (by omega)
         have i2 : (2 : Int) < (m1 : Int) + 1 := by omega
         have k2 := K2.out (by omega)
         by_cases q1 : x1.toNat < LO
         ·
          as_aux_lemma =>
           have q1z : (x1.toNat : Int) < (LO : Int) := by omega
           have q1b : decide ((x1.toNat : Int) < (LO : Int)) = true := decide_eq_true q1z
           go_big_quiet_o (fail)
           go_wp2_with fail
           go_meet
           exact ⟨congrArg Value.bool (decide_eq_true (p := m1 + 1 < 3 ∨ x1.toNat < LO ∨ HI < x1.toNat ∨ x2.toNat < 128 ∨ 191 < x2.toNat) (by omega)).symm, below_nq HB1.out _, HS1.out.drewN _⟩
         as_aux_lemma =>
          have q1z : ¬ ((x1.toNat : Int) < (LO : Int)) := by omega
          have q1b : decide ((x1.toNat : Int) < (LO : Int)) = false := decide_eq_false q1z
          by_cases q2 : HI < x1.toNat
          ·
           as_aux_lemma =>
            have q2z : (HI : Int) < (x1.toNat : Int) := by omega
            have q2b : decide ((HI : Int) < (x1.toNat : Int)) = true := decide_eq_true q2z
            go_big_quiet_o (fail)
            go_wp2_with fail
            go_meet
            exact ⟨congrArg Value.bool (decide_eq_true (p := m1 + 1 < 3 ∨ x1.toNat < LO ∨ HI < x1.toNat ∨ x2.toNat < 128 ∨ 191 < x2.toNat) (by omega)).symm, below_nq HB1.out _, HS1.out.drewN _⟩
          as_aux_lemma =>
           have q2z : ¬ ((HI : Int) < (x1.toNat : Int)) := by omega
           have q2b : decide ((HI : Int) < (x1.toNat : Int)) = false := decide_eq_false q2z
           by_cases q3 : x2.toNat < 128
           ·
            as_aux_lemma =>
             have q3z : (x2.toNat : Int) < 128 := by omega
             have q3b : decide ((x2.toNat : Int) < 128) = true := decide_eq_true q3z
             go_big_quiet_o (fail)
             go_wp2_with fail
             go_meet
             exact ⟨congrArg Value.bool (decide_eq_true (p := m1 + 1 < 3 ∨ x1.toNat < LO ∨ HI < x1.toNat ∨ x2.toNat < 128 ∨ 191 < x2.toNat) (by omega)).symm, below_nq HB1.out _, HS1.out.drewN _⟩
           as_aux_lemma =>
            have q3z : ¬ ((x2.toNat : Int) < 128) := by omega
            have q3b : decide ((x2.toNat : Int) < 128) = false := decide_eq_false q3z
            by_cases q4 : 191 < x2.toNat
            ·
             as_aux_lemma =>
              have q4z : (191 : Int) < (x2.toNat : Int) := by omega
              have q4b : decide ((191 : Int) < (x2.toNat : Int)) = true := decide_eq_true q4z
              go_big_quiet_o (fail)
              go_wp2_with fail
              go_meet
              exact ⟨congrArg Value.bool (decide_eq_true (p := m1 + 1 < 3 ∨ x1.toNat < LO ∨ HI < x1.toNat ∨ x2.toNat < 128 ∨ 191 < x2.toNat) (by omega)).symm, below_nq HB1.out _, HS1.out.drewN _⟩
            as_aux_lemma =>
             have q4z : ¬ ((191 : Int) < (x2.toNat : Int)) := by omega
             have q4b : decide ((191 : Int) < (x2.toNat : Int)) = false := decide_eq_false q4z
             go_big_quiet_o (fail)
             go_wp2_with fail
             go_meet
             exact ⟨congrArg Value.bool (decide_eq_false (p := m1 + 1 < 3 ∨ x1.toNat < LO ∨ HI < x1.toNat ∨ x2.toNat < 128 ∨ 191 < x2.toNat) (by omega)).symm, below_nq HB1.out _, HS1.out.drewN _⟩
      as_aux_lemma =>
       obtain ⟨rfl, hbc, hsc⟩ := hcut
       have HBC := hid hbc
       have HSC := hid hsc
       clear hbc hsc
       by_cases hb : m1 + 1 < 3 ∨ x1.toNat < LO ∨ HI < x1.toNat ∨ x2.toNat < 128 ∨ 191 < x2.toNat
       ·
        as_aux_lemma =>
         have hbd : decide (m1 + 1 < 3 ∨ x1.toNat < LO ∨ HI < x1.toNat ∨ x2.toNat < 128 ∨ 191 < x2.toNat) = true := decide_eq_true hb
         have HA : Hid (ANS = false) := hid (by have h9 := HL2.out; rw [if_pos hb] at h9; exact h9)
         rw [hbd]
         clear hb hbd HL2
         go_wp2_with fail
         go_ret
         exact ⟨by rw [HA.out]; try rfl, HBC.out⟩
       as_aux_lemma =>
        have hbd : decide (m1 + 1 < 3 ∨ x1.toNat < LO ∨ HI < x1.toNat ∨ x2.toNat < 128 ∨ 191 < x2.toNat) = false := decide_eq_false hb
        have HA : Hid (validD (t.drop 3) = ANS) := hid (by have h9 := HL2.out; rw [if_neg hb] at h9; exact h9.symm)
        rw [hbd]
        have hnm : 3 ≤ m1 + 1 := by omega
        clear hb hbd HL2
        by_cases hlast : m1 + 1 = 3
        ·
         as_aux_lemma =>
          obtain rfl : m1 = 2 := by omega
          clear hlast hnm
          go_wp2_with fail
          go_roundg g'
          case measure => have := HGG.out; omega
          exact ValR.zero HBC.out (by rw [HSC.out.len]; exact Nat.le_refl _) HA.out (by omega)
        as_aux_lemma =>
         obtain ⟨m2, rfl⟩ : ∃ m2, m1 = m2 + 2 := ⟨m1 - 2, by omega⟩
         have hm2p : 0 < m2 := by omega
         have hle : (3 : Int) ≤ (m2 : Int) + 2 + 1 := by omega
         have hle2 : (3 : Int) ≤ (m2 : Int) + 3 := by omega
         have HSD : Hid (SegAt _ b (off + 3) m2 (t.drop 3)) := hid (SegAt.drop (m := m2) 3 HSC.out)
         clear hlast hnm
         go_wp2_with fail
         go_roundg g'
         case measure => have := HGG.out; omega
         exact ValR.seg HBC.out HSD.out HA.out (by omega) (by omega)
    by_cases s4 : SZ = 4
    ·
     as_aux_lemma =>
      subst s4
      have hSZz : (X : Int) % 8 = 4 := by have := HSZ.out; omega
      have HL2 : Hid (ANS = match (if m1 + 1 < 4 ∨ x1.toNat < LO ∨ HI < x1.toNat ∨ x2.toNat < 128 ∨ 191 < x2.toNat ∨ x3.toNat < 128 ∨ 191 < x3.toNat then none else some 4 : Option Nat) with | none => false | some k => validD (t.drop k)) := HLEAD
      clear HLEAD
      go_upto_region 26 with fail
      go_cut [185] from 143 to 185 (fun c wx => c = .bool (decide (m1 + 1 < 4 ∨ x1.toNat < LO ∨ HI < x1.toNat ∨ x2.toNat < 128 ∨ 191 < x2.toNat ∨ x3.toNat < 128 ∨ 191 < x3.toNat)) ∧ Below w.heap.size w wx ∧ SegAt wx b off (m1 + 1) t)
      case first =>
       as_aux_lemma =>
        by_cases q0 : m1 + 1 < 4
        ·
         as_aux_lemma =>
          have q0z : (m1 : Int) + 1 < 4 := by omega
          have q0b : decide ((m1 : Int) + 1 < 4) = true := decide_eq_true q0z
          go_big_quiet_o (fail)
          go_wp2_with fail
          go_meet
          exact ⟨congrArg Value.bool (decide_eq_true (p := m1 + 1 < 4 ∨ x1.toNat < LO ∨ HI < x1.toNat ∨ x2.toNat < 128 ∨ 191 < x2.toNat ∨ x3.toNat < 128 ∨ 191 < x3.toNat) (by omega)).symm, below_nq HB1.out _, HS1.out.drewN _⟩
        as_aux_lemma =>
         have q0z : ¬ ((m1 : Int) + 1 < 4) := by omega
         have q0b : decide ((m1 : Int) + 1 < 4) = false := decide_eq_false q0z
         have i1 : (1 : Int) < (m1 : Int) + 1 := by omega
         have k1 := K1.out (by omega)
         have i2 : (2 : Int) < (m1 : Int) + 1 := by omega
         have k2 := K2.out (by omega)
         have i3 : (3 : Int) < (m1 : Int) + 1 := by omega
         have k3 := K3.out (by omega)
         by_cases q1 : x1.toNat < LO
         ·
          as_aux_lemma =>
           have q1z : (x1.toNat : Int) < (LO : Int) := by omega
           have q1b : decide ((x1.toNat : Int) < (LO : Int)) = true := decide_eq_true q1z
           go_big_quiet_o (fail)
           go_wp2_with fail
           go_meet
           exact ⟨congrArg Value.bool (decide_eq_true (p := m1 + 1 < 4 ∨ x1.toNat < LO ∨ HI < x1.toNat ∨ x2.toNat < 128 ∨ 191 < x2.toNat ∨ x3.toNat < 128 ∨ 191 < x3.toNat) (by omega)).symm, below_nq HB1.out _, HS1.out.drewN _⟩
         as_aux_lemma =>
          have q1z : ¬ ((x1.toNat : Int) < (LO : Int)) := by omega
          have q1b : decide ((x1.toNat : Int) < (LO : Int)) = false := decide_eq_false q1z
          by_cases q2 : HI < x1.toNat
          ·
           as_aux_lemma =>
            have q2z : (HI : Int) < (x1.toNat : Int) := by omega
            have q2b : decide ((HI : Int) < (x1.toNat : Int)) = true := decide_eq_true q2z
            go_big_quiet_o (fail)
            go_wp2_with fail
            go_meet
            exact ⟨congrArg Value.bool (decide_eq_true (p := m1 + 1 < 4 ∨ x1.toNat < LO ∨ HI < x1.toNat ∨ x2.toNat < 128 ∨ 191 < x2.toNat ∨ x3.toNat < 128 ∨ 191 < x3.toNat) (by omega)).symm, below_nq HB1.out _, HS1.out.drewN _⟩
          as_aux_lemma =>
           have q2z : ¬ ((HI : Int) < (x1.toNat : Int)) := by omega
           have q2b : decide ((HI : Int) < (x1.toNat : Int)) = false := decide_eq_false q2z
           by_cases q3 : x2.toNat < 128
           ·
            as_aux_lemma =>
             have q3z : (x2.toNat : Int) < 128 := by omega
             have q3b : decide ((x2.toNat : Int) < 128) = true := decide_eq_true q3z
             go_big_quiet_o (fail)
             go_wp2_with fail
             go_meet
             exact ⟨congrArg Value.bool (decide_eq_true (p := m1 + 1 < 4 ∨ x1.toNat < LO ∨ HI < x1.toNat ∨ x2.toNat < 128 ∨ 191 < x2.toNat ∨ x3.toNat < 128 ∨ 191 < x3.toNat) (by omega)).symm, below_nq HB1.out _, HS1.out.drewN _⟩
           as_aux_lemma =>
            have q3z : ¬ ((x2.toNat : Int) < 128) := by omega
            have q3b : decide ((x2.toNat : Int) < 128) = false := decide_eq_false q3z
            by_cases q4 : 191 < x2.toNat
            ·
             as_aux_lemma =>
              have q4z : (191 : Int) < (x2.toNat : Int) := by omega
              have q4b : decide ((191 : Int) < (x2.toNat : Int)) = true := decide_eq_true q4z
              go_big_quiet_o (fail)
              go_wp2_with fail
              go_meet
              exact ⟨congrArg Value.bool (decide_eq_true (p := m1 + 1 < 4 ∨ x1.toNat < LO ∨ HI < x1.toNat ∨ x2.toNat < 128 ∨ 191 < x2.toNat ∨ x3.toNat < 128 ∨ 191 < x3.toNat) (by omega)).symm, below_nq HB1.out _, HS1.out.drewN _⟩
            as_aux_lemma =>
             have q4z : ¬ ((191 : Int) < (x2.toNat : Int)) := by omega
             have q4b : decide ((191 : Int) < (x2.toNat : Int)) = false := decide_eq_false q4z
             by_cases q5 : x3.toNat < 128
             ·
              as_aux_lemma =>
               have q5z : (x3.toNat : Int) < 128 := by omega
               have q5b : decide ((x3.toNat : Int) < 128) = true := decide_eq_true q5z
               go_big_quiet_o (fail)
               go_wp2_with fail
               go_meet
               exact ⟨congrArg Value.bool (decide_eq_true (p := m1 + 1 < 4 ∨ x1.toNat < LO ∨ HI < x1.toNat ∨ x2.toNat < 128 ∨ 191 < x2.toNat ∨ x3.toNat < 128 ∨ 191 < x3.toNat) (by omega)).symm, below_nq HB1.out _, HS1.out.drewN _⟩
             as_aux_lemma =>
              have q5z : ¬ ((x3.toNat : Int) < 128) := by omega
              have q5b : decide ((x3.toNat : Int) < 128) = false := decide_eq_false q5z
              by_cases q6 : 191 < x3.toNat
              ·
               as_aux_lemma =>
                have q6z : (191 : Int) < (x3.toNat : Int) := by omega
                have q6b : decide ((191 : Int) < (x3.toNat : Int)) = true := decide_eq_true q6z
                go_big_quiet_o (fail)
                go_wp2_with fail
                go_meet
                exact ⟨congrArg Value.bool (decide_eq_true (p := m1 + 1 < 4 ∨ x1.toNat < LO ∨ HI < x1.toNat ∨ x2.toNat < 128 ∨ 191 < x2.toNat ∨ x3.toNat < 128 ∨ 191 < x3.toNat) (by omega)).symm, below_nq HB1.out _, HS1.out.drewN _⟩
              as_aux_lemma =>
               have q6z : ¬ ((191 : Int) < (x3.toNat : Int)) := by omega
               have q6b : decide ((191 : Int) < (x3.toNat : Int)) = false := decide_eq_false q6z
               go_big_quiet_o (fail)
               go_wp2_with fail
               go_meet
               exact ⟨congrArg Value.bool (decide_eq_false (p := m1 + 1 < 4 ∨ x1.toNat < LO ∨ HI < x1.toNat ∨ x2.toNat < 128 ∨ 191 < x2.toNat ∨ x3.toNat < 128 ∨ 191 < x3.toNat) (by omega)).symm, below_nq HB1.out _, HS1.out.drewN _⟩
      as_aux_lemma =>
       obtain ⟨rfl, hbc, hsc⟩ := hcut
       have HBC := hid hbc
       have HSC := hid hsc
       clear hbc hsc
       by_cases hb : m1 + 1 < 4 ∨ x1.toNat < LO ∨ HI < x1.toNat ∨ x2.toNat < 128 ∨ 191 < x2.toNat ∨ x3.toNat < 128 ∨ 191 < x3.toNat
       ·
        as_aux_lemma =>
         have hbd : decide (m1 + 1 < 4 ∨ x1.toNat < LO ∨ HI < x1.toNat ∨ x2.toNat < 128 ∨ 191 < x2.toNat ∨ x3.toNat < 128 ∨ 191 < x3.toNat) = true := decide_eq_true hb
         have HA : Hid (ANS = false) := hid (by have h9 := HL2.out; rw [if_pos hb] at h9; exact h9)
         rw [hbd]
         clear hb hbd HL2
         go_wp2_with fail
         go_ret
         exact ⟨by rw [HA.out]; try rfl, HBC.out⟩
       as_aux_lemma =>
        have hbd : decide (m1 + 1 < 4 ∨ x1.toNat < LO ∨ HI < x1.toNat ∨ x2.toNat < 128 ∨ 191 < x2.toNat ∨ x3.toNat < 128 ∨ 191 < x3.toNat) = false := decide_eq_false hb
        have HA : Hid (validD (t.drop 4) = ANS) := hid (by have h9 := HL2.out; rw [if_neg hb] at h9; exact h9.symm)
        rw [hbd]
        have hnm : 4 ≤ m1 + 1 := by omega
        clear hb hbd HL2
        by_cases hlast : m1 + 1 = 4
        ·
         as_aux_lemma =>
          obtain rfl : m1 = 3 := by omega
          clear hlast hnm
          go_wp2_with fail
          go_roundg g'
          case measure => have := HGG.out; omega
          exact ValR.zero HBC.out (by rw [HSC.out.len]; exact Nat.le_refl _) HA.out (by omega)
        as_aux_lemma =>
         obtain ⟨m2, rfl⟩ : ∃ m2, m1 = m2 + 3 := ⟨m1 - 3, by omega⟩
         have hm2p : 0 < m2 := by omega
         have hle : (4 : Int) ≤ (m2 : Int) + 3 + 1 := by omega
         have hle2 : (4 : Int) ≤ (m2 : Int) + 4 := by omega
         have HSD : Hid (SegAt _ b (off + 4) m2 (t.drop 4)) := hid (SegAt.drop (m := m2) 4 HSC.out)
         clear hlast hnm
         go_wp2_with fail
         go_roundg g'
         case measure => have := HGG.out; omega
         exact ValR.seg HBC.out HSD.out HA.out (by omega) (by omega)
    have e2 : ¬ ((X : Int) % 8 = 2) := by have := HSZ.out; omega
    have e3 : ¬ ((X : Int) % 8 = 3) := by have := HSZ.out; omega
    have e4 : ¬ ((X : Int) % 8 = 4) := by have := HSZ.out; omega
    have e2b : (((X : Int) % 8) == 2) = false := by simp; omega
    have e3b : (((X : Int) % 8) == 3) = false := by simp; omega
    have e4b : (((X : Int) % 8) == 4) = false := by simp; omega
    have HA : Hid (ANS = false) := hid (by have h9 := HLEAD.out; unfold checkN at h9; rw [if_neg s2, if_neg s3, if_neg s4] at h9; exact h9)
    clear HLEAD s2 s3 s4
    go_wp2_with fail
    go_ret
    exact ⟨by rw [HA.out]; try rfl, HB1.out⟩
 as_aux_lemma =>
  obtain rfl := tail_nil h0
  have HA : Hid (true = ANS) := hid HV.out
  clear h0 hq HV
  go_wp2_with fail
  go_ret
  exact ⟨by rw [← HA.out]; try rfl, HBW.out⟩
end Go.Proofs.YtfclfaidmipjpaaGreatDoor
