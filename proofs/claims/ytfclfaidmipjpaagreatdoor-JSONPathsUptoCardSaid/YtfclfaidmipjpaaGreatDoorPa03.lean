/- Texts of this claim, joined: Rgd. -/
import Derived.Test.YtfclfaidmipjpaaGreatDoorPa02
namespace Go.Proofs.YtfclfaidmipjpaaGreatDoor
set_option maxRecDepth 100000
set_option maxHeartbeats 20000000
open Go.Lib (hid)
open Go.RowKit
def DepTo (w : World) (v : J) (e : Ending) (w' : World) : Prop := e = .returned (.int .i64 (depR v : Int)) ∧ Below w.heap.size w w'
theorem depthR_calls {w0 : World} {S1 : Nat → Prop} {r1 : JR} (h1 : JV w0 S1 r1) : ∀ (w : World), Below w0.heap.size w0 w → szJ r1.1 ≤ 20000000 → Calls Tryz.prog 42 #[jval r1] w (DepTo w r1.1) := by
 induction h1 with
 | mk r1 xs hn1 hl1 hs1 ih =>
  intro w hb hsz
  obtain ⟨⟨k, b, n, t, l, ns⟩, lv0, nv0⟩ := r1
  obtain ⟨p1, c1, hp1, hc1, hm1, hL1⟩ := hl1
  change lv0 = Value.slice p1 l.length c1 at hp1
  obtain ⟨q1, e1, hq1, hcn1, hk1, hN1⟩ := hn1
  change nv0 = Value.slice q1 ns.length e1 at hq1
  subst hp1 hq1
  simp only [J.l] at hm1 hL1 hc1
  simp only [szJ] at hsz
  have hln : l.length ≤ 20000000 := by have := szL_len l; omega
  have HSZ : Hid (szL l ≤ 20000000) := hid (by omega)
  have HDR : Hid (depR (J.mk k b n t l ns) = if k < 4 then 0 else depRL l + 1) := hid (by rw [depR])
  have HL := hid hL1
  have HB := hid hb
  have HIH := hid ih
  clear hL1 hN1 hb ih hs1 hsz hcn1 hk1 hc1 hm1
  go_enter Tryz.func42, Tryz.ntmps42
  go_upto_region 1 with (refine wpList_boxJ rfl _ rfl (J.mk k b n t l ns, .slice p1 l.length c1, .slice q1 ns.length e1) rfl ?_; intro w1 hBx)
  have HV := hid hBx.row
  have HBE := hid hBx.be
  obtain ⟨g, hg⟩ : ∃ g, w.heap.size = g := ⟨_, rfl⟩
  rw [hg] at HV ⊢
  clear hBx hg
  have v0 : _ = some (Value.int .i64 k) := HV.out.cell 0 _ rfl
  by_cases hk : k < 4
  ·have hkd : decide (k < 4) = true := decide_eq_true hk
   go_wp2_with fail
   go_ret
   exact ⟨by rw [HDR.out, if_pos hk]; rfl, HBE.out⟩
  have hkd : decide (k < 4) = false := decide_eq_false hk
  have v6 : _ = some (Value.slice p1 l.length c1) := HV.out.cell 6 _ rfl
  go_wp2_with fail
  clear v0 v6 hkd
  go_loopg [3, 4] l.length (fun kk s3 s4 wr => ∃ i : Nat, kk = l.length - i ∧ i ≤ l.length ∧ s4 = .int .i64 (i : Int) ∧ s3 = .int .i64 (depRL (l.take i) : Int) ∧ RowAt wr g (jcells (J.mk k b n t l ns, .slice p1 l.length c1, .slice q1 ns.length e1)) ∧ Below w.heap.size w wr)
  case atStart => exact ⟨0, rfl, Nat.zero_le _, rfl, rfl, HV.out, HBE.out⟩
  obtain ⟨i, hki, hi, rfl, rfl, hV, hB⟩ := hrel
  have Hki := hid hki
  have HV2 := hid hV
  have HBE2 := hid hB
  clear hki hV hB HV HBE
  have v6 : _ = some (Value.slice p1 l.length c1) := HV2.out.cell 6 _ rfl
  have HDM := hid (depRL_mono l i)
  have HDL := hid (depRL_le l)
  obtain ⟨m, hm⟩ : ∃ m, depRL (l.take i) = m := ⟨_, rfl⟩
  rw [hm] at HDM ⊢
  have HM := hid hm
  have hmb : m ≤ 20000000 := by have := HDM.out; have := HDL.out; have := HSZ.out; omega
  clear hm
  by_cases hlt : i < l.length
  ·have hlti : (i : Int) < (l.length : Int) := by omega
   obtain ⟨x, hx⟩ : ∃ x, l[i]? = some x := ⟨_, List.getElem?_eq_getElem hlt⟩
   obtain ⟨gl, fl, rfl, _, hgl, hcs⟩ := HL.out (by omega)
   have hra : wr.rangeAt gl (fl + i * 8) (jcells (x, xs i)) := fun c v hc => by
    have hc8 : c < 8 := (List.getElem?_eq_some_iff.1 hc).1
    rw [HBE2.out.cell (p := ⟨gl, fl + i * 8 + c, none⟩) (Nat.lt_of_lt_of_le hgl HB.out.size), HB.out.cell (p := ⟨gl, fl + i * 8 + c, none⟩) hgl, hcs i x hx c hc8]; exact hc
   have HX := hid hx
   have HXT := hid (depRL_take hx)
   have HXI := hid (szL_in hx)
   clear hx hcs hgl
   go_wp2_with (refine wpList_loadMd rfl _ rfl (x, xs i) hra rfl ?_)
   refine (HIH.out i x HX.out wr (HB.out.trans (HBE2.out.mono HB.out.size)) (by have := HXI.out; have := HSZ.out; show szJ x ≤ _; omega)).mono ?_
   rintro e w4 ⟨rfl, hb4⟩
   have HV4 := hid (HV2.out.below hb4)
   have HBE4 := hid (HBE2.out.trans (hb4.mono HBE2.out.size))
   have HMX : Hid (depRL (l.take (i + 1)) = max m (depR x)) := hid (by rw [HXT.out, HM.out])
   clear hb4 hra v6
   go_wp2_with fail
   go_roundg (l.length - (i + 1))
   case measure => have := Hki.out; omega
   exact ⟨i + 1, rfl, by omega, by go_num, by rw [HMX.out]; go_num, HV4.out, HBE4.out⟩
  have hlti : ¬ (i : Int) < (l.length : Int) := by omega
  obtain rfl : i = l.length := by omega
  have HM2 : Hid (depRL l = m) := hid (by rw [← HM.out, List.take_of_length_le (Nat.le_refl _)])
  go_wp2_with fail
  go_ret
  exact ⟨by rw [HDR.out, if_neg (by omega), HM2.out]; rfl, HBE2.out⟩
def GooTo (w : World) (v : J) (e : Ending) (w' : World) : Prop := ∃ bb : Bool, e = .returned (.bool bb) ∧ (bb = true ↔ goodJ v = true) ∧ Below w.heap.size w w'
theorem GooTo.no {w W : World} {v : J} (h : ¬ goodJ v = true) (hb : Below w.heap.size w W) : GooTo w v (.returned (.bool false)) W := ⟨false, rfl, ⟨(fun h => by cases h), (fun e => absurd e h)⟩, hb⟩
theorem GooTo.yes {w W : World} {v : J} (h : goodJ v = true) (hb : Below w.heap.size w W) : GooTo w v (.returned (.bool true)) W := ⟨true, rfl, ⟨(fun _ => h), (fun _ => rfl)⟩, hb⟩
def NamG (ns : List (List UInt8)) (i : Nat) : Prop := ∀ j, j < i → (∀ m, m < j → ns.getD m [] ≠ ns.getD j []) ∧ Lib.validD (ns.getD j []) = true
theorem NamG.all {ns : List (List UInt8)} (h : NamG ns ns.length) : ns.Nodup ∧ ∀ s ∈ ns, Lib.validD s = true := by
 have hg : ∀ i, (hi : i < ns.length) → ns.getD i [] = ns[i] := fun i hi => by simp [hi]
 refine ⟨List.pairwise_iff_getElem.2 (fun i j hi hj hij => ?_), fun s hs => ?_⟩
 ·have := (h j hj).1 i hij
  rw [hg i hi, hg j hj] at this
  exact this
 obtain ⟨i, hi, rfl⟩ := List.getElem_of_mem hs
 have := (h i hi).2
 rw [hg i hi] at this
 exact this
theorem NamG.ofAll {ns : List (List UInt8)} (h : ns.Nodup ∧ ∀ s ∈ ns, Lib.validD s = true) : NamG ns ns.length := by
 have hg : ∀ i, (hi : i < ns.length) → ns.getD i [] = ns[i] := fun i hi => by simp [hi]
 intro j hj
 refine ⟨fun m hm => ?_, ?_⟩
 ·rw [hg m (by omega), hg j hj]
  exact (List.pairwise_iff_getElem.1 h.1) m j (by omega) hj hm
 rw [hg j hj]
 exact h.2 _ (List.getElem_mem hj)
def BadTo (v : Value) (P : Prop) : Prop := ∃ bad : Bool, v = .bool bad ∧ (bad = false ↔ P)
theorem BadTo.out {v : Value} {P : Prop} (h : BadTo v P) : ∃ bad : Bool, v = .bool bad ∧ (bad = false ↔ P) := h
theorem BadTo.bad {P : Prop} (h : ¬ P) : BadTo (.bool true) P := ⟨true, rfl, ⟨(fun e => by cases e), (fun e => absurd e h)⟩⟩
theorem BadTo.dec {P q : Prop} [Decidable q] (hq : q) (h : ¬ P) : BadTo (.bool (decide q)) P := by rw [decide_eq_true hq]; exact BadTo.bad h
theorem BadTo.fine {P : Prop} (h : P) : BadTo (.bool false) P := ⟨false, rfl, ⟨(fun _ => h), (fun _ => rfl)⟩⟩
theorem BadTo.nec {P q : Prop} [Decidable q] (hq : ¬ q) (h : P) : BadTo (.bool (decide q)) P := by rw [decide_eq_false hq]; exact BadTo.fine h
theorem goodR_calls {w0 : World} {S1 : Nat → Prop} {r1 : JR} (h1 : JV w0 S1 r1) : ∀ (w : World), Below w0.heap.size w0 w → szJ r1.1 ≤ 20000000 → Calls Tryz.prog 62 #[jval r1] w (GooTo w r1.1) := by
 induction h1 with
 | mk r1 xs hn1 hl1 hs1 ih =>
  intro w hb hsz
  obtain ⟨⟨k, b, ⟨ng, dg, ex⟩, t, l, ns⟩, lv0, nv0⟩ := r1
  obtain ⟨p1, c1, hp1, hc1, hm1, hL1⟩ := hl1
  change lv0 = Value.slice p1 l.length c1 at hp1
  obtain ⟨q1, e1, hq1, hcn1, hk1, hN1⟩ := hn1
  change nv0 = Value.slice q1 ns.length e1 at hq1
  subst hp1 hq1
  simp only [J.l] at hm1 hL1 hc1
  simp only [J.ns] at hN1
  simp only [szJ] at hsz
  have hln : l.length ≤ 20000000 := by have := szL_len l; omega
  have hnn : ns.length ≤ 20000000 := by have := szN_len ns; omega
  have HSZ : Hid (szL l ≤ 20000000 ∧ t.length ≤ 20000000 ∧ dg.length ≤ 20000000 ∧ szN ns ≤ 20000000) := hid ⟨by omega, by omega, by omega, by omega⟩
  have HOF : Hid (goodJ (J.mk k b ⟨ng, dg, ex⟩ t l ns) = true → HeadR k b ⟨ng, dg, ex⟩ t l.length ns.length ∧ mayB ⟨ng, dg, ex⟩ = true ∧ Lib.validD t = true ∧ (k = 5 → ns.length = l.length) ∧ goodL l = true ∧ (ns.Nodup ∧ ∀ s ∈ ns, Lib.validD s = true)) := hid of_good
  have HTO : Hid (HeadR k b ⟨ng, dg, ex⟩ t l.length ns.length → mayB ⟨ng, dg, ex⟩ = true → Lib.validD t = true → (k = 5 → ns.length = l.length) → goodL l = true → (ns.Nodup ∧ ∀ s ∈ ns, Lib.validD s = true) → goodJ (J.mk k b ⟨ng, dg, ex⟩ t l ns) = true) := hid good_of
  have HL := hid hL1
  have HN := hid hN1
  have HB := hid hb
  have HIH := hid ih
  clear hL1 hN1 hb ih hs1 hsz hcn1 hk1 hc1 hm1
  go_enter Tryz.func62, Tryz.ntmps62
  go_upto_region 1 with (refine wpList_boxJ rfl _ rfl (J.mk k b ⟨ng, dg, ex⟩ t l ns, .slice p1 l.length c1, .slice q1 ns.length e1) rfl ?_; intro w1 hBx)
  have HV := hid hBx.row
  have HBE := hid hBx.be
  obtain ⟨g, hg⟩ : ∃ g, w.heap.size = g := ⟨_, rfl⟩
  rw [hg] at HV ⊢
  clear hBx hg
  have v0 : _ = some (Value.int .i64 k) := HV.out.cell 0 _ rfl
  have v1 : _ = some (Value.bool b) := HV.out.cell 1 _ rfl
  have v2 : _ = some (Value.bool ng) := HV.out.cell 2 _ rfl
  have v3 : _ = some (Value.string ⟨dg.toArray⟩) := HV.out.cell 3 _ rfl
  have v4 : _ = some (Value.int .i64 ex) := HV.out.cell 4 _ rfl
  have v5 : _ = some (Value.string ⟨t.toArray⟩) := HV.out.cell 5 _ rfl
  have v6 : _ = some (Value.slice p1 l.length c1) := HV.out.cell 6 _ rfl
  have v7 : _ = some (Value.slice q1 ns.length e1) := HV.out.cell 7 _ rfl
  have hnd := fun W => run_neq_dec ⟨ng, dg, ex⟩ Dec.zero W
  simp only [Dec.zero] at hnd
  obtain ⟨sz, hsz⟩ : ∃ s, sameB ⟨ng, dg, ex⟩ ⟨false, [], 0⟩ = s := ⟨_, rfl⟩
  have HSB : Hid (sz = true ↔ (⟨ng, dg, ex⟩ : Dec) = Dec.zero) := hid (by rw [← hsz]; exact sameB_iff _ Dec.zero)
  rw [hsz] at hnd
  clear hsz
  go_cut [65] from 6 to 65 (fun s65 wc => BadTo s65 (HeadR k b ⟨ng, dg, ex⟩ t l.length ns.length) ∧ w1 = wc)
  case first =>
   by_cases hk0 : k < 0
   ·
    have hd : decide (k < 0) = true := decide_eq_true hk0
    go_wp2_with fail
    go_meet
    first | exact ⟨BadTo.bad (fun h => by have := h.k0; omega), rfl⟩ | exact ⟨BadTo.dec (by omega) (fun h => by have := h.k0; omega), rfl⟩
   have hd0 : decide (k < 0) = false := decide_eq_false hk0
   by_cases hk5 : 5 < k
   ·
    have hd : decide (5 < k) = true := decide_eq_true hk5
    go_wp2_with fail
    go_meet
    first | exact ⟨BadTo.bad (fun h => by have := h.k5; omega), rfl⟩ | exact ⟨BadTo.dec (by omega) (fun h => by have := h.k5; omega), rfl⟩
   have hd5 : decide (5 < k) = false := decide_eq_false hk5
   have hkk : k = 0 ∨ k = 1 ∨ k = 2 ∨ k = 3 ∨ k = 4 ∨ k = 5 := by omega
   clear hd0 hd5 hk0 hk5
   rcases hkk with rfl | rfl | rfl | rfl | rfl | rfl
   ·
    cases b with
    | true =>
     go_wp2_with fail
     go_meet
     first | exact ⟨BadTo.bad (fun h => by rcases h.b1 with e | e; (exact absurd e (by decide)); cases e), rfl⟩ | exact ⟨BadTo.dec (by omega) (fun h => by rcases h.b1 with e | e; (exact absurd e (by decide)); cases e), rfl⟩
    | false =>
     cases sz with
     | false =>
      simp only [Bool.not_false] at hnd
      go_wp2_with fail
      go_meet
      first | exact ⟨BadTo.bad (fun h => by rcases h.n2 with e | e; (exact absurd e (by decide)); exact absurd (HSB.out.2 e) (by decide)), rfl⟩ | exact ⟨BadTo.dec (by omega) (fun h => by rcases h.n2 with e | e; (exact absurd e (by decide)); exact absurd (HSB.out.2 e) (by decide)), rfl⟩
     | true =>
      simp only [Bool.not_true] at hnd
      by_cases ht : t = []
      rotate_left
      ·
       have htb : (t == []) = false := by rw [beq_eq_false_iff_ne]; exact ht
       have htc : ¬ (⟨t.toArray⟩ : ByteArray) = ⟨#[]⟩ := fun e => ht (by simpa using e)
       go_wp2_with fail
       go_meet
       first | exact ⟨BadTo.bad (fun h => by rcases h.t3 with e | e; (exact absurd e (by decide)); exact ht e), rfl⟩ | exact ⟨BadTo.dec (by omega) (fun h => by rcases h.t3 with e | e; (exact absurd e (by decide)); exact ht e), rfl⟩
      subst ht
      by_cases hl0 : l.length = 0
      rotate_left
      ·
       have hlb : (0 : Int) < (l.length : Int) := by omega
       have hld : decide ((0 : Int) < (l.length : Int)) = true := decide_eq_true hlb
       go_wp2_with fail
       go_meet
       first | exact ⟨BadTo.bad (fun h => by rcases h.l4 with e | e; (exact absurd e (by decide)); exact hl0 e), rfl⟩ | exact ⟨BadTo.dec (by omega) (fun h => by rcases h.l4 with e | e; (exact absurd e (by decide)); exact hl0 e), rfl⟩
      obtain rfl : l = [] := List.length_eq_zero_iff.1 hl0
      clear hl0
      by_cases hn0 : ns.length = 0
      rotate_left
      ·
       have hnb : (0 : Int) < (ns.length : Int) := by omega
       have hnd2 : decide ((0 : Int) < (ns.length : Int)) = true := decide_eq_true hnb
       go_wp2_with fail
       go_meet
       first | exact ⟨BadTo.bad (fun h => by rcases h.m5 with e | e; (exact absurd e (by decide)); exact hn0 e), rfl⟩ | exact ⟨BadTo.dec (by omega) (fun h => by rcases h.m5 with e | e; (exact absurd e (by decide)); exact hn0 e), rfl⟩
      obtain rfl : ns = [] := List.length_eq_zero_iff.1 hn0
      clear hn0
      go_wp2_with fail
      go_meet
      first | exact ⟨BadTo.fine ⟨by decide, by decide, .inr rfl, .inr (HSB.out.1 (by trivial)), .inr rfl, .inr rfl, .inr rfl⟩, rfl⟩ | exact ⟨BadTo.nec (by simp) ⟨by decide, by decide, .inr rfl, .inr (HSB.out.1 (by trivial)), .inr rfl, .inr rfl, .inr rfl⟩, rfl⟩
   ·
    cases sz with
    | false =>
     simp only [Bool.not_false] at hnd
     go_wp2_with fail
     go_meet
     first | exact ⟨BadTo.bad (fun h => by rcases h.n2 with e | e; (exact absurd e (by decide)); exact absurd (HSB.out.2 e) (by decide)), rfl⟩ | exact ⟨BadTo.dec (by omega) (fun h => by rcases h.n2 with e | e; (exact absurd e (by decide)); exact absurd (HSB.out.2 e) (by decide)), rfl⟩
    | true =>
     simp only [Bool.not_true] at hnd
     by_cases ht : t = []
     rotate_left
     ·
      have htb : (t == []) = false := by rw [beq_eq_false_iff_ne]; exact ht
      have htc : ¬ (⟨t.toArray⟩ : ByteArray) = ⟨#[]⟩ := fun e => ht (by simpa using e)
      go_wp2_with fail
      go_meet
      first | exact ⟨BadTo.bad (fun h => by rcases h.t3 with e | e; (exact absurd e (by decide)); exact ht e), rfl⟩ | exact ⟨BadTo.dec (by omega) (fun h => by rcases h.t3 with e | e; (exact absurd e (by decide)); exact ht e), rfl⟩
     subst ht
     by_cases hl0 : l.length = 0
     rotate_left
     ·
      have hlb : (0 : Int) < (l.length : Int) := by omega
      have hld : decide ((0 : Int) < (l.length : Int)) = true := decide_eq_true hlb
      go_wp2_with fail
      go_meet
      first | exact ⟨BadTo.bad (fun h => by rcases h.l4 with e | e; (exact absurd e (by decide)); exact hl0 e), rfl⟩ | exact ⟨BadTo.dec (by omega) (fun h => by rcases h.l4 with e | e; (exact absurd e (by decide)); exact hl0 e), rfl⟩
     obtain rfl : l = [] := List.length_eq_zero_iff.1 hl0
     clear hl0
     by_cases hn0 : ns.length = 0
     rotate_left
     ·
      have hnb : (0 : Int) < (ns.length : Int) := by omega
      have hnd2 : decide ((0 : Int) < (ns.length : Int)) = true := decide_eq_true hnb
      go_wp2_with fail
      go_meet
      first | exact ⟨BadTo.bad (fun h => by rcases h.m5 with e | e; (exact absurd e (by decide)); exact hn0 e), rfl⟩ | exact ⟨BadTo.dec (by omega) (fun h => by rcases h.m5 with e | e; (exact absurd e (by decide)); exact hn0 e), rfl⟩
     obtain rfl : ns = [] := List.length_eq_zero_iff.1 hn0
     clear hn0
     go_wp2_with fail
     go_meet
     first | exact ⟨BadTo.fine ⟨by decide, by decide, .inl rfl, .inr (HSB.out.1 (by trivial)), .inr rfl, .inr rfl, .inr rfl⟩, rfl⟩ | exact ⟨BadTo.nec (by simp) ⟨by decide, by decide, .inl rfl, .inr (HSB.out.1 (by trivial)), .inr rfl, .inr rfl, .inr rfl⟩, rfl⟩
   ·
    cases b with
    | true =>
     go_wp2_with fail
     go_meet
     first | exact ⟨BadTo.bad (fun h => by rcases h.b1 with e | e; (exact absurd e (by decide)); cases e), rfl⟩ | exact ⟨BadTo.dec (by omega) (fun h => by rcases h.b1 with e | e; (exact absurd e (by decide)); cases e), rfl⟩
    | false =>
     by_cases ht : t = []
     rotate_left
     ·
      have htb : (t == []) = false := by rw [beq_eq_false_iff_ne]; exact ht
      have htc : ¬ (⟨t.toArray⟩ : ByteArray) = ⟨#[]⟩ := fun e => ht (by simpa using e)
      go_wp2_with fail
      go_meet
      first | exact ⟨BadTo.bad (fun h => by rcases h.t3 with e | e; (exact absurd e (by decide)); exact ht e), rfl⟩ | exact ⟨BadTo.dec (by omega) (fun h => by rcases h.t3 with e | e; (exact absurd e (by decide)); exact ht e), rfl⟩
     subst ht
     by_cases hl0 : l.length = 0
     rotate_left
     ·
      have hlb : (0 : Int) < (l.length : Int) := by omega
      have hld : decide ((0 : Int) < (l.length : Int)) = true := decide_eq_true hlb
      go_wp2_with fail
      go_meet
      first | exact ⟨BadTo.bad (fun h => by rcases h.l4 with e | e; (exact absurd e (by decide)); exact hl0 e), rfl⟩ | exact ⟨BadTo.dec (by omega) (fun h => by rcases h.l4 with e | e; (exact absurd e (by decide)); exact hl0 e), rfl⟩
     obtain rfl : l = [] := List.length_eq_zero_iff.1 hl0
     clear hl0
     by_cases hn0 : ns.length = 0
     rotate_left
     ·
      have hnb : (0 : Int) < (ns.length : Int) := by omega
      have hnd2 : decide ((0 : Int) < (ns.length : Int)) = true := decide_eq_true hnb
      go_wp2_with fail
      go_meet
      first | exact ⟨BadTo.bad (fun h => by rcases h.m5 with e | e; (exact absurd e (by decide)); exact hn0 e), rfl⟩ | exact ⟨BadTo.dec (by omega) (fun h => by rcases h.m5 with e | e; (exact absurd e (by decide)); exact hn0 e), rfl⟩
     obtain rfl : ns = [] := List.length_eq_zero_iff.1 hn0
     clear hn0
     go_wp2_with fail
     go_meet
     first | exact ⟨BadTo.fine ⟨by decide, by decide, .inr rfl, .inl rfl, .inr rfl, .inr rfl, .inr rfl⟩, rfl⟩ | exact ⟨BadTo.nec (by simp) ⟨by decide, by decide, .inr rfl, .inl rfl, .inr rfl, .inr rfl, .inr rfl⟩, rfl⟩
   ·
    cases b with
    | true =>
     go_wp2_with fail
     go_meet
     first | exact ⟨BadTo.bad (fun h => by rcases h.b1 with e | e; (exact absurd e (by decide)); cases e), rfl⟩ | exact ⟨BadTo.dec (by omega) (fun h => by rcases h.b1 with e | e; (exact absurd e (by decide)); cases e), rfl⟩
    | false =>
     cases sz with
     | false =>
      simp only [Bool.not_false] at hnd
      go_wp2_with fail
      go_meet
      first | exact ⟨BadTo.bad (fun h => by rcases h.n2 with e | e; (exact absurd e (by decide)); exact absurd (HSB.out.2 e) (by decide)), rfl⟩ | exact ⟨BadTo.dec (by omega) (fun h => by rcases h.n2 with e | e; (exact absurd e (by decide)); exact absurd (HSB.out.2 e) (by decide)), rfl⟩
     | true =>
      simp only [Bool.not_true] at hnd
      by_cases hl0 : l.length = 0
      rotate_left
      ·
       have hlb : (0 : Int) < (l.length : Int) := by omega
       have hld : decide ((0 : Int) < (l.length : Int)) = true := decide_eq_true hlb
       go_wp2_with fail
       go_meet
       first | exact ⟨BadTo.bad (fun h => by rcases h.l4 with e | e; (exact absurd e (by decide)); exact hl0 e), rfl⟩ | exact ⟨BadTo.dec (by omega) (fun h => by rcases h.l4 with e | e; (exact absurd e (by decide)); exact hl0 e), rfl⟩
      obtain rfl : l = [] := List.length_eq_zero_iff.1 hl0
      clear hl0
      by_cases hn0 : ns.length = 0
      rotate_left
      ·
       have hnb : (0 : Int) < (ns.length : Int) := by omega
       have hnd2 : decide ((0 : Int) < (ns.length : Int)) = true := decide_eq_true hnb
       go_wp2_with fail
       go_meet
       first | exact ⟨BadTo.bad (fun h => by rcases h.m5 with e | e; (exact absurd e (by decide)); exact hn0 e), rfl⟩ | exact ⟨BadTo.dec (by omega) (fun h => by rcases h.m5 with e | e; (exact absurd e (by decide)); exact hn0 e), rfl⟩
      obtain rfl : ns = [] := List.length_eq_zero_iff.1 hn0
      clear hn0
      go_wp2_with fail
      go_meet
      first | exact ⟨BadTo.fine ⟨by decide, by decide, .inr rfl, .inr (HSB.out.1 (by trivial)), .inl rfl, .inr rfl, .inr rfl⟩, rfl⟩ | exact ⟨BadTo.nec (by simp) ⟨by decide, by decide, .inr rfl, .inr (HSB.out.1 (by trivial)), .inl rfl, .inr rfl, .inr rfl⟩, rfl⟩
   ·
    cases b with
    | true =>
     go_wp2_with fail
     go_meet
     first | exact ⟨BadTo.bad (fun h => by rcases h.b1 with e | e; (exact absurd e (by decide)); cases e), rfl⟩ | exact ⟨BadTo.dec (by omega) (fun h => by rcases h.b1 with e | e; (exact absurd e (by decide)); cases e), rfl⟩
    | false =>
     cases sz with
     | false =>
      simp only [Bool.not_false] at hnd
      go_wp2_with fail
      go_meet
      first | exact ⟨BadTo.bad (fun h => by rcases h.n2 with e | e; (exact absurd e (by decide)); exact absurd (HSB.out.2 e) (by decide)), rfl⟩ | exact ⟨BadTo.dec (by omega) (fun h => by rcases h.n2 with e | e; (exact absurd e (by decide)); exact absurd (HSB.out.2 e) (by decide)), rfl⟩
     | true =>
      simp only [Bool.not_true] at hnd
      by_cases ht : t = []
      rotate_left
      ·
       have htb : (t == []) = false := by rw [beq_eq_false_iff_ne]; exact ht
       have htc : ¬ (⟨t.toArray⟩ : ByteArray) = ⟨#[]⟩ := fun e => ht (by simpa using e)
       go_wp2_with fail
       go_meet
       first | exact ⟨BadTo.bad (fun h => by rcases h.t3 with e | e; (exact absurd e (by decide)); exact ht e), rfl⟩ | exact ⟨BadTo.dec (by omega) (fun h => by rcases h.t3 with e | e; (exact absurd e (by decide)); exact ht e), rfl⟩
      subst ht
      by_cases hn0 : ns.length = 0
      rotate_left
      ·
       have hnb : (0 : Int) < (ns.length : Int) := by omega
       have hnd2 : decide ((0 : Int) < (ns.length : Int)) = true := decide_eq_true hnb
       go_wp2_with fail
       go_meet
       first | exact ⟨BadTo.bad (fun h => by rcases h.m5 with e | e; (exact absurd e (by decide)); exact hn0 e), rfl⟩ | exact ⟨BadTo.dec (by omega) (fun h => by rcases h.m5 with e | e; (exact absurd e (by decide)); exact hn0 e), rfl⟩
      obtain rfl : ns = [] := List.length_eq_zero_iff.1 hn0
      clear hn0
      go_wp2_with fail
      go_meet
      first | exact ⟨BadTo.fine ⟨by decide, by decide, .inr rfl, .inr (HSB.out.1 (by trivial)), .inr rfl, .inl (by decide), .inr rfl⟩, rfl⟩ | exact ⟨BadTo.nec (by simp) ⟨by decide, by decide, .inr rfl, .inr (HSB.out.1 (by trivial)), .inr rfl, .inl (by decide), .inr rfl⟩, rfl⟩
   cases b with
   | true =>
    go_wp2_with fail
    go_meet
    first | exact ⟨BadTo.bad (fun h => by rcases h.b1 with e | e; (exact absurd e (by decide)); cases e), rfl⟩ | exact ⟨BadTo.dec (by omega) (fun h => by rcases h.b1 with e | e; (exact absurd e (by decide)); cases e), rfl⟩
   | false =>
    cases sz with
    | false =>
     simp only [Bool.not_false] at hnd
     go_wp2_with fail
     go_meet
     first | exact ⟨BadTo.bad (fun h => by rcases h.n2 with e | e; (exact absurd e (by decide)); exact absurd (HSB.out.2 e) (by decide)), rfl⟩ | exact ⟨BadTo.dec (by omega) (fun h => by rcases h.n2 with e | e; (exact absurd e (by decide)); exact absurd (HSB.out.2 e) (by decide)), rfl⟩
    | true =>
     simp only [Bool.not_true] at hnd
     by_cases ht : t = []
     rotate_left
     ·
      have htb : (t == []) = false := by rw [beq_eq_false_iff_ne]; exact ht
      have htc : ¬ (⟨t.toArray⟩ : ByteArray) = ⟨#[]⟩ := fun e => ht (by simpa using e)
      go_wp2_with fail
      go_meet
      first | exact ⟨BadTo.bad (fun h => by rcases h.t3 with e | e; (exact absurd e (by decide)); exact ht e), rfl⟩ | exact ⟨BadTo.dec (by omega) (fun h => by rcases h.t3 with e | e; (exact absurd e (by decide)); exact ht e), rfl⟩
     subst ht
     go_wp2_with fail
     go_meet
     first | exact ⟨BadTo.fine ⟨by decide, by decide, .inr rfl, .inr (HSB.out.1 (by trivial)), .inr rfl, .inl (by decide), .inl (by decide)⟩, rfl⟩ | exact ⟨BadTo.nec (by simp) ⟨by decide, by decide, .inr rfl, .inr (HSB.out.1 (by trivial)), .inr rfl, .inl (by decide), .inl (by decide)⟩, rfl⟩
  obtain ⟨hbad, rfl⟩ := hcut
  obtain ⟨bad, rfl, hbd⟩ := hbad.out
  have HBD := hid hbd
  clear hbd hbad hnd HSB
  cases bad with
  | true =>
   go_wp2_with fail
   go_ret
   exact GooTo.no (fun h => by have := HBD.out.2 (HOF.out h).1; cases this) HBE.out
  | false =>
   have HHD := hid (HBD.out.1 (by trivial))
   clear HBD
   go_upto_region 3 with fail
   go_cut [89] from 66 to 89 (fun s89 wc => BadTo s89 (mayB ⟨ng, dg, ex⟩ = true ∧ Lib.validD t = true ∧ (k = 5 → ns.length = l.length)) ∧ RowAt wc g (jcells (J.mk k b ⟨ng, dg, ex⟩ t l ns, .slice p1 l.length c1, .slice q1 ns.length e1)) ∧ Below w.heap.size w wc)
   case first =>
    go_wp2_with fail
    refine (mayR_calls w1 ⟨ng, dg, ex⟩ (by have := HSZ.out; show dg.length ≤ _; omega)).mono ?_
    rintro e w2 ⟨rfl, hb2⟩
    have HV2 := hid (HV.out.below hb2)
    have HBE2 := hid (HBE.out.trans (hb2.mono HBE.out.size))
    clear hb2 v0 v1 v2 v3 v4 v5 v6 v7
    have v0 : _ = some (Value.int .i64 k) := HV2.out.cell 0 _ rfl
    have v5 : _ = some (Value.string ⟨t.toArray⟩) := HV2.out.cell 5 _ rfl
    have v6 : _ = some (Value.slice p1 l.length c1) := HV2.out.cell 6 _ rfl
    have v7 : _ = some (Value.slice q1 ns.length e1) := HV2.out.cell 7 _ rfl
    cases hmb : mayB ⟨ng, dg, ex⟩ with
    | false =>
     go_wp2_with fail
     go_meet
     exact ⟨BadTo.bad (fun h => by first | (rw [hmb] at h; cases h.1) | (cases h.1)), HV2.out, HBE2.out⟩
    | true =>
     have HMB := hid hmb
     clear hmb
     go_wp2_with fail
     refine (utf_calls w2 t (by have := HSZ.out; omega)).mono ?_
     rintro e wq ⟨rfl, rfl⟩
     cases hvt : Lib.validD t with
     | false =>
      go_wp2_with fail
      go_meet
      exact ⟨BadTo.bad (fun h => by first | (rw [hvt] at h; cases h.2.1) | (cases h.2.1)), HV2.out, HBE2.out⟩
     | true =>
      have HVT := hid hvt
      clear hvt
      by_cases hk5 : k = 5
      rotate_left
      ·
       have e8 : ((k : Int) == 5) = false := by rw [beq_eq_false_iff_ne]; exact hk5
       go_wp2_with fail
       go_meet
       exact ⟨BadTo.fine ⟨by trivial, by trivial, fun e => absurd e hk5⟩, HV2.out, HBE2.out⟩
      subst hk5
      by_cases hne : ns.length = l.length
      rotate_left
      ·
       have hnei : ¬ (ns.length : Int) = (l.length : Int) := by omega
       have hneb : ((ns.length : Int) != (l.length : Int)) = true := by rw [bne_iff_ne]; exact hnei
       have hnec : ((ns.length : Int) == (l.length : Int)) = false := by rw [beq_eq_false_iff_ne]; exact hnei
       go_wp2_with fail
       go_meet
       exact ⟨BadTo.bad (fun h => hne (h.2.2 (by trivial))), HV2.out, HBE2.out⟩
      have hneb : ((ns.length : Int) != (l.length : Int)) = false := by rw [bne_eq_false_iff_eq, hne]
      have hnec : ((ns.length : Int) == (l.length : Int)) = true := by rw [beq_iff_eq, hne]
      have HNE := hid hne
      clear hne
      go_wp2_with fail
      go_meet
      exact ⟨BadTo.fine ⟨by trivial, by trivial, fun _ => HNE.out⟩, HV2.out, HBE2.out⟩
   obtain ⟨hbad2, hV2, hB2⟩ := hcut
   obtain ⟨bad2, rfl, hbd2⟩ := hbad2.out
   have HBD2 := hid hbd2
   have HV2 := hid hV2
   have HBE2 := hid hB2
   clear hbd2 hbad2 hV2 hB2 HV HBE v0 v1 v2 v3 v4 v5 v6 v7
   cases bad2 with
   | true =>
    go_wp2_with fail
    go_ret
    exact GooTo.no (fun h => by have := HBD2.out.2 ⟨(HOF.out h).2.1, (HOF.out h).2.2.1, (HOF.out h).2.2.2.1⟩; cases this) HBE2.out
   | false =>
    have HPP := hid (HBD2.out.1 (by trivial))
    have HMB : Hid (mayB ⟨ng, dg, ex⟩ = true) := hid HPP.out.1
    have HVT : Hid (Lib.validD t = true) := hid HPP.out.2.1
    have HK5 : Hid (k = 5 → ns.length = l.length) := hid HPP.out.2.2
    clear HPP HBD2
    have v6 : _ = some (Value.slice p1 l.length c1) := HV2.out.cell 6 _ rfl
    have v7 : _ = some (Value.slice q1 ns.length e1) := HV2.out.cell 7 _ rfl
    go_wp2_with fail
    go_loopg [3] l.length (fun kk s3 wr => ∃ i : Nat, kk = l.length - i ∧ i ≤ l.length ∧ s3 = .int .i64 (i : Int) ∧ goodL (l.take i) = true ∧ RowAt wr g (jcells (J.mk k b ⟨ng, dg, ex⟩ t l ns, .slice p1 l.length c1, .slice q1 ns.length e1)) ∧ Below w.heap.size w wr)
    case atStart => exact ⟨0, rfl, Nat.zero_le _, rfl, rfl, HV2.out, HBE2.out⟩
    obtain ⟨i, hki, hi, rfl, hgl, hV, hB⟩ := hrel
    have Hki := hid hki
    have HGL := hid hgl
    have HV3 := hid hV
    have HBE3 := hid hB
    clear hki hgl hV hB HV2 HBE2 v6 v7
    have v6 : _ = some (Value.slice p1 l.length c1) := HV3.out.cell 6 _ rfl
    by_cases hlt : i < l.length
    ·
     have hlti : (i : Int) < (l.length : Int) := by omega
     obtain ⟨x, hx⟩ : ∃ x, l[i]? = some x := ⟨_, List.getElem?_eq_getElem hlt⟩
     obtain ⟨gl, fl, rfl, _, hgl, hcs⟩ := HL.out (by omega)
     have hra : wr.rangeAt gl (fl + i * 8) (jcells (x, xs i)) := fun c v hc => by
      have hc8 : c < 8 := (List.getElem?_eq_some_iff.1 hc).1
      rw [HBE3.out.cell (p := ⟨gl, fl + i * 8 + c, none⟩) (Nat.lt_of_lt_of_le hgl HB.out.size), HB.out.cell (p := ⟨gl, fl + i * 8 + c, none⟩) hgl, hcs i x hx c hc8]; exact hc
     have HX := hid hx
     have HXT := hid (goodL_take hx)
     have HXI := hid (szL_in hx)
     have HXM := hid (List.mem_of_getElem? hx)
     clear hx hcs hgl
     go_wp2_with (refine wpList_loadMd rfl _ rfl (x, xs i) hra rfl ?_)
     refine (HIH.out i x HX.out wr (HB.out.trans (HBE3.out.mono HB.out.size)) (by have := HXI.out; have := HSZ.out; show szJ x ≤ _; omega)).mono ?_
     rintro e w4 ⟨bb, rfl, hbb, hb4⟩
     have HBB : Hid (bb = true ↔ goodJ x = true) := hid hbb
     have HV4 := hid (HV3.out.below hb4)
     have HBE4 := hid (HBE3.out.trans (hb4.mono HBE3.out.size))
     clear hbb hb4 hra v6
     cases bb with
     | false =>
      go_wp2_with fail
      go_ret
      exact GooTo.no (fun h => by have := HBB.out.2 ((goodL_iff l).1 (HOF.out h).2.2.2.2.1 x HXM.out); cases this) HBE4.out
     | true =>
      go_wp2_with fail
      go_roundg (l.length - (i + 1))
      case measure => have := Hki.out; omega
      exact ⟨i + 1, rfl, by omega, by go_num, by rw [HXT.out, HGL.out, HBB.out.1 (by trivial)]; rfl, HV4.out, HBE4.out⟩
    have hlti : ¬ (i : Int) < (l.length : Int) := by omega
    have HGA : Hid (goodL l = true) := hid (by rw [← HGL.out, List.take_of_length_le (by omega)])
    have v7 : _ = some (Value.slice q1 ns.length e1) := HV3.out.cell 7 _ rfl
    go_wp2_with fail
    clear v6 v7 hlt hlti Hki HGL
    go_loopg [4, 5] ns.length (fun kk s4 s5 wr => ∃ i : Nat, kk = ns.length - i ∧ i ≤ ns.length ∧ s4 = .int .i64 (i : Int) ∧ NamG ns i ∧ RowAt wr g (jcells (J.mk k b ⟨ng, dg, ex⟩ t l ns, .slice p1 l.length c1, .slice q1 ns.length e1)) ∧ Below w.heap.size w wr)
    case atStart => exact ⟨0, rfl, Nat.zero_le _, rfl, fun j hj => by omega, HV3.out, HBE3.out⟩
    obtain ⟨i2, hki, hi2, rfl, hng, hV, hB⟩ := hrel
    have Hki := hid hki
    have HNG := hid hng
    have HV4 := hid hV
    have HBE4 := hid hB
    clear hki hng hV hB HV3 HBE3
    have v7 : _ = some (Value.slice q1 ns.length e1) := HV4.out.cell 7 _ rfl
    by_cases hlt : i2 < ns.length
    ·
     have hlti : (i2 : Int) < (ns.length : Int) := by omega
     obtain ⟨gn, fn, rfl, _, hgn, hns⟩ := HN.out (by omega)
     have HNS : Hid (∀ (j : Nat) s, ns[j]? = some s → ∀ W, Below w.heap.size w W → W.cell? ⟨gn, fn + j, none⟩ = some (.string ⟨s.toArray⟩)) := hid (fun j s hs W hW => (hW.cell (p := ⟨gn, fn + j, none⟩) (Nat.lt_of_lt_of_le hgn HB.out.size)).trans ((HB.out.cell (p := ⟨gn, fn + j, none⟩) hgn).trans (hns j s hs)))
     obtain ⟨s, hs⟩ : ∃ s, ns[i2]? = some s := ⟨_, List.getElem?_eq_getElem hlt⟩
     have HS := hid hs
     have HSD : Hid (ns.getD i2 [] = s) := hid (by rw [List.getD_eq_getElem?_getD, hs]; rfl)
     have HSL : Hid (s.length ≤ 20000000) := hid (by have := szN_in (List.mem_of_getElem? hs); have := HSZ.out; omega)
     clear hs hns hgn
     go_wp2_with fail
     clear v7
     go_loopg [5] i2 (fun kk s5 wr => ∃ m : Nat, kk = i2 - m ∧ m ≤ i2 ∧ s5 = .int .i64 (m : Int) ∧ (∀ j, j < m → ns.getD j [] ≠ s) ∧ RowAt wr g (jcells (J.mk k b ⟨ng, dg, ex⟩ t l ns, .slice p1 l.length c1, .slice (some ⟨gn, fn, none⟩) ns.length e1)) ∧ Below w.heap.size w wr)
     case atStart => exact ⟨0, rfl, Nat.zero_le _, rfl, fun j hj => by omega, HV4.out, HBE4.out⟩
     obtain ⟨m, hkm, hm, rfl, hne, hV, hB⟩ := hrel
     have Hkm := hid hkm
     have HNE := hid hne
     have HV5 := hid hV
     have HBE5 := hid hB
     clear hkm hne hV hB HV4 HBE4
     have v7 : _ = some (Value.slice (some ⟨gn, fn, none⟩) ns.length e1) := HV5.out.cell 7 _ rfl
     have n0 := HNS.out i2 s HS.out wr HBE5.out
     by_cases hlm : m < i2
     ·
      have hlmi : (m : Int) < (i2 : Int) := by omega
      have hmn : (m : Int) < (ns.length : Int) := by omega
      obtain ⟨u, hu⟩ : ∃ u, ns[m]? = some u := ⟨_, List.getElem?_eq_getElem (by omega)⟩
      have n1 := HNS.out m u hu wr HBE5.out
      have HUD : Hid (ns.getD m [] = u) := hid (by rw [List.getD_eq_getElem?_getD, hu]; rfl)
      clear hu
      by_cases hus : u = s
      ·
       subst hus
       go_wp2_with fail
       go_quiet (fail)
       go_wp2_with fail
       go_ret
       exact GooTo.no (fun h => (NamG.ofAll (HOF.out h).2.2.2.2.2 i2 hlt).1 m hlm (by rw [HUD.out, HSD.out])) (HBE5.out.trans ((drewN_b _ _).mono HBE5.out.size))
      have hbb : ¬ (⟨u.toArray⟩ : ByteArray) = ⟨s.toArray⟩ := fun e => hus (by simpa using e)
      have hbl : (u == s) = false := by rw [beq_eq_false_iff_ne]; exact hus
      go_wp2_with fail
      go_quiet (fail)
      go_wp2_with fail
      go_roundg (i2 - (m + 1))
      case measure => have := Hkm.out; omega
      refine ⟨m + 1, rfl, by omega, by go_num, fun j hj => ?_, HV5.out.below (drewN_b _ _), HBE5.out.trans ((drewN_b _ _).mono HBE5.out.size)⟩
      rcases Nat.lt_or_ge j m with h9 | h9
      ·exact HNE.out j h9
      obtain rfl : j = m := by omega
      rw [HUD.out]; exact hus
     have hlmi : ¬ (m : Int) < (i2 : Int) := by omega
     obtain rfl : m = i2 := by omega
     go_wp2_with fail
     refine (utf_calls wr s (by have := HSL.out; omega)).mono ?_
     rintro e wq ⟨rfl, rfl⟩
     cases hvs : Lib.validD s with
     | false =>
      go_wp2_with fail
      go_ret
      exact GooTo.no (fun h => by have := (NamG.ofAll (HOF.out h).2.2.2.2.2 m hlt).2; rw [HSD.out, hvs] at this; cases this) HBE5.out
     | true =>
      have HVS := hid hvs
      clear hvs
      go_wp2_with fail
      go_roundg (ns.length - (m + 1))
      case measure => have := Hki.out; omega
      refine ⟨m + 1, rfl, by omega, by go_num, fun j hj => ?_, HV5.out, HBE5.out⟩
      rcases Nat.lt_or_ge j m with h9 | h9
      ·exact HNG.out j h9
      obtain rfl : j = m := by omega
      rw [HSD.out]; exact ⟨HNE.out, HVS.out⟩
    have hlti : ¬ (i2 : Int) < (ns.length : Int) := by omega
    obtain rfl : i2 = ns.length := by omega
    go_wp2_with fail
    go_ret
    exact GooTo.yes (HTO.out HHD.out HMB.out HVT.out HK5.out HGA.out (NamG.all HNG.out)) HBE4.out
end Go.Proofs.YtfclfaidmipjpaaGreatDoor
