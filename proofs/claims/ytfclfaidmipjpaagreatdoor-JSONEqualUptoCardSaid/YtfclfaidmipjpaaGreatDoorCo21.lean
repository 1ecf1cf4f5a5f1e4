/- Texts of this claim, joined: Ptl, Ptr. -/
import Derived.Test.YtfclfaidmipjpaaGreatDoorCo15
import Derived.Test.YtfclfaidmipjpaaGreatDoorCo20
namespace Go.Proofs.YtfclfaidmipjpaaGreatDoor
set_option maxRecDepth 100000
open Go.RowKit
def walkJ (v : J) : List (List UInt8) → Option J
 | [] => some v
 | u :: us => match stepJ v u with
  | none => none
  | some x => walkJ x us
def ptrK (v : J) (o : Option (List (List UInt8))) : J × Int := match o with
 | none => (J.zero, 2)
 | some us => match walkJ v us with
  | none => (J.zero, 7)
  | some x => (cpJ false x, 0)
def ptrJ (v : J) (s : List UInt8) : J × Int := if checkJ v ≠ 0 then (J.zero, 2) else ptrK v (pathS s)
theorem tilAll_some : ∀ ps : List (List UInt8), (∀ p ∈ ps, tilN p ≠ none) → tilAll ps = some (ps.map (replS [126] [47]))
 | [], _ => rfl
 | p :: ps, h => by
  unfold tilAll
  cases hp : tilN p with
  | none => exact absurd hp (h p (by simp))
  | some u => simp only; rw [tilAll_some ps (fun q hq => h q (by simp [hq])), (tilN_none p).2 u hp]; rfl
theorem tilAll_none : ∀ (ps : List (List UInt8)) (p : List UInt8), p ∈ ps → tilN p = none → tilAll ps = none
 | q :: ps, p, h, hp => by
  unfold tilAll
  cases hq : tilN q with
  | none => rfl
  | some u =>
   rcases List.mem_cons.1 h with rfl | h1
   ·rw [hq] at hp; cases hp
   simp only; rw [tilAll_none ps p h1 hp]; rfl
theorem pathS_split (s : List UInt8) (h : s = [] ∨ s.head? = some 47) : pathS s = tilAll ((splitC 47 s).drop 1) := by
 rcases h with rfl | h
 ·rfl
 cases s with
 | nil => rfl
 | cons c t =>
  simp at h
  subst h
  simp [pathS, splitC]
theorem pathS_none (c : UInt8) (t : List UInt8) (h : c ≠ 47) : pathS (c :: t) = none := by simp [pathS, h]
theorem has_til (s : List UInt8) : (decide (0 ≤ Lib.indexByte s 126)) = s.contains 126 := (Lib.contains_iff_indexByte s 126).symm
theorem split_laid (s : List UInt8) : (Lib.splitB ⟨#[47]⟩ 0 (Lib.countB ⟨s.toArray⟩ ⟨#[47]⟩) ⟨s.toArray⟩).map Value.string = txts (splitC 47 s) ∧ Lib.countB ⟨s.toArray⟩ ⟨#[47]⟩ + 1 = (splitC 47 s).length := by
 have h1 := Lib.splitB_data ⟨#[47]⟩ 0 (Lib.countB ⟨s.toArray⟩ ⟨#[47]⟩) ⟨s.toArray⟩
 have h2 : Lib.splitK [47] 0 (Lib.countB ⟨s.toArray⟩ ⟨#[47]⟩) s = splitC 47 s := split_one 47 s
 rw [show (⟨#[47]⟩ : ByteArray).data.toList = [47] from rfl, show (⟨s.toArray⟩ : ByteArray).data.toList = s from rfl, h2] at h1
 have h3 := Lib.splitB_all ⟨#[47]⟩ (by decide) 0 _ ⟨s.toArray⟩ rfl
 refine ⟨?_, ?_⟩
 ·rw [← h1]
  unfold txts
  rw [List.map_map]
  rfl
 rw [← h3, ← h1, List.length_map]
theorem split_calls (s : List UInt8) (w : World) (m : Int) (hm : w.cell? ⟨2, 0, none⟩ = some (.int .i64 m)) (hs : s.length ≤ 100000000) :
  Calls Tryz.prog 53 #[.string ⟨s.toArray⟩, .string ⟨#[47]⟩] w fun e w' => e = .returned (.slice (some ⟨w.heap.size, 0, none⟩) (splitC 47 s).length (splitC 47 s).length) ∧ RowAt w' w.heap.size (txts (splitC 47 s)) ∧ Below w.heap.size w w' := by
 have hz : (⟨s.toArray⟩ : ByteArray).size = s.length := by simp [ByteArray.size]
 obtain ⟨h1, h2⟩ := split_laid s
 refine (Tryz.strings_Split ⟨s.toArray⟩ ⟨#[47]⟩ m w (by rw [hz]; omega) hm (by decide)).mono ?_
 rintro e w' ⟨rfl, rfl⟩
 rw [h1, h2]
 exact ⟨rfl, by have := RowAt.new w (txts (splitC 47 s)).toArray 9; simpa using this, (Below.refl _ _).alloc (Nat.le_refl _) _⟩
theorem Rp.apart {S : Nat → Prop} {w w' : World} {lo g : Nat} {a b : List UInt8} (h : Rp w lo g a b) (ha : Apart S w w') (hS : ∀ k, lo ≤ k → ¬ S k) : Rp w' lo g a b := by
 refine ⟨h.hlo, ?_⟩
 rcases h.at_ with ⟨v, h1, h2, h3⟩ | ⟨gr, gt, gA, gu, gB, gC, h1, h2⟩
 ·exact .inl ⟨v, h1.apart ha (hS _ h.hlo), h2.apart ha (fun k hk _ => hS k hk), h3⟩
 exact .inr ⟨gr, gt, gA, gu, gB, gC, h1.apart ha (hS _ h.hlo), h2.apart ha hS⟩
structure PtI (w wr : World) (g1 gs lo g7 : Nat) (r : JR) (L : List (List UInt8)) : Prop where
 be : Below w.heap.size w wr
 v : RowAt wr g1 (jcells r)
 res : RowAt wr (g1 + 1) (jcells jzero)
 nm : RowAt wr gs (txts L)
 rp : Rp wr lo g7 [126] [47]
 at_ : w.heap.size = g1 ∧ g1 + 1 < gs ∧ gs < lo
theorem PtI.below {w wr w' : World} {g1 gs lo g7 : Nat} {r : JR} {L : List (List UInt8)} (h : PtI w wr g1 gs lo g7 r L) (hb : Below wr.heap.size wr w') : PtI w w' g1 gs lo g7 r L :=
 ⟨h.be.trans (hb.mono h.be.size), h.v.below hb, h.res.below hb, h.nm.below hb, h.rp.below hb, h.at_⟩
theorem PtI.turned {w wr w' : World} {g1 gs lo g7 : Nat} {r : JR} {L : List (List UInt8)} (h : PtI w wr g1 gs lo g7 r L) (hr : Rp w' lo g7 [126] [47]) (ha : Apart (fun k => k = g7) wr w') : PtI w w' g1 gs lo g7 r L := by
 have h1 := h.rp.hlo
 have h2 := h.at_
 exact ⟨h.be.trans (ha.below h.be.size (fun i hi e => by omega)), h.v.apart ha (by omega), h.res.apart ha (by omega), h.nm.apart ha (by omega), hr, h2⟩
theorem PtI.put {w wr : World} {g1 gs lo g7 : Nat} {r : JR} {L : List (List UInt8)} (h : PtI w wr g1 gs lo g7 r L) (i : Nat) (hi : i < L.length) (u : List UInt8) : PtI w (wr.setCell ⟨gs, i, none⟩ (.string ⟨u.toArray⟩)) g1 gs lo g7 r (L.set i u) := by
 have h2 := h.at_
 have ha := Apart.set (S := fun k => k = gs) wr (a := ⟨gs, i, none⟩) rfl (.string ⟨u.toArray⟩)
 refine ⟨h.be.trans (ha.below h.be.size (fun j hj e => by omega)), h.v.apart ha (by omega), h.res.apart ha (by omega), ?_, h.rp.apart ha (fun k hk e => by omega), h2⟩
 have h3 := h.nm.set i (.string ⟨u.toArray⟩) (by simpa [txts] using hi)
 have e : txts (L.set i u) = (txts L).set i (.string ⟨u.toArray⟩) := by simp [txts, List.map_set]
 rw [e]; exact h3
theorem PtI.step {w wr w' : World} {g1 gs lo g7 : Nat} {r r' : JR} {L : List (List UInt8)} (h : PtI w wr g1 gs lo g7 r L) (hS : Sx wr w' g1 r') : PtI w w' g1 gs lo g7 r' L := by
 have h2 := h.at_
 exact ⟨h.be.trans (hS.apart.below h.be.size (fun j hj e => by omega)), hS.row, h.res.apart hS.apart (by omega), h.nm.apart hS.apart (by omega), h.rp.apart hS.apart (fun k hk e => by omega), h2⟩
theorem walkJ_none {v : J} {u : List UInt8} {us : List (List UInt8)} (h : stepJ v u = none) : walkJ v (u :: us) = none := by rw [walkJ, h]
theorem walkJ_some {v x : J} {u : List UInt8} {us : List (List UInt8)} (h : stepJ v u = some x) : walkJ v (u :: us) = walkJ x us := by rw [walkJ, h]
open Go.RowKit
theorem nam4 (w : World) (a b : List UInt8) : NamS (w.alloc (.cells #[.string ⟨#[126, 48]⟩, .string ⟨a.toArray⟩, .string ⟨#[126, 49]⟩, .string ⟨b.toArray⟩] 9)) (fun _ => True) (.slice (some ⟨w.heap.size, 0, none⟩) 4 4) (keysL a b) := by
 refine ⟨_, 4, rfl, by simp [keysL], by simp [keysL, maxLen], fun _ => ⟨w.heap.size, 0, rfl, InS.any _ _ _ _, by simp, fun i s hi => ?_⟩⟩
 rw [World.cell?_alloc_at _ _ _ _ rfl, Nat.zero_add]
 match i with
 | 0 => cases hi; rfl
 | 1 => cases hi; rfl
 | 2 => cases hi; rfl
 | 3 => cases hi; rfl
 | i + 4 => simp [keysL] at hi
theorem splitC_le (c : UInt8) : ∀ (s p : List UInt8), p ∈ splitC c s → p.length ≤ s.length
 | [], p, h => by simp [splitC] at h; subst h; simp
 | x :: t, p, h => by
  obtain ⟨h0, r, e⟩ := splitC_ne c t
  have ih := splitC_le c t
  rw [e] at ih
  rw [splitC] at h
  by_cases hx : x = c
  ·rw [if_pos hx, e] at h
   rcases List.mem_cons.1 h with rfl | h
   ·simp
   have := ih p h; simp; omega
  rw [if_neg hx, e] at h
  simp only at h
  rcases List.mem_cons.1 h with rfl | h
  ·have := ih h0 (by simp); simp; omega
  have := ih p (by simp [h]); simp; omega
theorem names_set {h0 : List UInt8} {ps : List (List UInt8)} {i : Nat} {x : List UInt8} {f : List UInt8 → List UInt8} (hx : ps[i]? = some x) : (h0 :: ((ps.take i).map f ++ ps.drop i)).set (i + 1) (f x) = h0 :: ((ps.take (i + 1)).map f ++ ps.drop (i + 1)) := by
 have hi := (List.getElem?_eq_some_iff.1 hx).1
 have hd : ps.drop i = x :: ps.drop (i + 1) := by
  rw [List.drop_eq_getElem_cons hi]
  congr 1
  exact (List.getElem?_eq_some_iff.1 hx).2
 rw [List.set_cons_succ, List.set_append_right _ _ (by simp; omega), hd, List.take_add_one, hx]
 simp
 rw [show i - min i ps.length = 0 by omega]
 simp
theorem splitC_len (c : UInt8) : ∀ s : List UInt8, (splitC c s).length ≤ s.length + 1
 | [] => by simp [splitC]
 | x :: t => by
  have ih := splitC_len c t
  obtain ⟨h0, r, e⟩ := splitC_ne c t
  rw [splitC]
  by_cases hx : x = c
  ·rw [if_pos hx]; simp; omega
  rw [if_neg hx, e]
  rw [e] at ih
  simp at ih ⊢; omega
theorem kind_lens {v : J} (h : goodJ v = true) : v.kind = 5 → v.ns.length = v.l.length := by
 obtain ⟨k, b, n, t, l, ns⟩ := v
 exact fun e => ((cp_len (so := false) h).2 e).1
theorem good_mem {v x : J} (h : goodJ v = true) (hx : x ∈ v.l) : goodJ x = true ∧ szJ x ≤ szJ v := by
 obtain ⟨k, b, n, t, l, ns⟩ := v
 obtain ⟨i, hi⟩ := List.getElem?_of_mem hx
 refine ⟨good_in h hi, ?_⟩
 have h1 := szL_in hi
 simp only [szJ]
 simp only [J.l] at h1
 omega
def PtrC (w2 : World) (A : J × Int) (v : J) (s : List UInt8) (u : Value) (wc : World) : Prop := ∃ q, u = .bool q ∧ Below w2.heap.size w2 wc ∧ (q = true → A = (J.zero, 2)) ∧ (q = false → A = ptrK v (pathS s) ∧ goodJ v = true ∧ (s = [] ∨ s.head? = some 47))
def PtrD (w3 : World) (s : List UInt8) (u : Value) (wc : World) : Prop := ∃ (h0 : List UInt8) (ps : List (List UInt8)) (q : Option Addr), u = .slice q ps.length ps.length ∧ (0 < ps.length → q = some ⟨w3.heap.size, 1, none⟩) ∧ RowAt wc w3.heap.size (txts (h0 :: ps)) ∧ Below w3.heap.size w3 wc ∧ pathS s = tilAll ps ∧ ps.length ≤ 100000000 ∧ ∀ q ∈ ps, q.length ≤ 90000000
def PtrTo (w : World) (q : J × Int) (e : Ending) (w' : World) : Prop := ∃ lv nv, e = .returned (.tuple #[jval (q.1, lv, nv), .int .i64 q.2]) ∧ JV w' (fun k => w.heap.size ≤ k) (q.1, lv, nv) ∧ Below w.heap.size w w'
set_option maxHeartbeats 20000000 in
theorem pointer_calls {w0 : World} {S1 : Nat → Prop} {r1 : JR} (h1 : JV w0 S1 r1) (hTab : Tab w0) (hE : Errs w0) (hT : Lib.Utf8Tabs 0 1 w0) (m : Int) (hML : w0.cell? ⟨2, 0, none⟩ = some (.int .i64 m)) (w : World) (hb : Below w0.heap.size w0 w) (hsz : szJ r1.1 ≤ 20000000) (s : List UInt8) (hs : s.length ≤ 90000000) :
  Calls Tryz.prog 19 #[jval r1, .string ⟨s.toArray⟩] w (PtrTo w (ptrJ r1.1 s)) := by
 have HB := Lib.hid hb
 have HSZ := Lib.hid hsz
 have HE := Lib.hid hE
 have HML := Lib.hid hML
 have HSJ1 := Lib.hid h1.slJ
 obtain ⟨ANS, hA⟩ : ∃ q, ptrJ r1.1 s = q := ⟨_, rfl⟩
 have HA := Lib.hid hA
 rw [hA]
 clear hb hsz hE hML hA
 go_enter Tryz.func19, Tryz.ntmps19
 go_upto_region 1 with (first | (refine wpList_boxJ rfl _ rfl r1 rfl ?_; intro w1 hBx) | (refine wpList_allocJ rfl rfl ?_; intro w2 hBy))
 have HV := Lib.hid (hBx.row.below hBy.be)
 have HR := Lib.hid hBy.row
 have HW1 : Hid (Below w.heap.size w w2) := Lib.hid (hBy.below hBx.be hBx.be.size)
 have HW : Hid (Below w0.heap.size w0 w2) := Lib.hid (HB.out.trans (HW1.out.mono HB.out.size))
 have hz := hBx.size
 have hzy := hBy.size
 obtain ⟨g1, hg1⟩ : ∃ g, w.heap.size = g := ⟨_, rfl⟩
 have hg2 : w1.heap.size = g1 + 1 := by omega
 have HG : Hid (w.heap.size = g1 ∧ w2.heap.size = g1 + 2) := Lib.hid ⟨hg1, by omega⟩
 rw [hg1] at HV ⊢
 rw [hg2] at HR ⊢
 clear hBx hBy hg1 hg2 hz hzy
 go_cut [25] from 14 to 26 (fun u25 wc => PtrC w2 ANS r1.1 s u25 wc)
 case first =>
  go_wp2_with (refine wpList_loadJ rfl _ rfl r1 HV.out rfl ?_)
  refine (checkJ_calls h1 hTab hT w2 HW.out HSZ.out).mono ?_
  rintro e w3 ⟨rfl, hb3⟩
  have HBC := Lib.hid hb3
  clear hb3 HV HR HW1 HW
  obtain ⟨c, hc⟩ : ∃ c, checkJ r1.1 = c := ⟨_, rfl⟩
  have HC := Lib.hid hc
  rw [hc]
  clear hc
  by_cases hc0 : c = 0
  rotate_left
  ·
   have n0 : ((c : Int) == 0) = false := by rw [beq_eq_false_iff_ne]; exact hc0
   have HA2 : Hid (ANS = (J.zero, 2)) := Lib.hid (by rw [← HA.out]; unfold ptrJ; rw [if_pos (by rw [HC.out]; exact hc0)])
   go_wp2_with fail
   go_meet
   exact ⟨true, rfl, HBC.out, fun _ => HA2.out, fun h => (nomatch h)⟩
  subst hc0
  have HA1 : Hid (ANS = ptrK r1.1 (pathS s)) := Lib.hid (by rw [← HA.out]; unfold ptrJ; rw [if_neg (by rw [HC.out]; simp)])
  clear HA
  have HGD := Lib.hid (checkJ_zero.1 HC.out).1
  rcases (show s = [] ∨ ∃ ch t, s = ch :: t by cases s <;> simp) with hsn | ⟨ch, t, hst⟩
  ·
   subst hsn
   go_wp2_with fail
   go_meet
   exact ⟨false, rfl, HBC.out, fun h => (nomatch h), fun _ => ⟨HA1.out, HGD.out, .inl rfl⟩⟩
  have HQ : Hid ((ch ≠ 47 → ANS = (J.zero, 2)) ∧ (ch = 47 → s.head? = some 47)) := Lib.hid ⟨fun h => by rw [HA1.out, hst, pathS_none ch t h]; rfl, fun h => by rw [hst, h]; rfl⟩
  have hue : s.isEmpty = false := by rw [hst]; rfl
  have hue2 : (s == []) = false := by rw [hst]; rfl
  have hc1 : s.getD 0 0 = ch := by rw [hst]; rfl
  have hl1 : 0 < s.length := by rw [hst]; simp
  have hij := byte_at s 0 hl1
  have hlp : (0 : Int) < (s.length : Int) := by omega
  rw [hc1] at hij
  clear hst hc1
  by_cases hch : ch = 47
  ·
   subst hch
   have HHD : Hid (s.head? = some 47) := Lib.hid (HQ.out.2 rfl)
   clear HQ
   go_wp2_with fail
   go_meet
   exact ⟨false, rfl, HBC.out, fun h => (nomatch h), fun _ => ⟨HA1.out, HGD.out, .inr HHD.out⟩⟩
  have hn47 : (((ch.toNat : Nat) : Int) == 47) = false := by rw [beq_eq_false_iff_ne]; intro e; exact hch (by apply UInt8.toNat_inj.1; show ch.toNat = 47; omega)
  have HA2 := Lib.hid (HQ.out.1 hch)
  clear hch HQ
  go_wp2_with fail
  go_meet
  have hn47b : (((ch.toNat : Nat) : Int) != 47) = true := by rw [bne, hn47]; rfl
  exact ⟨true, by rw [hn47b], HBC.out, fun _ => HA2.out, fun h => (nomatch h)⟩
 case rest =>
  obtain ⟨q, rfl, hbc, hq1, hq2⟩ := hcut
  obtain ⟨w3, hw3⟩ : ∃ W, wc = W := ⟨_, rfl⟩
  rw [hw3] at hbc ⊢
  have HV3 := Lib.hid (HV.out.below hbc)
  have HR3 := Lib.hid (HR.out.below hbc)
  have HB3 := Lib.hid (HW1.out.trans (hbc.mono HW1.out.size))
  have HW3 := Lib.hid (HW.out.trans (hbc.mono HW.out.size))
  have HG3 : Hid (g1 + 2 ≤ w3.heap.size) := Lib.hid (by have := HG.out; have := hbc.size; omega)
  clear hbc hw3 HV HR HW1 HW HA
  cases q with
  | true =>
   have HA2 := Lib.hid (hq1 rfl)
   clear hq1 hq2
   go_wp2_with (first | with_reducible refine stop_ret ?_ | (refine wpList_storeJ rfl _ _ rfl rfl HR3.out rfl jzero slJ_zero rfl rfl ?_; intro wS hSx))
   refine Lib.hid ?_
   refine bodyPost_retJt jzero rfl rfl rfl rfl hSx.row ?_
   have HAN : ANS = (J.zero, 2) := HA2.out
   rw [HAN]
   exact ⟨.slice none 0 0, .slice none 0 0, rfl, JV.zero _ _, hSx.below HB3.out (by have := HG.out; omega) HB3.out.size⟩
  | false =>
   obtain ⟨hans, hgd, hok⟩ := hq2 rfl
   have HPS := Lib.hid (pathS_split s hok)
   have HA := Lib.hid hans
   have HGD := Lib.hid hgd
   clear hans hgd hok hq1 hq2
   go_upto_region 3 with fail
   go_cut [6] from 27 to 29 (fun u6 wc => PtrD w3 s u6 wc)
   case first =>
    go_wp2_with fail
    refine (split_calls s w3 m ((HW3.out.cell (p := ⟨2, 0, none⟩) (by have := HE.out.lt; show 2 < w0.heap.size; omega)).trans HML.out) (by omega)).mono ?_
    rintro e w4 ⟨rfl, hn4, hb4⟩
    obtain ⟨h0, ps, hsp⟩ := splitC_ne 47 s
    have HPB : Hid (ps.length ≤ 100000000) := Lib.hid (by have h9 := splitC_len 47 s; rw [hsp, List.length_cons] at h9; omega)
    have HPL : Hid (∀ q ∈ ps, q.length ≤ 90000000) := Lib.hid (fun q hq => Nat.le_trans (splitC_le 47 s q (by rw [hsp]; simp [hq])) hs)
    rw [hsp] at hn4 HPS ⊢
    have hpl : (h0 :: ps).length = ps.length + 1 := rfl
    rw [hpl]
    have HPT : Hid (pathS s = tilAll ps) := Lib.hid HPS.out
    have HN4 := Lib.hid hn4
    have HB4 := Lib.hid hb4
    clear hn4 hb4 HPS hpl hsp
    have h1le : (1 : Int) ≤ ((ps.length + 1 : Nat) : Int) := by omega
    by_cases hp0 : ps = []
    ·
     subst hp0
     go_wp2_with fail
     go_meet
     exact ⟨h0, [], _, rfl, fun h => absurd h (Nat.lt_irrefl 0), HN4.out, HB4.out, HPT.out, HPB.out, HPL.out⟩
    have hpp : 0 < ps.length := by have h9 : ps.length ≠ 0 := fun e => hp0 (List.length_eq_zero_iff.1 e); omega
    go_wp2_with fail
    go_meet
    exact ⟨h0, ps, _, rfl, fun _ => rfl, HN4.out, HB4.out, HPT.out, HPB.out, HPL.out⟩
   obtain ⟨h0, ps, pn, rfl, hpn, hn4, hb4, hpt, hpb, hpl⟩ := hcut
   obtain ⟨w4, hw4⟩ : ∃ W, wc = W := ⟨_, rfl⟩
   rw [hw4] at hn4 hb4 ⊢
   have HPT := Lib.hid hpt
   have HPL := Lib.hid hpl
   obtain ⟨gs, hgs⟩ : ∃ g, w3.heap.size = g := ⟨_, rfl⟩
   rw [hgs] at hn4 hpn
   have HPN := Lib.hid hpn
   have HN4 := Lib.hid hn4
   have HV4 := Lib.hid (HV3.out.below hb4)
   have HR4 := Lib.hid (HR3.out.below hb4)
   have HB4 := Lib.hid (HB3.out.trans (hb4.mono HB3.out.size))
   have HW4 := Lib.hid (HW3.out.trans (hb4.mono HW3.out.size))
   have HG4 : Hid (g1 + 1 < gs ∧ gs < w4.heap.size) := Lib.hid ⟨by have := HG3.out; omega, hn4.lt⟩
   clear hn4 hb4 hpt hpl hpn HV3 HR3 HB3 HW3 HG3 HPS hgs hw4
   go_wp2_with fail
   refine (nr_calls _ [126] [47] (nam4 w4 [126] [47])).mono ?_
   rintro e w5 ⟨g7, rfl, hrp, hb5⟩
   have HB45 : Hid (Below w4.heap.size w4 w5) := Lib.hid (((Below.refl w4.heap.size w4).alloc (Nat.le_refl _) _).trans (hb5.mono (by rw [World.size_alloc]; omega)))
   rw [World.size_alloc] at hrp
   obtain ⟨lo, hlo⟩ : ∃ l, w4.heap.size + 1 = l := ⟨_, rfl⟩
   rw [hlo] at hrp
   have HI : Hid (PtI w w5 g1 gs lo g7 r1 (h0 :: ps)) := Lib.hid ⟨HB4.out.trans (HB45.out.mono HB4.out.size), HV4.out.below HB45.out, HR4.out.below HB45.out, HN4.out.below HB45.out, hrp, ⟨HG.out.1, HG4.out.1, by have := HG4.out; omega⟩⟩
   clear hrp hb5 hlo HB45 HB4 HV4 HR4 HN4 HG4 HW4 HG
   go_wp2_with fail
   go_loopg [34] ps.length (fun kk s34 wr => ∃ (i : Nat), kk = ps.length - i ∧ i ≤ ps.length ∧ s34 = .int .i64 (i : Int) ∧ PtI w wr g1 gs lo g7 r1 (h0 :: ((ps.take i).map (replS [126] [47]) ++ ps.drop i)) ∧ ∀ q ∈ ps.take i, tilN q ≠ none)
   case atStart => exact ⟨0, rfl, Nat.zero_le _, rfl, HI.out, by simp⟩
   obtain ⟨i, hki, hi, rfl, hI, htl⟩ := hrel
   have Hki := Lib.hid hki
   have HJ := Lib.hid hI
   have HTL := Lib.hid htl
   clear hki hI htl HI
   by_cases hlt : i < ps.length
   ·
    have hlti : (i : Int) < (ps.length : Int) := by omega
    obtain rfl := HPN.out (by omega)
    clear HPN
    obtain ⟨x, hx⟩ : ∃ x, ps[i]? = some x := ⟨_, List.getElem?_eq_getElem hlt⟩
    have HL0 : Hid ((h0 :: ((ps.take i).map (replS [126] [47]) ++ ps.drop i))[i + 1]? = some x) := Lib.hid (by rw [List.getElem?_cons_succ, List.getElem?_append_right (by simp; omega)]; simp [List.getElem?_drop]; rw [show i + (i - min i ps.length) = i by omega]; exact hx)
    have HLL : Hid ((h0 :: ((ps.take i).map (replS [126] [47]) ++ ps.drop i)).length = ps.length + 1) := Lib.hid (by simp; omega)
    have HXL : Hid (x.length ≤ 90000000) := Lib.hid (HPL.out x (List.mem_of_getElem? hx))
    have HLN : Hid ((h0 :: ((ps.take i).map (replS [126] [47]) ++ ps.drop i)).set (i + 1) (replS [126] [47] x) = h0 :: ((ps.take (i + 1)).map (replS [126] [47]) ++ ps.drop (i + 1))) := Lib.hid (names_set hx)
    have HTN : Hid (tilN x ≠ none → ∀ q ∈ ps.take (i + 1), tilN q ≠ none) := Lib.hid (fun h q hq => by rw [List.take_add_one, hx] at hq; rcases List.mem_append.1 hq with h9 | h9; (exact HTL.out q h9); (simp at h9; rw [h9]; exact h))
    have HBD : Hid (tilN x = none → tilAll ps = none) := Lib.hid (fun h => tilAll_none ps x (List.mem_of_getElem? hx) h)
    obtain ⟨L, hL⟩ : ∃ L, h0 :: ((ps.take i).map (replS [126] [47]) ++ ps.drop i) = L := ⟨_, rfl⟩
    rw [hL] at HJ HL0 HLL HLN
    clear hL hx
    have hnc : _ = some (Value.string ⟨x.toArray⟩) := HJ.out.nm.cell (i + 1) _ (by unfold txts; rw [List.getElem?_map, HL0.out]; rfl)
    have hnz := HJ.out.nm.free (i + 1)
    rw [show i + 1 = 1 + i by omega] at hnc hnz
    go_wp2_with fail
    clear hnc hnz
    refine (nr_calls _ [] [] (nam4 wr [] [])).mono ?_
    rintro e w6 ⟨g8, rfl, hrp, hb6⟩
    have HB6 : Hid (Below wr.heap.size wr w6) := Lib.hid (((Below.refl wr.heap.size wr).alloc (Nat.le_refl _) _).trans (hb6.mono (by rw [World.size_alloc]; omega)))
    rw [World.size_alloc] at hrp
    have HRP := Lib.hid hrp
    clear hrp hb6
    go_wp2_with fail
    refine (rep_calls w6 HRP.out (by simp) x (by have := HXL.out; omega)).mono ?_
    rintro e w7 ⟨rfl, _, hap⟩
    have HB7 : Hid (Below wr.heap.size wr w7) := Lib.hid (HB6.out.trans (hap.below HB6.out.size (fun i hi e => by have := HRP.out.hlo; omega)))
    clear hap HB6
    go_wp2_with fail
    refine (Any.strings_Contains_one Tryz.lays144 ⟨(replS [] [] x).toArray⟩ 126 w7).mono ?_
    rintro e w8 ⟨rfl, rfl⟩
    have HI7 := Lib.hid (HJ.out.below HB7.out)
    clear HJ HB7 HRP
    have hct : decide (0 ≤ Lib.indexByte (⟨(replS [] [] x).toArray⟩ : ByteArray).data.toList 126) = (replS [] [] x).contains 126 := has_til _
    rw [hct]
    have HTB : Hid ((replS [] [] x).contains 126 = true ↔ tilN x = none) := Lib.hid (by rw [(tilN_none x).1]; simp)
    obtain ⟨q, hq⟩ : ∃ q, (replS [] [] x).contains 126 = q := ⟨_, rfl⟩
    rw [hq] at HTB ⊢
    clear hct hq
    cases q with
    | true =>
     have HA2 : Hid (ANS = (J.zero, 2)) := Lib.hid (by rw [HA.out, HPT.out, HBD.out (HTB.out.1 rfl)]; rfl)
     clear HA HTB HBD HTN
     go_wp2_with (first | with_reducible refine stop_ret ?_ | (refine wpList_storeJ rfl _ _ rfl rfl HI7.out.res rfl jzero slJ_zero rfl rfl ?_; intro wS hSx))
     refine Lib.hid ?_
     refine bodyPost_retJt jzero rfl rfl rfl rfl hSx.row ?_
     have HAN : ANS = (J.zero, 2) := HA2.out
     rw [HAN]
     exact ⟨.slice none 0 0, .slice none 0 0, rfl, JV.zero _ _, hSx.below HI7.out.be (by have := HI7.out.at_; omega) HI7.out.be.size⟩
    | false =>
     have HTF : Hid (tilN x ≠ none) := Lib.hid (fun e => by have := HTB.out.2 e; cases this)
     clear HTB HBD
     go_wp2_with fail
     refine (rep_calls w8 HI7.out.rp (by simp) x (by have := HXL.out; omega)).mono ?_
     rintro e w9 ⟨rfl, hrp9, hap9⟩
     have HI9 := Lib.hid (HI7.out.turned hrp9 hap9)
     clear hrp9 hap9 HI7
     have hnc : _ = some (Value.string ⟨x.toArray⟩) := HI9.out.nm.cell (i + 1) _ (by unfold txts; rw [List.getElem?_map, HL0.out]; rfl)
     have hnz := HI9.out.nm.free (i + 1)
     rw [show i + 1 = 1 + i by omega] at hnc hnz
     go_wp2_with fail
     have hput := HI9.out.put (i + 1) (by rw [HLL.out]; omega) (replS [126] [47] x)
     rw [HLN.out] at hput
     have HPU := Lib.hid hput
     clear hput
     go_roundg (ps.length - (i + 1))
     case measure => have := Hki.out; omega
     exact ⟨i + 1, rfl, by omega, by go_num, by have h9 := HPU.out; rw [show (⟨gs, i + 1, none⟩ : Addr) = ⟨gs, 1 + i, none⟩ by rw [Nat.add_comm]] at h9; exact h9, HTN.out HTF.out⟩
   obtain rfl : i = ps.length := by omega
   have hni : ¬ ((ps.length : Nat) : Int) < (ps.length : Int) := by omega
   have HTA : Hid (pathS s = some (ps.map (replS [126] [47]))) := Lib.hid (by rw [HPT.out]; exact tilAll_some ps (fun q hq => HTL.out q (by rw [List.take_length]; exact hq)))
   have HUL : Hid (∀ u ∈ ps.map (replS [126] [47]), u.length ≤ 1000000000) := Lib.hid (fun u hu => by obtain ⟨q, hq, rfl⟩ := List.mem_map.1 hu; have h1 := HPL.out q hq; have h2 := replS_len [126] [47] (by simp) _ q (Nat.le_refl _); omega)
   have HU : Hid (PtI w wr g1 gs lo g7 r1 (h0 :: ps.map (replS [126] [47]))) := Lib.hid (by have h9 := HJ.out; rw [List.take_length, List.drop_length, List.append_nil] at h9; exact h9)
   have hul : (ps.map (replS [126] [47])).length = ps.length := by simp
   obtain ⟨us, hus⟩ : ∃ us, ps.map (replS [126] [47]) = us := ⟨_, rfl⟩
   rw [hus] at HTA HUL HU hul
   rw [← hul] at HPN ⊢
   have hub : us.length ≤ 100000000 := by omega
   clear hul
   clear hus HTL HPT HPL HJ Hki hlt hni hi
   rw [HTA.out] at HA
   clear HTA
   go_wp2_with fail
   go_loopg [54] us.length (fun kk s54 wz => ∃ (i : Nat) (r : JR), kk = us.length - i ∧ i ≤ us.length ∧ s54 = .int .i64 (i : Int) ∧ PtI w wz g1 gs lo g7 r (h0 :: us) ∧ JV w0 S1 r ∧ goodJ r.1 = true ∧ szJ r.1 ≤ 20000000 ∧ walkJ r1.1 us = walkJ r.1 (us.drop i))
   case atStart => exact ⟨0, r1, rfl, Nat.zero_le _, rfl, HU.out, h1, HGD.out, HSZ.out, rfl⟩
   obtain ⟨i, r, hki, hi, rfl, hI, hJ, hgr, hzr, hwk⟩ := hrel
   have Hki := Lib.hid hki
   have HI := Lib.hid hI
   have HJR := Lib.hid hJ
   have HGR := Lib.hid hgr
   have HZR := Lib.hid hzr
   have HWK := Lib.hid hwk
   clear hki hI hJ hgr hzr hwk HU HGD HSZ h1 HSJ1
   by_cases hlt : i < us.length
   ·
    have hlti : (i : Int) < (us.length : Int) := by omega
    obtain rfl := HPN.out (by omega)
    clear HPN
    obtain ⟨x, hx⟩ : ∃ x, us[i]? = some x := ⟨_, List.getElem?_eq_getElem hlt⟩
    have HUX : Hid (x.length ≤ 1000000000) := Lib.hid (HUL.out x (List.mem_of_getElem? hx))
    have HDX : Hid (us.drop i = x :: us.drop (i + 1)) := Lib.hid (by rw [List.drop_eq_getElem_cons hlt]; congr 1; exact (List.getElem?_eq_some_iff.1 hx).2)
    have hnc : _ = some (Value.string ⟨x.toArray⟩) := HI.out.nm.cell (i + 1) _ (by unfold txts; rw [List.getElem?_map, List.getElem?_cons_succ, hx]; rfl)
    rw [show i + 1 = 1 + i by omega] at hnc
    go_wp2_with (refine wpList_loadJ rfl _ rfl r HI.out.v rfl ?_)
    clear hnc hx
    refine (step_calls HJR.out hTab HE.out _ (HB.out.trans (HI.out.be.mono HB.out.size)) (kind_lens HGR.out) (by have := HZR.out; omega) x HUX.out).mono ?_
    rintro e w9 ⟨hst, hb9⟩
    have HI9 := Lib.hid (HI.out.below hb9)
    clear hb9 HI
    rcases hst with ⟨r2, hs2, hm2, hJ2, rfl⟩ | ⟨hs2, rfl⟩
    ·
     have HSL := Lib.hid hJ2.slJ
     have HJ2 := Lib.hid hJ2
     have HG2 := Lib.hid (good_mem HGR.out hm2)
     have HW2 : Hid (walkJ r1.1 us = walkJ r2.1 (us.drop (i + 1))) := Lib.hid (by rw [HWK.out, HDX.out, walkJ_some hs2])
     clear hJ2 hm2 hs2
     go_upto_region 16 with (first | (refine wpList_allocJ rfl rfl ?_; intro wa hBx) | (refine wpList_storeJ rfl _ _ rfl rfl hBx.row rfl r2 (by first | exact slJ_zero | exact HSL.out) rfl rfl ?_; intro wS hSx))
     have HIS := Lib.hid (HI9.out.below (hSx.below hBx.be (Nat.le_refl _) hBx.be.size))
     have HRX := Lib.hid hSx.row
     clear hBx hSx HI9
     go_wp2_with (first | refine wpList_loadJ rfl _ rfl r2 HRX.out rfl ?_ | (refine wpList_storeJ rfl _ _ rfl rfl HIS.out.v rfl r2 HSL.out rfl rfl ?_; intro wT hTx))
     have HIT := Lib.hid (HIS.out.step hTx)
     clear hTx
     go_roundg (us.length - (i + 1))
     case measure => have := Hki.out; omega
     exact ⟨i + 1, r2, rfl, by omega, by go_num, HIT.out, HJ2.out, HG2.out.1, by have := HG2.out.2; have := HZR.out; omega, HW2.out⟩
    have HA2 : Hid (ANS = (J.zero, 7)) := Lib.hid (by rw [HA.out, ptrK, HWK.out, HDX.out, walkJ_none hs2])
    clear hs2 HA
    go_upto_region 16 with (first | (refine wpList_allocJ rfl rfl ?_; intro wa hBx) | (refine wpList_storeJ rfl _ _ rfl rfl hBx.row rfl jzero (by first | exact slJ_zero | exact HSL.out) rfl rfl ?_; intro wS hSx))
    have HIS := Lib.hid (HI9.out.below (hSx.below hBx.be (Nat.le_refl _) hBx.be.size))
    have HRX := Lib.hid hSx.row
    clear hBx hSx HI9
    go_wp2_with (first | with_reducible refine stop_ret ?_ | (refine wpList_storeJ rfl _ _ rfl rfl HIS.out.res rfl jzero slJ_zero rfl rfl ?_; intro wS hSx))
    refine Lib.hid ?_
    refine bodyPost_retJt jzero rfl rfl rfl rfl hSx.row ?_
    have HAN : ANS = (J.zero, 7) := HA2.out
    rw [HAN]
    exact ⟨.slice none 0 0, .slice none 0 0, rfl, JV.zero _ _, hSx.below HIS.out.be (by have := HIS.out.at_; omega) HIS.out.be.size⟩
   obtain rfl : i = us.length := by omega
   have hni : ¬ ((us.length : Nat) : Int) < (us.length : Int) := by omega
   have HA2 : Hid (ANS = (cpJ false r.1, 0)) := Lib.hid (by rw [HA.out, ptrK, HWK.out, List.drop_length]; rfl)
   clear HA HWK
   go_wp2_with (refine wpList_loadJ rfl _ rfl r HI.out.v rfl ?_)
   refine (copied_calls HJR.out false _ (HB.out.trans (HI.out.be.mono HB.out.size)) HGR.out (by have := HZR.out; omega)).mono ?_
   rintro e w4c ⟨lv, nv, rfl, hJc, hbc⟩
   have HI9 := Lib.hid (HI.out.below hbc)
   have HJC := Lib.hid hJc
   have HSL := Lib.hid hJc.slJ
   have HLO := Lib.hid HI.out.res.lt
   have HSZ9 := Lib.hid HI.out.be.size
   clear hJc hbc HI
   go_wp2_with (first | with_reducible refine stop_ret ?_ | (refine wpList_storeJ rfl _ _ rfl rfl HI9.out.res rfl (cpJ false r.1, lv, nv) HSL.out rfl rfl ?_; intro wS hSx))
   refine Lib.hid ?_
   refine bodyPost_retJt (cpJ false r.1, lv, nv) rfl rfl rfl rfl hSx.row ?_
   rw [HA2.out]
   exact ⟨lv, nv, rfl, (HJC.out.apart hSx.apart (fun k hk _ e => by have := HLO.out; omega)).mono (fun k _ hk => by have := HSZ9.out; omega), hSx.below HI9.out.be (by have := HI9.out.at_; omega) HI9.out.be.size⟩
end Go.Proofs.YtfclfaidmipjpaaGreatDoor
