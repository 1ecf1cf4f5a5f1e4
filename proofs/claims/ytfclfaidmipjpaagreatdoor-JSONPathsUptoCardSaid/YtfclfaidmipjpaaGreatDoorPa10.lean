/- Texts of this claim, joined: Pth, JN, Plc, Get. -/
import Derived.Test.YtfclfaidmipjpaaGreatDoorPa04
import Derived.Test.YtfclfaidmipjpaaGreatDoorPa07
namespace Go.Proofs.YtfclfaidmipjpaaGreatDoor
set_option maxRecDepth 100000
set_option maxHeartbeats 20000000
open Go.Lib (hid)
open Go.RowKit
def PthTo (w : World) (s : List UInt8) (e : Ending) (w' : World) : Prop :=
 ((∃ us v, pathS s = some us ∧ e = .returned (.tuple #[v, .bool true]) ∧ NamV w' w.heap.size v us) ∨ (pathS s = none ∧ e = .returned (.tuple #[.slice none 0 0, .bool false]))) ∧ Below w.heap.size w w'
structure PthI (w : World) (s : List UInt8) (i : Nat) (v : Value) (out : List (List UInt8)) (wr : World) : Prop where
 nm : NamV wr w.heap.size v out
 be : Below w.heap.size w wr
 eq : pathS s = pathF (s.drop i) out
 ne : out ≠ [] ∨ s.drop i = [] ∨ (s.drop i).head? = some 47
 ln : out.length ≤ i
 few : ∀ q ∈ out, q.length ≤ i
theorem NamV.put {w : World} {B g cap n : Nat} {ns : List (List UInt8)} (h : NamV w B (.slice (some ⟨g, 0, none⟩) n cap) ns) (hn : n = ns.length) (j : Nat) (x : List UInt8) : NamV (w.setCell ⟨g, j, none⟩ (.string ⟨x.toArray⟩)) B (.slice (some ⟨g, 0, none⟩) n cap) (ns.set j x) := by
 subst hn
 have h1 := (World.ownsRow.stored h j (.string ⟨x.toArray⟩)).1
 unfold NamV
 rw [List.length_set, show txts (ns.set j x) = (txts ns).set j (.string ⟨x.toArray⟩) by unfold txts; rw [List.map_set]]
 exact h1
theorem PthI.add {w wr : World} {s : List UInt8} {i i2 g cap n : Nat} {out : List (List UInt8)} {x : UInt8} (h : PthI w s i (.slice (some ⟨g, 0, none⟩) n cap) out wr) (hn : n = out.length) (he : pathF (s.drop i) out = pathF (s.drop i2) (addL out x)) (hi : i < i2) (ho : out ≠ []) :
  PthI w s i2 (.slice (some ⟨g, 0, none⟩) n cap) (addL out x) (wr.setCell ⟨g, out.length - 1, none⟩ (.string ⟨(out.getD (out.length - 1) [] ++ [x]).toArray⟩)) := by
 have hb := (World.ownsRow.lt h.nm g rfl).1
 refine ⟨h.nm.put hn _ _, h.be.setCell (p := ⟨g, out.length - 1, none⟩) hb _, h.eq.trans he, .inl (fun e => ho ?_), by unfold addL; rw [List.length_set]; have := h.ln; omega, fun q hq => ?_⟩
 ·have := congrArg List.length e
  unfold addL at this
  rw [List.length_set] at this
  exact List.length_eq_zero_iff.1 this
 ·rcases List.mem_or_eq_of_mem_set hq with hq | hq
  ·have := h.few q hq; omega
  rw [hq, List.length_append, List.length_singleton]
  have hlt : out.length - 1 < out.length := by have := List.length_pos_iff.2 ho; omega
  have hm : out.getD (out.length - 1) [] ∈ out := by rw [List.getD_eq_getElem?_getD, List.getElem?_eq_getElem hlt]; exact List.getElem_mem hlt
  have := h.few _ hm
  omega
theorem u8_beq_no (c d : UInt8) (h : c ≠ d) : ((c.toNat : Int) == (d.toNat : Int)) = false := by
 rw [beq_eq_false_iff_ne]
 intro e
 exact h (UInt8.toNat_inj.1 (by omega))
theorem hdrop9 {s : List UInt8} {i : Nat} (h : i < s.length) : s.drop i = s.getD i 0 :: s.drop (i + 1) := by
 rw [List.drop_eq_getElem_cons h]
 congr 1
 simp [h]
theorem pathF_47 (t : List UInt8) (out : List (List UInt8)) : pathF (47 :: t) out = pathF t (out ++ [[]]) := by rw [pathF_cons, if_pos rfl]
theorem pathF_let {c : UInt8} (h1 : c ≠ 47) (h2 : c ≠ 126) (t : List UInt8) (out : List (List UInt8)) : pathF (c :: t) out = pathF t (addL out c) := by rw [pathF_cons, if_neg h1, if_pos h2]
theorem pathF_end (out : List (List UInt8)) : pathF [126] out = none := by rw [pathF_cons, if_neg (by decide), if_neg (by simp)]
theorem pathF_48 (t : List UInt8) (out : List (List UInt8)) : pathF (126 :: 48 :: t) out = pathF t (addL out 126) := by rw [pathF_cons, if_neg (by decide), if_neg (by simp)]; rfl
theorem pathF_49 (t : List UInt8) (out : List (List UInt8)) : pathF (126 :: 49 :: t) out = pathF t (addL out 47) := by rw [pathF_cons, if_neg (by decide), if_neg (by simp)]; rfl
theorem pathF_bad {d : UInt8} (h1 : d ≠ 48) (h2 : d ≠ 49) (t : List UInt8) (out : List (List UInt8)) : pathF (126 :: d :: t) out = none := by rw [pathF_cons, if_neg (by decide), if_neg (by simp)]; simp only; rw [if_neg h1, if_neg h2]
theorem path_calls (w : World) (s : List UInt8) (hs : s.length ≤ 90000000) : Calls Tryz.prog 64 #[.string ⟨s.toArray⟩] w (PthTo w s) := by
 by_cases hbad : ∃ c t, s = c :: t ∧ c ≠ 47
 ·
  obtain ⟨c, t, rfl, hc⟩ := hbad
  have HP : Hid (pathS (c :: t) = none) := hid (by show (if c = 47 then _ else none) = none; rw [if_neg hc])
  have hi0 := byte_at (c :: t) 0 (by simp)
  rw [show (c :: t).getD 0 0 = c from rfl] at hi0
  have e0 : ((c.toNat : Int) == 47) = false := u8_beq_no c 47 hc
  have e1 : ((c.toNat : Int) != 47) = true := by rw [bne, e0]; rfl
  clear hc
  go_enter Tryz.func64, Tryz.ntmps64
  go_wp2_with fail
  go_ret2
  exact ⟨.inr ⟨HP.out, rfl⟩, Below.refl _ _⟩
 have HS0 : Hid (s = [] ∨ s.head? = some 47) := hid (by
  cases s with
  | nil => exact .inl rfl
  | cons c t =>
   by_cases hc : c = 47
   ·exact .inr (by rw [hc]; rfl)
   exact absurd ⟨c, t, rfl, hc⟩ hbad)
 have HL := hid hs
 clear hbad
 go_enter Tryz.func64, Tryz.ntmps64
 go_upto_region 2 with fail
 go_cut [13] from 7 to 13 (fun s13 wc => s13 = .bool false ∧ w = wc)
 case first =>
  rcases HS0.out with rfl | h47
  ·
   go_wp2_with fail
   go_meet
   exact ⟨rfl, rfl⟩
  obtain ⟨t, rfl⟩ : ∃ t, s = 47 :: t := by
   cases s with
   | nil => cases h47
   | cons c t => simp only [List.head?_cons, Option.some.injEq] at h47; exact ⟨t, by rw [h47]⟩
  have hi0 := byte_at (47 :: t) 0 (by simp)
  rw [show (47 :: t).getD 0 0 = (47 : UInt8) from rfl] at hi0
  clear h47
  go_wp2_with fail
  go_meet
  exact ⟨rfl, rfl⟩
 obtain ⟨rfl, rfl⟩ := hcut
 have HI0 : Hid (PthI w s 0 (.slice none 0 0) [] w) := hid ⟨NamV.nil _ _, Below.refl _ _, (pathF_eq s HS0.out).symm, by rcases HS0.out with h | h; (exact .inr (.inl (by rw [h]; rfl))); exact .inr (.inr h), Nat.le_refl _, by simp⟩
 go_wp2_with fail
 go_loopg [4, 5, 6] s.length (fun kk s4 s5 s6 wr => ∃ (i : Nat) (v : Value) (out : List (List UInt8)), kk = s.length - i ∧ i ≤ s.length ∧ v = s4 ∧ s5 = .int .i64 (i : Int) ∧ PthI w s i v out wr)
 case atStart => exact ⟨0, _, [], rfl, Nat.zero_le _, rfl, rfl, HI0.out⟩
 obtain ⟨i, v, out, hki, hi, hv4, rfl, hI⟩ := hrel
 subst hv4
 have Hki := hid hki
 have HI := hid hI
 obtain ⟨pv, cv, hfm⟩ := hI.nm.forms
 clear hki hI HI0
 by_cases hlt : i < s.length
 ·
  have hlti : (i : Int) < (s.length : Int) := by omega
  have hij := byte_at s i hlt
  have HD := hid (hdrop9 hlt)
  have HBN : Hid (out.length ≤ 90000000) := hid (by have := HI.out.ln; have := HL.out; omega)
  obtain ⟨i1, hi1⟩ : ∃ k, i + 1 = k := ⟨_, rfl⟩
  have HI1 := hid hi1
  have hw1 : IntKind.i64.wrap ((i : Int) + 1) = (i1 : Int) := by rw [IntWalk.i64_in _ (by have := HL.out; omega)]; omega
  rw [hi1] at HD
  obtain ⟨c, hc⟩ : ∃ c, s.getD i 0 = c := ⟨_, rfl⟩
  rw [hc] at hij HD
  clear hc hi1
  have HEQ : Hid (pathF (s.drop i) out = pathF (c :: s.drop i1) out) := hid (by rw [HD.out])
  have hwl : IntKind.i64.wrap ((out.length : Int) - 1) = (out.length : Int) - 1 := IntWalk.i64_in _ (by have := HBN.out; omega)
  subst hfm
  by_cases h47 : c = 47
  ·
   subst h47
   have HE2 : Hid (pathF (s.drop i) out = pathF (s.drop i1) (out ++ [[]])) := hid (by rw [HEQ.out, pathF_47])
   have hbb := HI.out.be.size
   clear HEQ
   go_wp2_with (at_builtin; go_must (refine wpList_append_name rfl _ _ rfl w.heap.size _ out rfl HI.out.nm [] _ rfl rfl ?hlen hbb ?_))
   case hlen => have := HBN.out; omega
   intro v2 w2 hnv hgr hfr
   obtain ⟨p2, c2, hf2⟩ := hnv.forms
   have HI2 : Hid (PthI w s i1 v2 (out ++ [[]]) w2) := hid ⟨hnv, (HI.out.be.alloc HI.out.be.size _).grown hgr (by rw [World.size_alloc]; have := HI.out.be.size; omega) (fun k hk => (World.ownsRow.lt HI.out.nm k hk).1), HI.out.eq.trans HE2.out, .inl (by simp), by rw [List.length_append, List.length_singleton]; have := HI.out.ln; have := HI1.out; omega, fun q hq => by
    rcases List.mem_append.1 hq with h | h
    ·have := HI.out.few q h; have := HI1.out; omega
    rw [List.mem_singleton.1 h]; simp⟩
   clear hnv hgr hfr HI
   subst hf2
   go_wp2_with fail
   go_roundg (s.length - i1)
   case measure => have := Hki.out; have := HI1.out; omega
   exact ⟨i1, _, _, rfl, by have := HI1.out; omega, rfl, by go_num, HI2.out⟩
  have f47 : ((c.toNat : Int) == 47) = false := u8_beq_no c 47 h47
  have HNE : Hid (out ≠ []) := hid (by
   rcases HI.out.ne with h | h | h
   ·exact h
   ·rw [HD.out] at h; cases h
   rw [HD.out] at h; simp only [List.head?_cons, Option.some.injEq] at h; exact absurd h h47)
  have hol : 0 < out.length := List.length_pos_iff.2 HNE.out
  obtain ⟨la, hla⟩ : ∃ la, out.length - 1 = la := ⟨_, rfl⟩
  have HLA := hid hla
  have hlx : (out.length : Int) - 1 = (la : Int) := by omega
  have hwla : wrap64 (la : Int) = (la : Int) := by have := HBN.out; exact IntWalk.wrap64_in _ (by omega)
  have hlai : (la : Int) < (out.length : Int) := by omega
  obtain ⟨gv, hgv⟩ : ∃ gv, pv = some ⟨gv, 0, none⟩ := by
   rcases HI.out.nm.2 with ⟨h, _⟩ | ⟨g9, c9, _, h, _⟩
   ·injection h with _ h _; omega
   injection h with h _ _; exact ⟨g9, h⟩
  subst hgv
  obtain ⟨q, hq⟩ : ∃ q, out.getD la [] = q := ⟨_, rfl⟩
  have HQ : Hid (out.getD (out.length - 1) [] = q) := hid (by rw [hla]; exact hq)
  have hqc : wr.cell? ⟨gv, la, none⟩ = some (.string ⟨q.toArray⟩) := by
   rw [World.ownsRow.cellAt HI.out.nm la (by omega)]
   unfold txts
   rw [List.getElem?_map, List.getElem?_eq_getElem (by omega), ← hq, List.getD_eq_getElem?_getD, List.getElem?_eq_getElem (by omega)]; rfl
  have hqf : wr.frozen? ⟨gv, la, none⟩ = false := World.ownsRow.frozenAt HI.out.nm la
  have HQL : Hid (q.length ≤ 90000000) := hid (by
   have h9 := HI.out.few q (by rw [← hq, List.getD_eq_getElem?_getD, List.getElem?_eq_getElem (by omega)]; exact List.getElem_mem _)
   have := HL.out; omega)
  clear hq hla hol hwl
  by_cases h126 : c = 126
  rotate_left
  ·
   have f126 : ((c.toNat : Int) == 126) = false := u8_beq_no c 126 h126
   have f126b : ((c.toNat : Int) != 126) = true := by rw [bne, f126]; rfl
   have HE2 : Hid (pathF (s.drop i) out = pathF (s.drop i1) (addL out c)) := hid (by rw [HEQ.out, pathF_let h47 h126])
   have HI2 := hid (HI.out.add rfl HE2.out (by have := HI1.out; omega) HNE.out)
   rw [HQ.out, HLA.out] at HI2
   have hext : (⟨s.toArray⟩ : ByteArray).extract i i1 = ⟨[c].toArray⟩ := by rw [Lib.extract_eq, HD.out, show i1 - i = 1 by have := HI1.out; omega]; rfl
   have hcat := bytes_app q [c]
   have hsm : ¬ 9223372036854775807 < q.length + 1 := by have := HQL.out; omega
   have hj1 : (i1 : Int) ≤ (s.length : Int) := by have := HI1.out; omega
   have hj0 : (i : Int) ≤ (i1 : Int) := by have := HI1.out; omega
   clear h47 h126 HEQ
   go_upto_region 12 with fail
   have HI3 : Hid (PthI w s i1 (.slice (some ⟨gv, 0, none⟩) out.length cv) (addL out c) (wr.drew.setCell ⟨gv, la, none⟩ (.string ⟨(q ++ [c]).toArray⟩))) := hid (by
    have h9 : PthI w s i (.slice (some ⟨gv, 0, none⟩) out.length cv) out wr.drew := ⟨HI.out.nm.below (Below.refl _ _).drew, HI.out.be.drew, HI.out.eq, HI.out.ne, HI.out.ln, HI.out.few⟩
    have h8 := h9.add rfl HE2.out (by have := HI1.out; omega) HNE.out
    rw [HQ.out, HLA.out] at h8
    exact h8)
   have hS0 : (fun wq => wq.cell? ⟨gv, la, none⟩ = some (.string ⟨q.toArray⟩) ∧ wq.frozen? ⟨gv, la, none⟩ = false) wr.drew := ⟨hqc, hqf⟩
   clear HI2 HI
   refine wp_region_heldT [13] (S := (fun wq => wq.cell? ⟨gv, la, none⟩ = some (.string ⟨q.toArray⟩) ∧ wq.frozen? ⟨gv, la, none⟩ = false)) (by kernel_rfl) hS0 (fun hHeld0 => ?_)
   obtain ⟨wd, hwd⟩ : ∃ wd, wr.drew = wd := ⟨_, rfl⟩
   rw [hwd] at HI3 hHeld0 ⊢
   have hqc : wd.cell? ⟨gv, la, none⟩ = some (.string ⟨q.toArray⟩) := hHeld0.1
   have hqf : wd.frozen? ⟨gv, la, none⟩ = false := hHeld0.2
   clear hwd hS0
   refine heldT_ta 0 hHeld0 ?_
   refine heldT_ta 1 hHeld0 ?_
   refine heldT_ta 2 hHeld0 ?_
   refine heldT_ta 3 hHeld0 ?_
   refine heldT_ta 4 hHeld0 ?_
   refine heldT_ta 5 hHeld0 ?_
   refine heldT_ta 6 hHeld0 ?_
   refine heldT_ta 7 hHeld0 ?_
   refine heldT_ta 8 hHeld0 ?_
   refine heldT_ta 9 hHeld0 ?_
   refine heldT_ta 10 hHeld0 ?_
   refine heldT_ta 11 hHeld0 ?_
   refine heldT_ta 12 hHeld0 ?_
   refine heldT_late ?_
   clear hHeld0
   have hHeld1 : True := trivial
   refine held_st 13 rfl (fun K hK => ?_)
   go_simp
   refine hK.out _ _ trivial (fun hHeld2 => ?_)
   clear hK K hHeld1
   refine wpAnyH_done (by kernel_rfl) ?_ _
   clear hHeld2
   clear hqc hqf
   go_wp2_with fail
   go_roundg (s.length - i1)
   case measure => have := Hki.out; have := HI1.out; omega
   exact ⟨i1, _, _, rfl, by have := HI1.out; omega, rfl, by go_num, HI3.out⟩
  subst h126
  have HE1 : Hid (pathF (s.drop i) out = pathF (126 :: s.drop i1) out) := hid HEQ.out
  clear h47 HEQ f47
  by_cases hl1 : i1 < s.length
  rotate_left
  ·
   have hl1i : ¬ (i1 : Int) < (s.length : Int) := by omega
   have hd1 : s.drop i1 = [] := List.drop_of_length_le (by omega)
   have HD1 := hid hd1
   clear hl1 hd1
   have HP : Hid (pathS s = none) := hid (by rw [HI.out.eq, HE1.out]; rw [HD1.out, pathF_end])
   go_wp2_with fail
   go_ret2
   exact ⟨.inr ⟨HP.out, rfl⟩, HI.out.be⟩
  have hl1i : (i1 : Int) < (s.length : Int) := by omega
  have hij1 := byte_at s i1 hl1
  have HD1 := hid (hdrop9 hl1)
  obtain ⟨i2, hi2⟩ : ∃ k, i1 + 1 = k := ⟨_, rfl⟩
  have HI2X := hid hi2
  rw [hi2] at HD1
  have hw2 : IntKind.i64.wrap ((i1 : Int) + 1) = (i2 : Int) := by rw [IntWalk.i64_in _ (by have := HL.out; omega)]; omega
  obtain ⟨d, hd⟩ : ∃ d, s.getD i1 0 = d := ⟨_, rfl⟩
  rw [hd] at hij1 HD1
  have HI2L : Hid (i2 ≤ s.length) := hid (by omega)
  clear hd hi2
  by_cases e48 : d = 48
  ·
   subst e48
   have HE2 : Hid (pathF (s.drop i) out = pathF (s.drop i2) (addL out 126)) := hid (by rw [HE1.out, HD1.out, pathF_48])
   have HI2 := hid (HI.out.add rfl HE2.out (by have := HI1.out; have := HI2X.out; omega) HNE.out)
   rw [HQ.out, HLA.out] at HI2
   have hcat := bytes_app q [126]
   have hsm : ¬ 9223372036854775807 < q.length + 1 := by have := HQL.out; omega
   clear HE1 HE2
   go_wp2_with fail
   go_roundg (s.length - i2)
   case measure => have := Hki.out; have := HI1.out; have := HI2X.out; have := HI2L.out; omega
   exact ⟨i2, _, _, rfl, HI2L.out, rfl, by go_num, HI2.out⟩
  have f48 : ((d.toNat : Int) == 48) = false := u8_beq_no d 48 e48
  by_cases e49 : d = 49
  ·
   subst e49
   have HE2 : Hid (pathF (s.drop i) out = pathF (s.drop i2) (addL out 47)) := hid (by rw [HE1.out, HD1.out, pathF_49])
   have HI2 := hid (HI.out.add rfl HE2.out (by have := HI1.out; have := HI2X.out; omega) HNE.out)
   rw [HQ.out, HLA.out] at HI2
   have hcat := bytes_app q [47]
   have hsm : ¬ 9223372036854775807 < q.length + 1 := by have := HQL.out; omega
   clear HE1 HE2
   go_wp2_with fail
   go_roundg (s.length - i2)
   case measure => have := Hki.out; have := HI1.out; have := HI2X.out; have := HI2L.out; omega
   exact ⟨i2, _, _, rfl, HI2L.out, rfl, by go_num, HI2.out⟩
  have f49 : ((d.toNat : Int) == 49) = false := u8_beq_no d 49 e49
  have HN : Hid (¬ d = 48 ∧ ¬ d = 49) := hid ⟨e48, e49⟩
  clear e48 e49
  have HP : Hid (pathS s = none) := hid (by rw [HI.out.eq, HE1.out]; rw [HD1.out, pathF_bad HN.out.1 HN.out.2])
  go_wp2_with fail
  go_ret2
  exact ⟨.inr ⟨HP.out, rfl⟩, HI.out.be⟩
 have hlti : ¬ (i : Int) < (s.length : Int) := by omega
 have HP : Hid (pathS s = some out) := hid (by rw [HI.out.eq, List.drop_of_length_le (by omega)]; rfl)
 subst hfm
 go_wp2_with fail
 go_ret2
 exact ⟨.inl ⟨out, _, HP.out, rfl, HI.out.nm⟩, HI.out.be⟩
open Go.RowKit
/-! ### DecM -/
/-! ### Dec6 -/
/-! ### Pla3 -/
/-! ### Ref5 -/
/-! ### IntL -/
/-! ### Int1 -/
theorem gRange : Tryz.prog.globalNamed "strconv.ErrRange" = some 4 := by kernel_rfl
/-! ### Int2 -/
open Go.RowKit
def placeV (s : List UInt8) : Int := if s.length < 1 ∨ 9 < s.length ∨ (s.getD 0 0 = 48 ∧ 1 < s.length) then -1 else if digAll s = true then (dval s : Int) else -1
theorem placeV_no {s : List UInt8} (h : s.length < 1 ∨ 9 < s.length ∨ (s.getD 0 0 = 48 ∧ 1 < s.length)) : placeV s = -1 := by rw [placeV, if_pos h]
theorem placeV_dig {s : List UInt8} (h : ¬ (s.length < 1 ∨ 9 < s.length ∨ (s.getD 0 0 = 48 ∧ 1 < s.length))) : placeV s = if digAll s = true then (dval s : Int) else -1 := by rw [placeV, if_neg h]
theorem dval_few {l : List UInt8} (h : digAll l = true) : dval l < 10 ^ l.length := dval_lt ((digAll_iff l).1 h)
theorem place_calls (w : World) (s : List UInt8) (hs : s.length ≤ 1000000000) : Calls Tryz.prog 65 #[.string ⟨s.toArray⟩] w fun e w' => e = .returned (.int .i64 (placeV s)) ∧ w = w' := by
 cases s with
 | nil =>
  have HP : Hid (placeV [] = -1) := hid (placeV_no (.inl (by simp)))
  go_enter Tryz.func65, Tryz.ntmps65
  go_wp2_with fail
  go_ret
  exact ⟨by rw [HP.out]; rfl, rfl⟩
 | cons c t =>
  simp only [List.length_cons] at hs
  by_cases h9 : 9 < t.length + 1
  ·have HP : Hid (placeV (c :: t) = -1) := hid (placeV_no (.inr (.inl (by simpa using h9))))
   have h9i : (9 : Int) < (t.length : Int) + 1 := by omega
   have h1i : ¬ ((t.length : Int) + 1 < 1) := by omega
   clear h9
   go_enter Tryz.func65, Tryz.ntmps65
   go_wp2_with fail
   go_ret
   exact ⟨by rw [HP.out]; rfl, rfl⟩
  have h9i : ¬ (9 : Int) < (t.length : Int) + 1 := by omega
  have h1i : ¬ ((t.length : Int) + 1 < 1) := by omega
  have hi0 := may_at (c :: t) 0 (by simp)
  rw [show (c :: t).getD 0 0 = c from rfl] at hi0
  by_cases hc : c = 48 ∧ 1 < t.length + 1
  ·obtain ⟨rfl, ht⟩ := hc
   have HP : Hid (placeV (48 :: t) = -1) := hid (placeV_no (.inr (.inr ⟨rfl, by simpa using ht⟩)))
   have hti : (1 : Int) < (t.length : Int) + 1 := by omega
   clear h9 ht
   go_enter Tryz.func65, Tryz.ntmps65
   go_wp2_with fail
   go_ret
   exact ⟨by rw [HP.out]; rfl, rfl⟩
  have HP : Hid (placeV (c :: t) = if digAll (c :: t) = true then (dval (c :: t) : Int) else -1) := hid (placeV_dig (fun h => by
   rcases h with h | h | h
   ·simp at h
   ·simp only [List.length_cons] at h; omega
   exact hc (by simpa using h)))
  obtain ⟨PV, hPV⟩ : ∃ z, placeV (c :: t) = z := ⟨_, rfl⟩
  rw [hPV] at HP ⊢
  clear hPV
  go_enter Tryz.func65, Tryz.ntmps65
  go_upto_region 1 with fail
  go_cut [22] from 5 to 22 (fun s22 wc => s22 = .bool false ∧ w = wc)
  case first =>
   by_cases e : c = 48
   ·have hti : ¬ (1 : Int) < (t.length : Int) + 1 := fun h => hc ⟨e, by omega⟩
    have e0 : ((c.toNat : Int) == 48) = true := by rw [e]; rfl
    clear hc e h9
    go_wp2_with fail
    go_meet
    exact ⟨rfl, rfl⟩
   have e0 : ((c.toNat : Int) == 48) = false := by
    rw [beq_eq_false_iff_ne]
    intro h
    exact e (UInt8.toNat_inj.1 (by have : c.toNat = 48 := by omega
                                   rw [this]; rfl))
   clear hc e h9
   go_wp2_with fail
   go_meet
   exact ⟨rfl, rfl⟩
  obtain ⟨rfl, rfl⟩ := hcut
  have HLN : Hid ((c :: t).length ≤ 9) := hid (by simp only [List.length_cons]; omega)
  clear hi0 hc h9 h9i h1i
  generalize hsq : c :: t = q at *
  clear hsq
  have hqs : q.length ≤ 1000000000 := by have := HLN.out; omega
  go_wp2_with fail
  go_loopg [3, 4] q.length (fun k n i wr => ∃ j : Nat, k = q.length - j ∧ j ≤ q.length ∧ i = .int .i64 j ∧ n = .int .i64 (dval (q.take j) : Int) ∧ digAll (q.take j) = true ∧ w = wr)
  case atStart => exact ⟨0, rfl, by omega, rfl, rfl, rfl, rfl⟩
  obtain ⟨j, hk, hj, rfl, rfl, hd, rfl⟩ := hrel
  have Hk := hid hk
  have Hd := hid hd
  clear hk hd
  by_cases hlt : j < q.length
  ·have hlt' : (j : Int) < q.length := by omega
   have hij := may_at q j hlt
   have Hs := hid (digAll_snoc q j hlt Hd.out)
   have Hn := hid (fun h => digAll_not q j hlt h)
   have hts := congrArg dval (take_snoc8 q j hlt)
   rw [dval_snoc] at hts
   have Hts := hid hts
   have hf9 := dval_few Hd.out
   rw [List.length_take, Nat.min_eq_left hj] at hf9
   have hp9 : 10 ^ j ≤ 10 ^ 9 := Nat.pow_le_pow_right (by decide) (by have := HLN.out; omega)
   have hb9 : dval (q.take j) < 1000000000 := Nat.lt_of_lt_of_le hf9 hp9
   have hc : (q.getD j 0).toNat < 256 := (q.getD j 0).toNat_lt
   have Hb : Hid (digB (q.getD j 0) = (decide (48 ≤ (q.getD j 0).toNat) && decide ((q.getD j 0).toNat ≤ 57))) := rfl
   clear hts hf9 hp9
   generalize q.getD j 0 = c at *
   generalize dval (q.take j) = v at *
   by_cases h1 : c.toNat < 48
   ·have h1' : decide ((c.toNat : Int) < 48) = true := by simp; omega
    have HN : Hid (digAll q = false) := hid (Hn.out (by rw [Hb.out]; simp; omega))
    go_wp2_with fail
    go_ret
    exact ⟨by rw [HP.out, HN.out]; rfl, rfl⟩
   have h1' : decide ((c.toNat : Int) < 48) = false := by simp; omega
   by_cases h2 : 57 < c.toNat
   ·have h2' : decide ((57 : Int) < (c.toNat : Int)) = true := by simp; omega
    have HN : Hid (digAll q = false) := hid (Hn.out (by rw [Hb.out]; simp; omega))
    go_wp2_with fail
    go_ret
    exact ⟨by rw [HP.out, HN.out]; rfl, rfl⟩
   have h2' : decide ((57 : Int) < (c.toNat : Int)) = false := by simp; omega
   go_wp2_with fail
   go_roundg (q.length - (j + 1))
   case measure => have := Hk.out; omega
   exact ⟨j + 1, rfl, by omega, by go_num, by rw [Hts.out]; congr 1; omega, Hs.out (by rw [Hb.out]; simp; omega), rfl⟩
  obtain rfl : j = q.length := by omega
  have hall := Hd.out
  rw [List.take_of_length_le (Nat.le_refl _)] at hall ⊢
  have HA := hid hall
  clear Hk Hd hj hlt hall
  go_wp2_with fail
  go_ret
  exact ⟨by rw [HP.out, if_pos HA.out]; rfl, rfl⟩
open Go.RowKit
def getJ (v : J) (u : List UInt8) : Option J := if u ∈ v.ns then v.l[v.ns.idxOf u]? else none
theorem idxOf_at {u : List UInt8} : ∀ (ns : List (List UInt8)) (i : Nat), ns[i]? = some u → u ∉ ns.take i → ns.idxOf u = i
 | [], i, h, _ => by simp at h
 | a :: t, 0, h, _ => by simp only [List.getElem?_cons_zero, Option.some.injEq] at h; subst h; exact List.idxOf_cons_self
 | a :: t, i + 1, h, hn => by
  simp only [List.getElem?_cons_succ] at h
  simp only [List.take_succ_cons, List.mem_cons, not_or] at hn
  rw [List.idxOf_cons, show (a == u) = false by rw [beq_eq_false_iff_ne]; exact fun e => hn.1 e.symm, idxOf_at t i h hn.2]; rfl
def GetTo (w0 : World) (S : Nat → Prop) (v : J) (u : List UInt8) (w : World) (e : Ending) (w' : World) : Prop :=
 ((∃ r, getJ v u = some r.1 ∧ r.1 ∈ v.l ∧ JV w0 S r ∧ e = .returned (.tuple #[jval r, .bool true])) ∨ (getJ v u = none ∧ e = .returned (.tuple #[jval jzero, .bool false]))) ∧ Below w.heap.size w w'
theorem getR_calls {w0 : World} {S1 : Nat → Prop} {r1 : JR} (h1 : JV w0 S1 r1) (w : World) (hb : Below w0.heap.size w0 w) (hk : r1.1.ns ≠ [] → r1.1.ns.length = r1.1.l.length) (hsz : szJ r1.1 ≤ 100000000) (u : List UInt8) :
  Calls Tryz.prog 26 #[jval r1, .string ⟨u.toArray⟩] w (GetTo w0 S1 r1.1 u w) := by
 cases h1 with
 | mk _ xs hn1 hl1 hs1 =>
  obtain ⟨⟨k, b, n, t, l, ns⟩, lv0, nv0⟩ := r1
  obtain ⟨p1, c1, hp1, hc1, hm1, hL1⟩ := hl1
  change lv0 = Value.slice p1 l.length c1 at hp1
  obtain ⟨q1, e1, hq1, hcn1, hkm1, hN1⟩ := hn1
  change nv0 = Value.slice q1 ns.length e1 at hq1
  subst hp1 hq1
  simp only [J.l] at hm1 hL1 hc1
  simp only [J.ns] at hN1
  simp only [szJ] at hsz
  have hln : l.length ≤ 100000000 := by have := szL_len l; omega
  have hnn : ns.length ≤ 100000000 := by have := szN_len ns; omega
  change ns ≠ [] → ns.length = l.length at hk
  obtain ⟨R1, hR1⟩ : ∃ R : JR, ((J.mk k b n t l ns, Value.slice p1 l.length c1, Value.slice q1 ns.length e1) : JR) = R := ⟨_, rfl⟩
  have HCC : Hid (∀ (W : World) (g : Nat), RowAt W g (jcells R1) → W.cell? ⟨g, 6, none⟩ = some (Value.slice p1 l.length c1) ∧ W.cell? ⟨g, 7, none⟩ = some (Value.slice q1 ns.length e1)) := hid (fun W g h => by subst hR1; exact ⟨h.cell 6 _ rfl, h.cell 7 _ rfl⟩)
  have HB := hid hb
  have HK := hid hk
  have HPIC : Hid (∀ (i : Nat) (hi : i < l.length), ∃ gl fl, p1 = some ⟨gl, fl, none⟩ ∧ ∃ x, l[i]? = some x ∧ JV w0 S1 (x, xs i) ∧ ∀ W, Below w0.heap.size w0 W → W.rangeAt gl (fl + i * 8) (jcells (x, xs i))) := hid (fun i hi => by
   obtain ⟨gl, fl, e, _, hgl, hcs⟩ := hL1 (by omega)
   refine ⟨gl, fl, e, l[i], List.getElem?_eq_getElem hi, hs1 i _ (List.getElem?_eq_getElem hi), fun W hW c v hc => ?_⟩
   have hc8 : c < 8 := (List.getElem?_eq_some_iff.1 hc).1
   rw [hW.cell (p := ⟨gl, fl + i * 8 + c, none⟩) hgl, hcs i _ (List.getElem?_eq_getElem hi) c hc8]; exact hc)
  have HNAM : Hid (∀ (i : Nat) (hi : i < ns.length), ∃ gn fn, q1 = some ⟨gn, fn, none⟩ ∧ ∃ s, ns[i]? = some s ∧ ∀ W, Below w0.heap.size w0 W → W.cell? ⟨gn, fn + i, none⟩ = some (.string ⟨s.toArray⟩)) := hid (fun i hi => by
   obtain ⟨gn, fn, e, _, hgn, hns⟩ := hN1 (by omega)
   exact ⟨gn, fn, e, ns[i], List.getElem?_eq_getElem hi, fun W hW => (hW.cell (p := ⟨gn, fn + i, none⟩) hgn).trans (hns i _ (List.getElem?_eq_getElem hi))⟩)
  have HGE : Hid (getJ R1.1 u = if u ∈ ns then l[ns.idxOf u]? else none) := hid (by rw [← hR1]; rfl)
  have HRL : Hid (R1.1.l = l) := hid (by rw [← hR1]; rfl)
  rw [hR1]
  clear hR1 hL1 hN1 hb hs1 hsz hcn1 hkm1 hc1 hm1 hk
  go_enter Tryz.func26, Tryz.ntmps26
  go_upto_region 1 with (first | (refine wpList_boxJ rfl _ rfl R1 rfl ?_; intro w1 hBx) | (refine wpList_allocJ rfl rfl ?_; intro w2 hBy))
  have HV := hid (hBx.row.below hBy.be)
  have HR := hid hBy.row
  have HW1 : Hid (Below w.heap.size w w2) := hid (hBy.below hBx.be hBx.be.size)
  have HW : Hid (Below w0.heap.size w0 w2) := hid (HB.out.trans (HW1.out.mono HB.out.size))
  have hz := hBx.size
  obtain ⟨g1, hg1⟩ : ∃ g, w.heap.size = g := ⟨_, rfl⟩
  obtain ⟨g2, hg2⟩ : ∃ g, w1.heap.size = g := ⟨_, rfl⟩
  have HG : Hid (w.heap.size = g1 ∧ g2 = g1 + 1) := hid ⟨hg1, by omega⟩
  rw [hg1] at HV ⊢
  rw [hg2] at HR ⊢
  clear hBx hBy hg1 hg2 hz
  obtain ⟨k6, k7⟩ := HCC.out _ _ HV.out
  go_wp2_with fail
  go_loopg [6] ns.length (fun kk s6 wr => ∃ i : Nat, kk = ns.length - i ∧ i ≤ ns.length ∧ s6 = .int .i64 (i : Int) ∧ u ∉ ns.take i ∧ w2 = wr)
  case atStart => exact ⟨0, rfl, Nat.zero_le _, rfl, by simp, rfl⟩
  obtain ⟨i, hki, hi, rfl, hnt, rfl⟩ := hrel
  have Hki := hid hki
  have HNT := hid hnt
  clear hki hnt
  by_cases hlt : i < ns.length
  ·have hlti : (i : Int) < (ns.length : Int) := by omega
   obtain ⟨gn, fn, rfl, s, hs, hsc⟩ := HNAM.out i hlt
   have s0 := hsc _ HW.out
   have HS := hid hs
   clear hs hsc
   by_cases hsu : s = u
   ·subst hsu
    have hxx : ((⟨s.toArray⟩ : ByteArray) == ⟨s.toArray⟩) = true := by rw [bytes_beq]; exact decide_eq_true rfl
    have hil : i < l.length := by rw [← HK.out (fun e => by rw [e] at hlt; simp at hlt)]; exact hlt
    have hili : (i : Int) < (l.length : Int) := by omega
    obtain ⟨gl, fl, rfl, x, hx, hJx, hra⟩ := HPIC.out i hil
    have HX := hid hx
    have HJ := hid hJx
    have hra0 := hra _ HW.out
    have HSJ := hid hJx.slJ
    have HS0 : Hid (getJ R1.1 s = l[i]?) := hid (by rw [HGE.out, if_pos (List.mem_of_getElem? HS.out), idxOf_at ns i HS.out HNT.out])
    clear hx hJx hra
    go_wp2_with (first | with_reducible refine stop_ret ?_ | refine wpList_loadMd rfl _ rfl (x, xs i) hra0 rfl ?_ | (refine wpList_storeJ rfl _ _ rfl rfl HR.out rfl (x, xs i) HSJ.out rfl rfl ?_; intro wS hSx))
    refine hid ?_
    refine bodyPost_retJt (x, xs i) rfl rfl rfl rfl hSx.row ?_
    exact ⟨.inl ⟨(x, xs i), by rw [HS0.out]; exact HX.out, by rw [HRL.out]; exact List.mem_of_getElem? HX.out, HJ.out, rfl⟩, hSx.below HW1.out (by have := HG.out; omega) HW1.out.size⟩
   have hxx : ((⟨s.toArray⟩ : ByteArray) == ⟨u.toArray⟩) = false := by rw [bytes_beq]; exact decide_eq_false hsu
   have hxy : ¬ (⟨s.toArray⟩ : ByteArray) = ⟨u.toArray⟩ := fun e => hsu (by simpa using e)
   have HNE : Hid (¬ u = s) := hid (fun e => hsu e.symm)
   have hxz : (s == u) = false := beq_eq_false_iff_ne.2 hsu
   clear hsu hxx hxy
   go_wp2_with fail
   go_roundg (ns.length - (i + 1))
   case measure => have := Hki.out; omega
   exact ⟨i + 1, rfl, by omega, by go_num, by rw [List.take_add_one, HS.out]; simp only [Option.toList_some, List.mem_append, List.mem_singleton, not_or]; exact ⟨HNT.out, HNE.out⟩, rfl⟩
  have hlti : ¬ (i : Int) < (ns.length : Int) := by omega
  have HS0 : Hid (getJ R1.1 u = none) := hid (by rw [HGE.out, if_neg (by have h9 := HNT.out; rw [List.take_of_length_le (by omega)] at h9; exact h9)])
  clear hlt
  go_wp2_with (first | with_reducible refine stop_ret ?_ | (refine wpList_storeJ rfl _ _ rfl rfl HR.out rfl jzero slJ_zero rfl rfl ?_; intro wS hSx))
  refine hid ?_
  refine bodyPost_retJt jzero rfl rfl rfl rfl hSx.row ?_
  exact ⟨.inr ⟨HS0.out, rfl⟩, hSx.below HW1.out (by have := HG.out; omega) HW1.out.size⟩
end Go.Proofs.YtfclfaidmipjpaaGreatDoor
