/- Texts of this claim, joined: Rix, Gep, Wkp, Pat, Gos. -/
import Derived.Test.YtfclfaidmipjpaaGreatDoorWa01
namespace Go.Proofs.YtfclfaidmipjpaaGreatDoor
set_option maxRecDepth 100000
set_option maxHeartbeats 20000000
open Go.Lib (hid)
open Go.RowKit
theorem region_in_heldT {P : Program} {ops : Array Oper} {Q : Exit → Act → World → Prop} {l n : Nat} {S : World → Prop} (late : List Nat) {id : Nat} {a : Act} {w : World} (hd : NoDefer ops = true) (hq : ¬ LetsOut Q) (hm : P.follows .mixedOrders = true) (hS : S w.drew)
  (h : S w.drew → wpAnyT P .any ops Q S late ops.size (Array.replicate ops.size false) a w.drew) : (Code.region id ops true).wpIn (Fence.wide.inRound l) n P Q a w :=
 wpIn_region_any hm (any_in hd hq _ _ _ _ (wpAny_of_T _ _ _ _ (h hS)))
theorem oper_allocJ {w : World} {o : Oper} {a : Act} {Q : Exit → Act → World → Prop} {K : Act → World → Prop} (ho : o.op = .alloc 30)
  (hK : ∀ w', Bx w w' jzero → K (a.put o.dst (.pointer (some ⟨w.heap.size, 0, none⟩))) w') : Oper.wp Tryz.prog o a w K Q := by
 have hrun := run_allocJ w
 unfold Oper.wp
 simp [execOp, ho, hrun, Oper.upon]
 exact hK _ (Bx.of w jzero)
open Go.RowKit
def getV (v : J) (u : List UInt8) : J × Bool := if checkJ v = 0 then (match getJ v u with | some x => (x, true) | none => (J.zero, false)) else (J.zero, false)
def GepTo (w : World) (q : J × Bool) (e : Ending) (w' : World) : Prop := ∃ lv nv, e = .returned (.tuple #[jval (q.1, lv, nv), .bool q.2]) ∧ JV w' (fun k => w.heap.size ≤ k) (q.1, lv, nv) ∧ Below w.heap.size w w'
theorem GepTo.no {w W wS : World} {q : J × Bool} {g : Nat} (hq : q = (J.zero, false)) (hb : Below w.heap.size w W) (h : Sx W wS g jzero) (hg : w.heap.size ≤ g) : GepTo w q (.returned (.tuple #[jval jzero, .bool false])) wS := by
 subst hq
 exact ⟨.slice none 0 0, .slice none 0 0, rfl, JV.zero _ _, h.below hb hg hb.size⟩
theorem getP_calls {w0 : World} {S1 : Nat → Prop} {r1 : JR} (h1 : JV w0 S1 r1) (hTab : Tab w0) (hT : Lib.Utf8Tabs 0 1 w0) (w : World) (hb : Below w0.heap.size w0 w) (hsz : szJ r1.1 ≤ 20000000) (u : List UInt8) :
  Calls Tryz.prog 20 #[jval r1, .string ⟨u.toArray⟩] w (GepTo w (getV r1.1 u)) := by
 have hJ := h1
 cases h1 with
 | mk _ xs hn1 hl1 hs1 =>
  obtain ⟨⟨k, b, n, t, l, ns⟩, lv0, nv0⟩ := r1
  have hn0 := hn1
  have hsz0 := hsz
  obtain ⟨p1, c1, hp1, hc1, hm1, hL1⟩ := hl1
  change lv0 = Value.slice p1 l.length c1 at hp1
  obtain ⟨q1, e1, hq1, hcn1, hkm1, hN1⟩ := hn1
  change nv0 = Value.slice q1 ns.length e1 at hq1
  subst hp1 hq1
  simp only [J.l] at hm1 hL1 hc1
  simp only [szJ] at hsz
  have hln : l.length ≤ 100000000 := by have := szL_len l; omega
  have hnn : ns.length ≤ 100000000 := by have := szN_len ns; omega
  change NamS w0 S1 (Value.slice q1 ns.length e1) ns at hn0
  obtain ⟨R1, hR1⟩ : ∃ R : JR, ((J.mk k b n t l ns, Value.slice p1 l.length c1, Value.slice q1 ns.length e1) : JR) = R := ⟨_, rfl⟩
  have HCC : Hid (∀ (W : World) (g : Nat), RowAt W g (jcells R1) → RowAt W g [.int .i64 k, .bool b, .bool n.neg, .string ⟨n.digits.toArray⟩, .int .i64 n.exp, .string ⟨t.toArray⟩, .slice p1 l.length c1, .slice q1 ns.length e1]) := hid (fun W g h => by subst hR1; exact h)
  have HPIC : Hid (∀ (i : Nat) (hi : i < l.length), ∃ gl fl, p1 = some ⟨gl, fl, none⟩ ∧ ∃ x, l[i]? = some x ∧ JV w0 S1 (x, xs i) ∧ ∀ W, Below w0.heap.size w0 W → W.rangeAt gl (fl + i * 8) (jcells (x, xs i))) := hid (fun i hi => by
   obtain ⟨gl, fl, e, _, hgl, hcs⟩ := hL1 (by omega)
   refine ⟨gl, fl, e, l[i], List.getElem?_eq_getElem hi, hs1 i _ (List.getElem?_eq_getElem hi), fun W hW c v hc => ?_⟩
   have hc8 : c < 8 := (List.getElem?_eq_some_iff.1 hc).1
   rw [hW.cell (p := ⟨gl, fl + i * 8 + c, none⟩) hgl, hcs i _ (List.getElem?_eq_getElem hi) c hc8]; exact hc)
  have HN0 := hid hn0
  have HB := hid hb
  have HV1 : Hid (R1.1 = J.mk k b n t l ns ∧ jval R1 = .agg #[.int .i64 k, .bool b, .bool n.neg, .string ⟨n.digits.toArray⟩, .int .i64 n.exp, .string ⟨t.toArray⟩, .slice p1 l.length c1, .slice q1 ns.length e1]) := hid (by subst hR1; exact ⟨rfl, rfl⟩)
  rw [hR1] at hJ ⊢
  have HJ := hid hJ
  have HSZ : Hid (szJ R1.1 ≤ 20000000) := hid (by rw [HV1.out.1]; exact hsz0)
  have HSL : Hid (szL l ≤ 20000000) := hid (by omega)
  clear hR1 hL1 hs1 hsz hsz0 hcn1 hkm1 hc1 hm1 hn0 hb hJ hN1
  obtain ⟨QA, hQA⟩ : ∃ q, getV R1.1 u = q := ⟨_, rfl⟩
  have HQ := hid hQA
  rw [hQA]
  clear hQA
  go_enter Tryz.func20, Tryz.ntmps20
  go_upto_region 1 with (first | (refine wpList_boxJ rfl _ rfl R1 rfl ?_; intro w1 hBx) | (refine wpList_allocJ rfl rfl ?_; intro w2 hBy))
  have HV := hid (hBx.row.below hBy.be)
  have HR := hid hBy.row
  have HW1 : Hid (Below w.heap.size w w2) := hid (hBy.below hBx.be hBx.be.size)
  have HW : Hid (Below w0.heap.size w0 w2) := hid (HB.out.trans (HW1.out.mono HB.out.size))
  have hz := hBx.size
  obtain ⟨g1, hg1⟩ : ∃ g, w.heap.size = g := ⟨_, rfl⟩
  obtain ⟨g2, hg2⟩ : ∃ g, w1.heap.size = g := ⟨_, rfl⟩
  have HG : Hid (w.heap.size = g1 ∧ g2 = g1 + 1) := hid ⟨hg1, by omega⟩
  rw [hg1] at HV ⊢
  rw [hg2] at HR ⊢
  clear hBx hBy hg1 hg2 hz
  have k7 : _ = some (Value.slice q1 ns.length e1) := (HCC.out _ _ HV.out).cell 7 _ rfl
  go_wp2_with fail
  refine (index_calls (HN0.out.below HW.out) (by omega) u).mono ?_
  rintro e wq ⟨rfl, rfl⟩
  clear k7
  by_cases hm : u ∈ ns
  ·rw [if_pos hm]
   obtain ⟨i, hi⟩ : ∃ i, ns.idxOf u = i := ⟨_, rfl⟩
   have hGI : getJ R1.1 u = l[i]? := by rw [HV1.out.1, getJ]; show (if u ∈ ns then l[ns.idxOf u]? else none) = _; rw [if_pos hm, hi]
   have HGI := hid hGI
   have HIN : Hid (i < ns.length) := hid (by rw [← hi]; exact List.idxOf_lt_length_iff.2 hm)
   rw [hi]
   have hneg : ¬ (i : Int) < 0 := by omega
   clear hi hm hGI
   obtain ⟨c, hc⟩ : ∃ c, checkJ R1.1 = c := ⟨_, rfl⟩
   have HC := hid hc
   clear hc
   have k0 := (HCC.out _ _ HV.out).cell 0 _ rfl
   have k1 := (HCC.out _ _ HV.out).cell 1 _ rfl
   have k2 := (HCC.out _ _ HV.out).cell 2 _ rfl
   have k3 := (HCC.out _ _ HV.out).cell 3 _ rfl
   have k4 := (HCC.out _ _ HV.out).cell 4 _ rfl
   have k5 := (HCC.out _ _ HV.out).cell 5 _ rfl
   have k6 := (HCC.out _ _ HV.out).cell 6 _ rfl
   have k7 := (HCC.out _ _ HV.out).cell 7 _ rfl
   go_wp2_with fail
   rw [← HV1.out.2]
   refine (checkJ_calls HJ.out hTab hT wq HW.out HSZ.out).mono ?_
   rintro e w3 ⟨rfl, hb3⟩
   rw [HC.out]
   have HV3 := hid (HV.out.below hb3)
   have HR3 := hid (HR.out.below hb3)
   have HW3 := hid (HW1.out.trans (hb3.mono HW1.out.size))
   have HWW := hid (HW.out.trans (hb3.mono HW.out.size))
   clear k0 k1 k2 k3 k4 k5 k6 k7 hb3 HV HR HW HW1
   by_cases hc : c = 0
   ·subst hc
    have HGD : Hid (goodJ R1.1 = true) := hid (checkJ_zero.1 HC.out).1
    have hil : i < l.length := by
     have h5 := (cp_len (so := false) (by rw [← HV1.out.1]; exact HGD.out : goodJ (J.mk k b n t l ns) = true)).2
     by_cases hk5 : k = 5
     ·rw [← (h5 hk5).1]; exact HIN.out
     exfalso
     have h6 := (good_head (by rw [← HV1.out.1]; exact HGD.out : goodJ (J.mk k b n t l ns) = true)).2.2.2.2.1.resolve_left hk5
     have := HIN.out
     rw [h6] at this; simp at this
    have hili : (i : Int) < (l.length : Int) := by omega
    obtain ⟨gl, fl, rfl, x, hx, hJx, hra⟩ := HPIC.out i hil
    have HX := hid hx
    have HJX := hid hJx
    have hra0 := hra _ HWW.out
    have HGX : Hid (goodJ x = true) := hid ((goodL_iff l).1 (good_head (by rw [← HV1.out.1]; exact HGD.out : goodJ (J.mk k b n t l ns) = true)).2.2.2.2.2.2.2.1 x (List.mem_of_getElem? hx))
    have HZX : Hid (szJ x ≤ 100000000) := hid (by have := szL_in hx; have := HSL.out; omega)
    have HA : Hid (QA = (x, true)) := hid (by rw [← HQ.out, getV, if_pos HC.out, HGI.out, HX.out])
    have k6 : _ = some (Value.slice (some ⟨gl, fl, none⟩) l.length c1) := (HCC.out _ _ HV3.out).cell 6 _ rfl
    clear hx hJx hra
    go_wp2_with (refine wpList_loadMd rfl _ rfl (x, xs i) hra0 rfl ?_)
    refine (copied_calls HJX.out false w3 HWW.out HGX.out HZX.out).mono ?_
    rintro e w4 ⟨lv, nv, rfl, hJc, hb4⟩
    have HR4 := hid (HR3.out.below hb4)
    have HW4 := hid (HW3.out.trans (hb4.mono HW3.out.size))
    have HJC := hid hJc
    have HS4 := hid hJc.slJ
    have HLO : Hid (g2 < w3.heap.size) := hid HR3.out.lt
    clear k6 hra0 hJc hb4 HV3 HR3
    go_wp2_with (first | with_reducible refine stop_ret ?_ | (refine wpList_storeJ rfl _ _ rfl rfl HR4.out rfl (cpJ false x, lv, nv) HS4.out rfl rfl ?_; intro wS hSx))
    refine hid ?_
    refine bodyPost_retJt (cpJ false x, lv, nv) rfl rfl rfl rfl hSx.row ?_
    rw [HA.out]
    exact ⟨lv, nv, rfl, (HJC.out.apart hSx.apart (fun k hk _ e => by have := HLO.out; omega)).mono (fun k _ hk => Nat.le_trans HW3.out.size hk), hSx.below HW4.out (by have := HG.out; omega) HW4.out.size⟩
   have n0 : ((c : Int) == 0) = false := by rw [beq_eq_false_iff_ne]; exact hc
   have n1 : ((c : Int) != 0) = true := by rw [bne_iff_ne]; exact hc
   have HA : Hid (QA = (J.zero, false)) := hid (by rw [← HQ.out, getV, if_neg (by rw [HC.out]; exact hc)])
   go_wp2_with (first | with_reducible refine stop_ret ?_ | (refine wpList_storeJ rfl _ _ rfl rfl HR3.out rfl jzero slJ_zero rfl rfl ?_; intro wS hSx))
   refine hid ?_
   refine bodyPost_retJt jzero rfl rfl rfl rfl hSx.row ?_
   exact GepTo.no HA.out HW3.out hSx (by have := HG.out; omega)
  rw [if_neg hm]
  have HA : Hid (QA = (J.zero, false)) := hid (by
   rw [← HQ.out, getV]
   split
   ·rw [show getJ R1.1 u = none by rw [HV1.out.1, getJ]; exact if_neg hm]
   rfl)
  go_wp2_with (first | with_reducible refine stop_ret ?_ | (refine wpList_storeJ rfl _ _ rfl rfl HR.out rfl jzero slJ_zero rfl rfl ?_; intro wS hSx))
  refine hid ?_
  refine bodyPost_retJt jzero rfl rfl rfl rfl hSx.row ?_
  exact GepTo.no HA.out HW1.out hSx (by have := HG.out; omega)
def escN : List UInt8 → List UInt8
 | [] => []
 | c :: t => (if c = 126 then [126, 48] else if c = 47 then [126, 49] else [c]) ++ escN t
def pthN : List (List UInt8) → List UInt8
 | [] => []
 | u :: us => 47 :: (escN u ++ pthN us)
theorem til_esc : ∀ u : List UInt8, tilN (escN u) = some u
 | [] => rfl
 | c :: t => by
  have ih := til_esc t
  rw [escN]
  by_cases h : c = 126
  ·subst h; rw [if_pos rfl]; simp [tilN, ih]
  rw [if_neg h]
  by_cases h2 : c = 47
  ·subst h2; rw [if_pos rfl]; simp [tilN, ih]
  rw [if_neg h2, List.singleton_append, tilN_cons _ _ h, ih]; rfl
theorem split_esc : ∀ (u r : List UInt8) (h : List UInt8) (q : List (List UInt8)), splitC 47 r = h :: q → splitC 47 (escN u ++ r) = (escN u ++ h) :: q
 | [], r, h, q, e => e
 | c :: t, r, h, q, e => by
  have ih := split_esc t r h q e
  rw [escN]
  by_cases h1 : c = 126
  ·subst h1; rw [if_pos rfl]; simp [splitC, ih]
  rw [if_neg h1]
  by_cases h2 : c = 47
  ·subst h2; rw [if_pos rfl]; simp [splitC, ih]
  rw [if_neg h2]; simp [splitC, ih, h2]
theorem split_pth : ∀ us : List (List UInt8), splitC 47 (pthN us) = (match us with | [] => [[]] | _ => [] :: us.map escN)
 | [] => rfl
 | u :: us => by
  have ih := split_pth us
  rw [pthN, splitC, if_pos rfl]
  cases us with
  | nil => rw [split_esc u _ [] [] (by rw [ih])]; simp
  | cons v us => rw [split_esc u _ [] ((v :: us).map escN) (by rw [ih])]; simp
theorem til_all : ∀ us : List (List UInt8), tilAll (us.map escN) = some us
 | [] => rfl
 | u :: us => by rw [List.map_cons, tilAll, til_esc]; simp only; rw [til_all us]; rfl
theorem path_pth (us : List (List UInt8)) : pathS (pthN us) = some us := by
 cases us with
 | nil => rfl
 | cons u us =>
  have h := til_all (u :: us)
  have h2 : splitC 47 (escN u ++ pthN us) = (u :: us).map escN := by
   cases us with
   | nil => rw [split_esc u _ [] [] (by rw [split_pth])]; simp
   | cons v us => rw [split_esc u _ [] ((v :: us).map escN) (by rw [split_pth])]; simp
  rw [pthN, pathS]
  simp only [if_true]
  rw [h2, h]
theorem pth_snoc : ∀ (us : List (List UInt8)) (u : List UInt8), pthN (us ++ [u]) = pthN us ++ 47 :: escN u
 | [], u => by simp [pthN]
 | a :: us, u => by rw [List.cons_append, pthN, pth_snoc us u, pthN]; simp
theorem escN_len : ∀ u : List UInt8, (escN u).length ≤ 2 * u.length
 | [] => by simp [escN]
 | c :: t => by
  have ih := escN_len t
  rw [escN, List.length_append, List.length_cons]
  split
  ·simp; omega
  split <;> simp <;> omega
theorem esc_snoc : ∀ (u : List UInt8) (c : UInt8), escN (u ++ [c]) = escN u ++ (if c = 126 then [126, 48] else if c = 47 then [126, 49] else [c])
 | [], c => by simp [escN]
 | a :: u, c => by rw [List.cons_append, escN, esc_snoc u c, escN, List.append_assoc]
theorem walkR_snoc : ∀ (us : List (List UInt8)) (v x : J) (u : List UInt8), walkR v us = some x → walkR v (us ++ [u]) = stepR x u
 | [], v, x, u, h => by
  rw [walkR] at h
  injection h with h
  subst h
  rw [List.nil_append, walkR]
  cases stepR v u <;> rfl
 | a :: us, v, x, u, h => by
  rw [walkR] at h
  rw [List.cons_append, walkR]
  cases hs : stepR v a with
  | none => rw [hs] at h; cases h
  | some y => rw [hs] at h; exact walkR_snoc us y x u h
theorem nodup_take {ns : List (List UInt8)} (h : ns.Nodup) {i : Nat} {s : List UInt8} (hs : ns[i]? = some s) : s ∉ ns.take i := by
 intro hm
 obtain ⟨j, hj⟩ := List.getElem?_of_mem hm
 obtain ⟨hlt, hj2⟩ := List.getElem?_eq_some_iff.1 hj
 rw [List.length_take] at hlt
 rw [List.getElem_take] at hj2
 obtain ⟨hi, hi2⟩ := List.getElem?_eq_some_iff.1 hs
 have := (List.pairwise_iff_getElem.1 h) j i (by omega) hi (by omega)
 exact this (hj2.trans hi2.symm)
theorem step_lab {v x : J} (h : goodJ v = true) (hz : v.l.length ≤ 20000000) {i : Nat} (hx : v.l[i]? = some x) : stepR v (labV v i) = some x := by
 have hil := (List.getElem?_eq_some_iff.1 hx).1
 rw [← step_same h hz]
 obtain ⟨k, b, n, t, l, ns⟩ := v
 obtain ⟨_, _, _, h4, h5, _, _, _, h9⟩ := good_head h
 change l[i]? = some x at hx
 change i < l.length at hil
 change l.length ≤ 20000000 at hz
 unfold stepJ labV
 show (if k = 5 then (if (if k = 5 then ns.getD i [] else Lib.itoa (i : Int)) ∈ ns then l[ns.idxOf (if k = 5 then ns.getD i [] else Lib.itoa (i : Int))]? else none) else (stepN (if k = 5 then ns.getD i [] else Lib.itoa (i : Int)) l.length).bind (l[·]?)) = some x
 by_cases hk : k = 5
 ·subst hk
  have hu : ns.length = l.length ∧ unlikeB ns = true := by rcases h9 with h | h | h | h | h | ⟨_, h⟩ <;> first | exact h | omega
  have hs : ns[i]? = some (ns.getD i []) := by rw [List.getD_eq_getElem?_getD, List.getElem?_eq_getElem (by omega)]; rfl
  simp only [if_true]
  rw [if_pos (List.mem_of_getElem? hs), idxOf_at ns i hs (nodup_take (unlike_nodup hu.2) hs), hx]
 simp only [if_neg hk]
 have hit : Lib.itoa (i : Int) = Lib.decDigits i := by unfold Lib.itoa; rw [if_neg (by omega)]; rfl
 rw [stepN, hit, atoi_dec (by omega)]
 simp only
 rw [if_pos ⟨hit, by omega, by omega⟩]
 simp [hx]
theorem get_lab {v x : J} (hc : checkJ v = 0) {i : Nat} (hx : v.l[i]? = some x) : getV v (labV v i) = if v.kind = 5 then (x, true) else (J.zero, false) := by
 have h := (checkJ_zero.1 hc).1
 have hil := (List.getElem?_eq_some_iff.1 hx).1
 unfold getV
 rw [if_pos hc]
 obtain ⟨k, b, n, t, l, ns⟩ := v
 obtain ⟨_, _, _, h4, h5, _, _, _, h9⟩ := good_head h
 change l[i]? = some x at hx
 change i < l.length at hil
 unfold getJ labV
 show (match (if (if k = 5 then ns.getD i [] else Lib.itoa (i : Int)) ∈ ns then l[ns.idxOf (if k = 5 then ns.getD i [] else Lib.itoa (i : Int))]? else none) with | some x => (x, true) | none => (J.zero, false)) = if k = 5 then (x, true) else (J.zero, false)
 by_cases hk : k = 5
 ·subst hk
  have hu : ns.length = l.length ∧ unlikeB ns = true := by rcases h9 with h | h | h | h | h | ⟨_, h⟩ <;> first | exact h | omega
  have hs : ns[i]? = some (ns.getD i []) := by rw [List.getD_eq_getElem?_getD, List.getElem?_eq_getElem (by omega)]; rfl
  simp only [if_true]
  rw [if_pos (List.mem_of_getElem? hs), idxOf_at ns i hs (nodup_take (unlike_nodup hu.2) hs), hx]
 obtain rfl : ns = [] := h5.resolve_left hk
 simp [if_neg hk]
theorem check_mem {v x : J} (hc : checkJ v = 0) {i : Nat} (hx : v.l[i]? = some x) : checkJ x = 0 := by
 obtain ⟨h1, h2, h3⟩ := checkJ_zero.1 hc
 have hg := (good_mem h1 (List.mem_of_getElem? hx)).1
 refine checkJ_zero.2 ⟨hg, ?_, ?_⟩
 ·obtain ⟨k, b, n, t, l, ns⟩ := v
  have := deep_in (d := deepK k) (show l[i]? = some x from hx)
  have e : deepJ (.mk k b n t l ns) = deepL (deepK k) l := by rw [deepJ]
  omega
 obtain ⟨k, b, n, t, l, ns⟩ := v
 change l[i]? = some x at hx
 obtain ⟨hil, hx2⟩ := List.getElem?_eq_some_iff.1 hx
 obtain ⟨_, _, _, h4, h5, _, _, _, h9⟩ := good_head h1
 have hk : k = 4 ∨ k = 5 := by
  rcases h4 with h | h | h
  ·exact .inl h
  ·exact .inr h
  rw [h] at hil; simp at hil
 rw [toldJ, if_neg (by omega), if_neg (by omega), if_neg (by omega), if_neg (by omega)] at h3
 have ht := toldL_take (decide (k = 5)) l true ns (i + 1)
 rw [told_take (decide (k = 5)) l ns i hil, hx2] at ht
 simp only [List.length_append] at ht h3
 omega
theorem lab_sz {v x : J} (h : goodJ v = true) (hz : v.l.length ≤ 20000000) {i : Nat} (hx : v.l[i]? = some x) : (labV v i).length ≤ 8 * (szJ v - szJ x) ∧ szJ x < szJ v := by
 have hil := (List.getElem?_eq_some_iff.1 hx).1
 obtain ⟨k, b, n, t, l, ns⟩ := v
 obtain ⟨_, _, _, h4, h5, _, _, _, h9⟩ := good_head h
 change l[i]? = some x at hx
 change i < l.length at hil
 change l.length ≤ 20000000 at hz
 have h1 := szL_in hx
 unfold labV
 show (if k = 5 then ns.getD i [] else Lib.itoa (i : Int)).length ≤ _ ∧ _
 simp only [szJ]
 by_cases hk : k = 5
 ·rw [if_pos hk]
  have hu : ns.length = l.length ∧ unlikeB ns = true := by rcases h9 with h | h | h | h | h | ⟨_, h⟩ <;> first | exact h | omega
  have hs : ns[i]? = some (ns.getD i []) := by rw [List.getD_eq_getElem?_getD, List.getElem?_eq_getElem (by omega)]; rfl
  have h2 := szN_in (List.mem_of_getElem? hs)
  omega
 rw [if_neg hk]
 have hit : Lib.itoa (i : Int) = Lib.decDigits i := by unfold Lib.itoa; rw [if_neg (by omega)]; rfl
 rw [hit, Lib.decDigits_length]
 have := nDig_le 8 i (by decide) (by omega)
 omega
open Go.RowKit
theorem esc_take {s : List UInt8} {i : Nat} {c : UInt8} (h : s[i]? = some c) : escN (s.take (i + 1)) = escN (s.take i) ++ (if c = 126 then [126, 48] else if c = 47 then [126, 49] else [c]) := by
 rw [List.take_add_one, h]
 exact esc_snoc _ _
theorem pathL_calls (w : World) (s : List UInt8) (hs : s.length ≤ 100000000) : Calls Tryz.prog 68 #[.string ⟨s.toArray⟩] w fun e w' => e = .returned (.string ⟨(47 :: escN s).toArray⟩) ∧ w = w' := by
 have HL := hid hs
 clear hs
 go_enter Tryz.func68, Tryz.ntmps68
 go_wp2_with fail
 go_loopg [3, 4] s.length (fun kk s3 s4 wr => ∃ (i : Nat) (q : List UInt8), kk = s.length - i ∧ i ≤ s.length ∧ q = 47 :: escN (s.take i) ∧ s3 = .string ⟨q.toArray⟩ ∧ s4 = .int .i64 (i : Int) ∧ w = wr)
 case atStart => exact ⟨0, [47], rfl, Nat.zero_le _, rfl, rfl, rfl, rfl⟩
 obtain ⟨i, q, hki, hi, hq, rfl, rfl, rfl⟩ := hrel
 have Hki := hid hki
 have HQ := hid hq
 have HQL : Hid (q.length ≤ 300000000) := hid (by have := escN_len (s.take i); have h2 := HL.out; rw [hq, List.length_cons]; rw [List.length_take] at this; omega)
 clear hki hq
 by_cases hlt : i < s.length
 ·have hlti : (i : Int) < (s.length : Int) := by omega
  have hij := byte_at s i hlt
  have HD := hid (hdrop9 hlt)
  have hx : s[i]? = some (s.getD i 0) := by rw [List.getD_eq_getElem?_getD, List.getElem?_eq_getElem hlt]; rfl
  obtain ⟨c, hc⟩ : ∃ c, s.getD i 0 = c := ⟨_, rfl⟩
  rw [hc] at hij HD hx
  have HX := hid (esc_take hx)
  clear hc hx
  obtain ⟨i1, hi1⟩ : ∃ k, i + 1 = k := ⟨_, rfl⟩
  have HI1 := hid hi1
  have hw1 : IntKind.i64.wrap ((i : Int) + 1) = (i1 : Int) := by rw [IntWalk.i64_in _ (by have := HL.out; omega)]; omega
  rw [hi1] at HD HX
  clear hi1
  by_cases h126 : c = 126
  ·subst h126
   have hcat := bytes_app q [126, 48]
   have hsm : ¬ 9223372036854775807 < q.length + 2 := by have := HQL.out; omega
   go_wp2_with fail
   go_roundg (s.length - i1)
   case measure => have := Hki.out; have := HI1.out; omega
   exact ⟨i1, _, rfl, by have := HI1.out; omega, by rw [HX.out, HQ.out]; rfl, rfl, by go_num, rfl⟩
  have f126 : ((c.toNat : Int) == 126) = false := u8_beq_no c 126 h126
  by_cases h47 : c = 47
  ·subst h47
   have hcat := bytes_app q [126, 49]
   have hsm : ¬ 9223372036854775807 < q.length + 2 := by have := HQL.out; omega
   clear h126
   go_wp2_with fail
   go_roundg (s.length - i1)
   case measure => have := Hki.out; have := HI1.out; omega
   exact ⟨i1, _, rfl, by have := HI1.out; omega, by rw [HX.out, HQ.out]; rfl, rfl, by go_num, rfl⟩
  have f47 : ((c.toNat : Int) == 47) = false := u8_beq_no c 47 h47
  have HX2 : Hid (escN (s.take i1) = escN (s.take i) ++ [c]) := hid (by rw [HX.out, if_neg h126, if_neg h47])
  have hext : (⟨s.toArray⟩ : ByteArray).extract i i1 = ⟨[c].toArray⟩ := by rw [Lib.extract_eq, HD.out, show i1 - i = 1 by have := HI1.out; omega]; rfl
  have hcat := bytes_app q [c]
  have hsm : ¬ 9223372036854775807 < q.length + 1 := by have := HQL.out; omega
  have hj1 : (i1 : Int) ≤ (s.length : Int) := by have := HI1.out; omega
  have hj0 : (i : Int) ≤ (i1 : Int) := by have := HI1.out; omega
  clear h126 h47
  go_wp2_with fail
  go_roundg (s.length - i1)
  case measure => have := Hki.out; have := HI1.out; omega
  exact ⟨i1, _, rfl, by have := HI1.out; omega, by rw [HX2.out, HQ.out]; rfl, rfl, by go_num, rfl⟩
 have hlti : ¬ (i : Int) < (s.length : Int) := by omega
 have HE : Hid (q = 47 :: escN s) := hid (by rw [HQ.out, show i = s.length by omega, List.take_length])
 go_wp2_with fail
 go_ret
 exact ⟨by rw [HE.out]; rfl, rfl⟩
open Go.RowKit
theorem run_fnil (f : Fn) (a b : Array Value) (w : World) : Sem.run Tryz.prog (binOp .eql 47 (Value.func f a b) Value.nilFunc) w = .ok (.bool false) w := by
 kernel_rfl
attribute [local go_sem] run_fnil Oper.semAt_some
theorem new1 {W V : World} {v : Value} {t : TypeId} {g : Nat} (hg : W.heap.size = g) (hb : Below (W.alloc (.cells #[v] t)).heap.size (W.alloc (.cells #[v] t)) V) : V.cell? ⟨g, 0, none⟩ = some v ∧ V.frozen? ⟨g, 0, none⟩ = false := by
 subst hg
 have hh := World.alloc_heap_new W (.cells #[v] t)
 have hl : W.heap.size < (W.alloc (.cells #[v] t)).heap.size := by rw [World.size_alloc]; omega
 have hk := (hb.block _ hl).trans hh
 refine ⟨?_, Joins.unfrozen_of_block hk 0⟩
 unfold World.cell?
 rw [hk]
 rfl
theorem region_in_lit {P : Program} {Q : Exit → Act → World → Prop} {l n id : Nat} {a : Act} {w : World} {r : List Oper} (hd : NoDefer r.toArray = true) (hq : ¬ LetsOut Q) (h : wpList P r.toArray Q r a w) : (Code.region id r.toArray false).wpIn (Fence.wide.inRound l) n P Q a w := region_in hd hq h
end Go.Proofs.YtfclfaidmipjpaaGreatDoor
