/- Texts of this claim, joined: Ppl, Rpt, Lab. -/
import Derived.Test.YtfclfaidmipjpaaGreatDoorPa10
namespace Go.Proofs.YtfclfaidmipjpaaGreatDoor
set_option maxRecDepth 100000
set_option maxHeartbeats 20000000
open Go.Lib (hid)
open Go.RowKit
theorem dec_rec {u : Nat} (h : ¬ u < 10) : Lib.decDigits u = Lib.decDigits (u / 10) ++ [UInt8.ofNat (48 + u % 10)] := by rw [Lib.decDigits, dif_neg h]
theorem u8_48 {d : Nat} (h : d < 10) : (UInt8.ofNat (48 + d)).toNat = 48 + d := by
 have h9 : (UInt8.ofNat (48 + d)).toNat = (48 + d) % 256 := by first | rfl | simp
 omega
theorem dec_facts : ∀ u : Nat, Dig (Lib.decDigits u) ∧ dval (Lib.decDigits u) = u ∧ (u ≠ 0 → (Lib.decDigits u).getD 0 0 ≠ 48) ∧ Lib.decDigits u ≠ [] := by
 intro u
 induction u using Nat.strongRecOn with
 | _ u ih =>
  by_cases h : u < 10
  ·rw [Lib.decDigits_one h]
   have h8 := u8_48 h
   refine ⟨fun c hc => ?_, ?_, fun h0 e => ?_, by simp⟩
   ·rw [List.mem_singleton.1 hc, h8]; omega
   ·simp only [dval, List.foldl_cons, List.foldl_nil, h8]; omega
   have e2 : (UInt8.ofNat (48 + u)).toNat = 48 := by
    have e3 : UInt8.ofNat (48 + u) = 48 := e
    rw [e3]; rfl
   omega
  obtain ⟨h1, h2, h3, h4⟩ := ih (u / 10) (by omega)
  have h8 := u8_48 (Nat.mod_lt u (show 10 > 0 by decide))
  rw [dec_rec h]
  refine ⟨fun c hc => ?_, ?_, fun _ => ?_, by simp⟩
  ·rcases List.mem_append.1 hc with hc | hc
   ·exact h1 c hc
   rw [List.mem_singleton.1 hc, h8]; omega
  ·rw [dval_snoc, h2, h8]; omega
  obtain ⟨c, t, e⟩ := List.exists_cons_of_ne_nil h4
  have h9 := h3 (by omega)
  rw [e] at h9 ⊢
  exact h9
theorem nDig_le : ∀ (k u : Nat), 1 ≤ k → u < 10 ^ k → Lib.nDigits u ≤ k
 | 0, _, h, _ => by omega
 | k + 1, u, _, h => by
  by_cases h1 : u < 10
  ·rw [Lib.nDigits_small h1]; omega
  rw [Lib.nDigits_big h1]
  have hk : 1 ≤ k := by
   rcases Nat.eq_zero_or_pos k with e | e
   ·subst e; simp at h; omega
   exact e
  have := nDig_le k (u / 10) hk (by rw [Nat.div_lt_iff_lt_mul (by decide)]; rw [Nat.pow_succ] at h; exact h)
  omega
theorem dec_of : ∀ (s : List UInt8), Dig s → s ≠ [] → (s.getD 0 0 = 48 → s.length = 1) → s = Lib.decDigits (dval s) := by
 intro s
 induction hn : s.length using Nat.strongRecOn generalizing s with
 | _ n ih =>
  intro hd hne h0
  obtain ⟨t, c, rfl⟩ : ∃ t c, s = t ++ [c] := ⟨s.dropLast, s.getLast hne, (List.dropLast_concat_getLast hne).symm⟩
  have hc := hd c (by simp)
  rw [dval_snoc]
  by_cases ht : t = []
  ·subst ht
   have e : dval [] = 0 := rfl
   rw [e, Nat.mul_zero, Nat.zero_add, Lib.decDigits_one (by omega), show 48 + (c.toNat - 48) = c.toNat by omega, UInt8.ofNat_toNat]; rfl
  obtain ⟨x, r, rfl⟩ := List.exists_cons_of_ne_nil ht
  have hx : x ≠ 48 := fun e => by
   have h9 := h0 e
   have h8 := hn
   simp only [List.length_append, List.length_cons, List.length_nil] at h8
   omega
  have h1 := ih (x :: r).length (by rw [← hn]; simp) (x :: r) rfl (fun y hy => hd y (by simp only [List.mem_append]; exact .inl hy)) (by simp) (fun e => absurd e hx)
  have hxd := hd x (by simp)
  have hpos : 1 ≤ dval (x :: r) := by
   rcases Nat.eq_zero_or_pos (dval (x :: r)) with e | e
   ·rw [e] at h1
    rw [Lib.decDigits_one (by decide)] at h1
    injection h1 with h1 _
    exact absurd (by rw [h1]; rfl) hx
   exact e
  rw [dec_rec (by omega), show (10 * dval (x :: r) + (c.toNat - 48)) / 10 = dval (x :: r) by omega, show (10 * dval (x :: r) + (c.toNat - 48)) % 10 = c.toNat - 48 by omega, ← h1, show 48 + (c.toNat - 48) = c.toNat by omega, UInt8.ofNat_toNat]
theorem parse10_few : ∀ (l : List UInt8) (acc : Nat), Dig l → (acc + 1) * 10 ^ l.length ≤ 10000000000000000000 → Lib.parseUint10 acc l = .ok (acc * 10 ^ l.length + dval l) := by
 intro l
 induction l with
 | nil => intro acc _ _; simp [Lib.parseUint10, dval]
 | cons c t ih =>
  intro acc hd hb
  have hc := hd c (by simp)
  have hp : 0 < 10 ^ t.length := Nat.pow_pos (by omega)
  rw [List.length_cons, Nat.pow_succ] at hb
  have hb2 : (acc * 10 + 10) * 10 ^ t.length ≤ 10000000000000000000 := by
   rw [show (acc * 10 + 10) * 10 ^ t.length = (acc + 1) * (10 ^ t.length * 10) by rw [Nat.mul_comm (10 ^ t.length) 10, ← Nat.mul_assoc]; congr 1; omega]
   exact hb
  have hb3 : acc * 10 + 10 ≤ (acc * 10 + 10) * 10 ^ t.length := Nat.le_mul_of_pos_right _ (by omega)
  unfold Lib.parseUint10
  rw [if_pos hc, if_neg (by omega), if_neg (by omega), ih _ (fun x hx => hd x (by simp [hx]))]
  ·rw [dval_cons, List.length_cons, Nat.pow_succ]
   congr 1
   rw [Nat.add_mul, Nat.mul_assoc, Nat.mul_comm 10, Nat.add_assoc]
  refine Nat.le_trans (Nat.mul_le_mul_right _ ?_) hb2
  omega
theorem atoi_dec {n : Nat} (h : n < 1000000000) : Lib.atoiAll (Lib.decDigits n) = .ok (n : Int) := by
 obtain ⟨h1, h2, _, h4⟩ := dec_facts n
 have hl : (Lib.decDigits n).length ≤ 9 := by rw [Lib.decDigits_length]; exact nDig_le 9 n (by decide) (by simpa using h)
 obtain ⟨c, t, e⟩ := List.exists_cons_of_ne_nil h4
 rw [e] at h1 h2 hl ⊢
 have hc := h1 c (by simp)
 rw [Lib.atoiAll_plain c t (by omega) (by omega)]
 have hp : 10 ^ (c :: t).length ≤ 10 ^ 9 := Nat.pow_le_pow_right (by decide) hl
 have hpm : Lib.parseMag (c :: t) = .ok n := by
  unfold Lib.parseMag
  rw [if_neg (by simp), parse10_few (c :: t) 0 h1 (by omega), Nat.zero_mul, Nat.zero_add, h2]
 rw [hpm]
 unfold Lib.signless
 simp only
 rw [if_neg (by omega)]
theorem place_step (u : List UInt8) {m : Nat} (hm : m ≤ 20000000) : stepN u m = if 0 ≤ placeV u ∧ placeV u < (m : Int) then some (placeV u).toNat else none := by
 by_cases hp : ∃ n : Nat, n < 1000000000 ∧ u = Lib.decDigits n
 ·obtain ⟨n, hn, rfl⟩ := hp
  obtain ⟨h1, h2, h3, h4⟩ := dec_facts n
  have hl : (Lib.decDigits n).length ≤ 9 := by rw [Lib.decDigits_length]; exact nDig_le 9 n (by decide) (by simpa using hn)
  have hpl : placeV (Lib.decDigits n) = (n : Int) := by
   rw [placeV_dig, if_pos ((digAll_iff _).2 h1), h2]
   rintro (h | h | ⟨h, h'⟩)
   ·exact h4 (List.length_eq_zero_iff.1 (by omega))
   ·omega
   by_cases h0 : n = 0
   ·subst h0
    rw [Lib.decDigits_one (by decide)] at h'
    simp at h'
   exact h3 h0 h
  rw [hpl, stepN, atoi_dec hn]
  simp only
  have hit : Lib.itoa (n : Int) = Lib.decDigits n := by unfold Lib.itoa; rw [if_neg (by omega)]; rfl
  rw [hit]
  by_cases hlt : (n : Int) < (m : Int)
  ·rw [if_pos ⟨rfl, by omega, hlt⟩, if_pos ⟨by omega, hlt⟩]
  rw [if_neg (fun h => hlt h.2.2), if_neg (fun h => hlt h.2)]
 have hpl : placeV u = -1 := by
  by_cases hc : u.length < 1 ∨ 9 < u.length ∨ (u.getD 0 0 = 48 ∧ 1 < u.length)
  ·exact placeV_no hc
  rw [placeV_dig hc]
  by_cases hd : digAll u = true
  ·exfalso
   have hne : u ≠ [] := fun e => hc (.inl (by rw [e]; simp))
   have hD := (digAll_iff u).1 hd
   have e := dec_of u hD hne (fun h => by
    have h9 : 0 < u.length := List.length_pos_iff.2 hne
    by_cases h' : 1 < u.length
    ·exact absurd (.inr (.inr ⟨h, h'⟩)) hc
    omega)
   refine hp ⟨dval u, ?_, e⟩
   have h9 : u.length ≤ 9 := by omega
   exact Nat.lt_of_lt_of_le (dval_few hd) (Nat.le_trans (Nat.pow_le_pow_right (by decide) h9) (by decide))
  rw [if_neg hd]
 rw [hpl, if_neg (by omega), stepN]
 split
 ·rename_i n hn
  rw [if_neg]
  rintro ⟨h1, h2, h3⟩
  refine hp ⟨n.toNat, by omega, ?_⟩
  rw [← h1]
  unfold Lib.itoa
  rw [if_neg (by omega)]
 rfl
def stepR (v : J) (u : List UInt8) : Option J := if v.kind = 4 ∧ 0 ≤ placeV u ∧ placeV u < (v.l.length : Int) then v.l[(placeV u).toNat]? else getJ v u
theorem step_same {v : J} (h : goodJ v = true) (hz : v.l.length ≤ 20000000) (u : List UInt8) : stepJ v u = stepR v u := by
 obtain ⟨k, b, n, t, l, ns⟩ := v
 obtain ⟨_, _, _, h4, h5, _, _, _, _⟩ := good_head h
 change l.length ≤ 20000000 at hz
 unfold stepJ stepR getJ
 show (if k = 5 then (if u ∈ ns then l[ns.idxOf u]? else none) else (stepN u l.length).bind (l[·]?)) = if k = 4 ∧ 0 ≤ placeV u ∧ placeV u < (l.length : Int) then l[(placeV u).toNat]? else if u ∈ ns then l[ns.idxOf u]? else none
 by_cases hk : k = 5
 ·rw [if_pos hk, if_neg (show ¬ (k = 4 ∧ 0 ≤ placeV u ∧ placeV u < (l.length : Int)) from fun e => by have := e.1; omega)]
 obtain rfl : ns = [] := h5.resolve_left hk
 rw [if_neg hk, place_step u hz, if_neg (show ¬ u ∈ ([] : List (List UInt8)) by simp)]
 by_cases hk4 : k = 4
 ·by_cases hp : 0 ≤ placeV u ∧ placeV u < (l.length : Int)
  ·rw [if_pos hp, if_pos ⟨hk4, hp⟩]; rfl
  rw [if_neg hp, if_neg (fun e => hp e.2)]; rfl
 obtain rfl : l = [] := (h4.resolve_left hk4).resolve_left hk
 rw [if_neg (fun e => by simp only [List.length_nil] at e; omega), if_neg (fun e => hk4 e.1)]; rfl
open Go.RowKit
def walkR (v : J) : List (List UInt8) → Option J
 | [] => some v
 | u :: us => match stepR v u with
  | none => none
  | some x => walkR x us
theorem stepR_mem {v x : J} {u : List UInt8} (h : stepR v u = some x) : x ∈ v.l := by
 unfold stepR getJ at h
 split at h
 ·exact List.mem_of_getElem? h
 split at h
 ·exact List.mem_of_getElem? h
 cases h
theorem walk_same : ∀ (us : List (List UInt8)) (v : J), goodJ v = true → szJ v ≤ 20000000 → walkJ v us = walkR v us
 | [], _, _, _ => rfl
 | u :: us, v, h, hz => by
  have hl : v.l.length ≤ 20000000 := by
   obtain ⟨k, b, n, t, l, ns⟩ := v
   simp only [szJ] at hz
   have := szL_len l
   show l.length ≤ _
   omega
  have e := step_same h hl u
  unfold walkJ walkR
  rw [e]
  cases hs : stepR v u with
  | none => rfl
  | some x =>
   obtain ⟨h1, h2⟩ := good_mem h (stepR_mem hs)
   exact walk_same us x h1 (by omega)
def rptK (v : J) (o : Option (List (List UInt8))) : J × Int := match o with
 | none => (J.zero, 2)
 | some us => match walkR v us with
  | none => (J.zero, 7)
  | some x => (x, 0)
theorem rpt_same {v : J} (hc : checkJ v = 0) (hz : szJ v ≤ 20000000) (s : List UInt8) : ptrJ v s = rptK v (pathS s) := by
 unfold ptrJ
 rw [if_neg (fun h => h hc)]
 unfold ptrK rptK
 cases pathS s with
 | none => rfl
 | some us =>
  simp only
  rw [walk_same us v (checkJ_zero.1 hc).1 hz]
  cases walkR v us <;> rfl
theorem GetTo.one {w0 : World} {S : Nat → Prop} {v : J} {u : List UInt8} {w : World} {e : Ending} {w' : World} (h : GetTo w0 S v u w e w') :
  ∃ (r : JR) (ok : Bool), e = .returned (.tuple #[jval r, .bool ok]) ∧ SlJ r ∧ (ok = true → getJ v u = some r.1 ∧ r.1 ∈ v.l ∧ JV w0 S r) ∧ (ok = false → getJ v u = none) ∧ Below w.heap.size w w' := by
 obtain ⟨⟨r, h1, h2, h3, rfl⟩ | ⟨h1, rfl⟩, hb⟩ := h
 ·exact ⟨r, true, rfl, h3.slJ, fun _ => ⟨h1, h2, h3⟩, fun e => (by cases e), hb⟩
 ·exact ⟨jzero, false, rfl, slJ_zero, fun e => (by cases e), fun _ => h1, hb⟩
theorem oper_loadJ {w : World} {o : Oper} {a : Act} {Q : Exit → Act → World → Prop} {K : Act → World → Prop} (x : Operand) (ho : o.op = .load 30 x) {g : Nat} (r : JR) (hr : RowAt w g (jcells r)) (hx : a.eval x = .pointer (some ⟨g, 0, none⟩))
  (hK : K (a.put o.dst (jval r)) w) : Oper.wp Tryz.prog o a w K Q := by
 unfold Oper.wp
 rw [exec_loadJ x ho hx r hr]
 simp only [Oper.upon]
 exact hK
theorem ns_lens {v : J} (h : goodJ v = true) : v.ns ≠ [] → v.ns.length = v.l.length := by
 intro hn
 obtain ⟨k, b, n, t, l, ns⟩ := v
 obtain ⟨_, _, _, _, h5, _, _, _, _⟩ := good_head h
 exact kind_lens h (h5.resolve_right hn)
def RpS (w0 : World) (S : Nat → Prop) (v : J) (u : List UInt8) (b : Bool) (r : JR) : Prop := (b = true → stepR v u = some r.1 ∧ r.1 ∈ v.l ∧ JV w0 S r) ∧ (b = false → stepR v u = none)
def RpB (v : J) (pl : Int) (b : Bool) : Prop := (b = true ↔ v.kind = 4 ∧ 0 ≤ pl ∧ pl < (v.l.length : Int))
theorem RpB.no {v : J} {pl : Int} (h : ¬ (v.kind = 4 ∧ 0 ≤ pl ∧ pl < (v.l.length : Int))) : RpB v pl false := ⟨fun e => (by cases e), fun e => absurd e h⟩
theorem RpB.yes {v : J} {pl : Int} (h : v.kind = 4 ∧ 0 ≤ pl ∧ pl < (v.l.length : Int)) : RpB v pl true := ⟨fun _ => h, fun _ => rfl⟩
theorem pathF_few : ∀ (s : List UInt8) (o us : List (List UInt8)), pathF s o = some us → us.length ≤ o.length + s.length ∧ ∀ m, (∀ q ∈ o, q.length ≤ m) → ∀ q ∈ us, q.length ≤ m + s.length := by
 intro s
 induction hn : s.length using Nat.strongRecOn generalizing s with
 | _ n ih =>
  intro o us h
  have hadd : ∀ (c : UInt8) (m : Nat), (∀ q ∈ o, q.length ≤ m) → ∀ q ∈ addL o c, q.length ≤ m + 1 := fun c m hm q hq => by
   rcases List.mem_or_eq_of_mem_set hq with hq | hq
   ·have := hm q hq; omega
   rw [hq, List.length_append, List.length_singleton, List.getD_eq_getElem?_getD]
   cases ho : o[o.length - 1]? with
   | none => simp
   | some x => have := hm x (List.mem_of_getElem? ho); simp only [Option.getD_some]; omega
  have haddl : ∀ c, (addL o c).length = o.length := fun c => by unfold addL; rw [List.length_set]
  cases s with
  | nil =>
   simp only [pathF, Option.some.injEq] at h
   subst h
   exact ⟨by omega, fun m hm q hq => by have := hm q hq; omega⟩
  | cons c t =>
   simp only [List.length_cons] at hn
   by_cases h47 : c = 47
   ·subst h47
    rw [pathF_47] at h
    obtain ⟨h1, h2⟩ := ih t.length (by omega) t rfl _ _ h
    rw [List.length_append, List.length_singleton] at h1
    refine ⟨by omega, fun m hm q hq => ?_⟩
    have := h2 m (fun x hx => by
     rcases List.mem_append.1 hx with hx | hx
     ·exact hm x hx
     rw [List.mem_singleton.1 hx]; simp) q hq
    omega
   by_cases h126 : c = 126
   ·subst h126
    cases t with
    | nil => rw [pathF_end] at h; cases h
    | cons d r =>
     simp only [List.length_cons] at hn
     by_cases h48 : d = 48
     ·subst h48
      rw [pathF_48] at h
      obtain ⟨h1, h2⟩ := ih r.length (by omega) r rfl _ _ h
      rw [haddl] at h1
      exact ⟨by omega, fun m hm q hq => by have := h2 (m + 1) (hadd _ m hm) q hq; omega⟩
     by_cases h49 : d = 49
     ·subst h49
      rw [pathF_49] at h
      obtain ⟨h1, h2⟩ := ih r.length (by omega) r rfl _ _ h
      rw [haddl] at h1
      exact ⟨by omega, fun m hm q hq => by have := h2 (m + 1) (hadd _ m hm) q hq; omega⟩
     rw [pathF_bad h48 h49] at h; cases h
   rw [pathF_let h47 h126] at h
   obtain ⟨h1, h2⟩ := ih t.length (by omega) t rfl _ _ h
   rw [haddl] at h1
   exact ⟨by omega, fun m hm q hq => by have := h2 (m + 1) (hadd _ m hm) q hq; omega⟩
theorem path_few {s : List UInt8} (hs : s.length ≤ 90000000) {us : List (List UInt8)} (h : pathS s = some us) : us.length ≤ 90000001 ∧ ∀ q ∈ us, q.length ≤ 90000000 := by
 have h47 : s = [] ∨ s.head? = some 47 := by
  cases s with
  | nil => exact .inl rfl
  | cons c t =>
   by_cases hc : c = 47
   ·exact .inr (by rw [hc]; rfl)
   have h9 : (if c = 47 then tilAll (splitC 47 t) else none) = some us := h
   rw [if_neg hc] at h9; cases h9
 rw [← pathF_eq s h47] at h
 obtain ⟨h1, h2⟩ := pathF_few s [] us h
 rw [List.length_nil] at h1
 exact ⟨by omega, fun q hq => by have := h2 0 (by simp) q hq; omega⟩
structure RptI (w wr : World) (g : Nat) (r : JR) (v : Value) (us : List (List UInt8)) : Prop where
 be : Below w.heap.size w wr
 box : RowAt wr g (jcells r)
 res : RowAt wr (g + 1) (jcells jzero)
 nm : NamV wr (g + 2) v us
 lo : w.heap.size = g
theorem RptI.below {w wr w' : World} {g : Nat} {r : JR} {v : Value} {us : List (List UInt8)} (h : RptI w wr g r v us) (hb : Below wr.heap.size wr w') : RptI w w' g r v us := ⟨h.be.trans (hb.mono h.be.size), h.box.below hb, h.res.below hb, h.nm.below hb, h.lo⟩
theorem RptI.put {w wr w' : World} {g : Nat} {r r' : JR} {v : Value} {us : List (List UInt8)} (h : RptI w wr g r v us) (hs : Sx wr w' g r') : RptI w w' g r' v us :=
 ⟨hs.below h.be (by have := h.lo; omega) h.be.size, hs.row, h.res.apart hs.apart (by omega), h.nm.apart hs.apart (fun k hk _ e => by omega), h.lo⟩
def RpiTo (w0 : World) (S : Nat → Prop) (w : World) (q : J × Int) (e : Ending) (w' : World) : Prop := (∃ r : JR, r.1 = q.1 ∧ e = .returned (.tuple #[jval r, .int .i64 q.2]) ∧ JV w0 S r) ∧ Below w.heap.size w w'
theorem pointR_calls {w0 : World} {S1 : Nat → Prop} {r1 : JR} (h1 : JV w0 S1 r1) (w : World) (hb : Below w0.heap.size w0 w) (hgood : goodJ r1.1 = true) (hsz : szJ r1.1 ≤ 20000000) (s : List UInt8) (hs : s.length ≤ 90000000) :
  Calls Tryz.prog 25 #[jval r1, .string ⟨s.toArray⟩] w (RpiTo w0 S1 w (rptK r1.1 (pathS s))) := by
 have HJ := hid h1
 have HB := hid hb
 have HGD := hid hgood
 have HSZ := hid hsz
 have HSL := hid h1.slJ
 clear h1 hb hgood hsz
 obtain ⟨QA, hQA⟩ : ∃ q, rptK r1.1 (pathS s) = q := ⟨_, rfl⟩
 have HQ := hid hQA
 rw [hQA]
 clear hQA
 go_enter Tryz.func25, Tryz.ntmps25
 go_upto_region 1 with (first | (refine wpList_boxJ rfl _ rfl r1 rfl ?_; intro w1 hBx) | (refine wpList_allocJ rfl rfl ?_; intro w2 hBy))
 obtain ⟨g, hg⟩ : ∃ g, w.heap.size = g := ⟨_, rfl⟩
 have hy1 : w1.heap.size = g + 1 := by have := hBx.size; omega
 have hy2 : w2.heap.size = g + 2 := by have := hBy.size; omega
 have hv := hBx.row.below hBy.be
 have hr := hBy.row
 rw [hg] at hv ⊢
 rw [hy1] at hr ⊢
 have HV := hid hv
 have HR := hid hr
 have HW : Hid (Below w.heap.size w w2) := hid (hBy.below hBx.be hBx.be.size)
 have HY2 := hid hy2
 have HG := hid hg
 clear hBx hBy hg hy1 hy2 hv hr
 go_wp2_with fail
 refine (path_calls w2 s hs).mono ?_
 rintro e w3 ⟨hpt, hb3⟩
 have HV3 := hid (HV.out.below hb3)
 have HR3 := hid (HR.out.below hb3)
 have HW3 := hid (HW.out.trans (hb3.mono HW.out.size))
 clear hb3 HV HR HW
 rcases hpt with ⟨us, v6, hus, rfl, hnm⟩ | ⟨hno, rfl⟩
 rotate_left
 ·
  have HA : Hid (QA = (J.zero, 2)) := hid (by rw [← HQ.out, hno]; rfl)
  clear hno
  go_wp2_with (first | with_reducible refine stop_ret ?_ | (refine wpList_storeJ rfl _ _ rfl rfl HR3.out rfl jzero slJ_zero rfl rfl ?_; intro wS hSx))
  refine hid ?_
  refine bodyPost_retJt jzero rfl rfl rfl rfl hSx.row ?_
  rw [HA.out]
  exact ⟨⟨jzero, rfl, rfl, JV.zero _ _⟩, hSx.below HW3.out (by have := HG.out; omega) HW3.out.size⟩
 ·
  have HI3 : Hid (RptI w w3 g r1 v6 us) := hid ⟨HW3.out, HV3.out, HR3.out, by rw [← HY2.out]; exact hnm, HG.out⟩
  have HQ2 : Hid (QA = (match walkR r1.1 us with
   | none => (J.zero, 7)
   | some x => (x, 0))) := hid (by rw [← HQ.out, hus]; rfl)
  obtain ⟨p6, c6, hf6⟩ := hnm.forms
  subst hf6
  have HUL : Hid (us.length ≤ 90000001 ∧ ∀ q ∈ us, q.length ≤ 90000000) := hid (path_few hs hus)
  clear hus hnm HV3 HR3 HW3 HQ
  go_wp2_with fail
  go_loopg [8, 9, 10] us.length (fun kk s8 s9 s10 wr => ∃ (i : Nat) (r : JR), kk = us.length - i ∧ i ≤ us.length ∧ s8 = .int .i64 (i : Int) ∧ JV w0 S1 r ∧ goodJ r.1 = true ∧ szJ r.1 ≤ 20000000 ∧ walkR r1.1 us = walkR r.1 (us.drop i) ∧ RptI w wr g r (.slice p6 us.length c6) us)
  case atStart => exact ⟨0, r1, rfl, Nat.zero_le _, rfl, HJ.out, HGD.out, HSZ.out, rfl, HI3.out⟩
  obtain ⟨i, r, hki, hi, rfl, hj, hgd, hz, hwk, hI⟩ := hrel
  have Hki := hid hki
  have HI := hid hI
  have HJR := hid hj
  have HGR := hid hgd
  have HZR := hid hz
  have HWK := hid hwk
  clear hki hI hj hgd hz hwk HI3 HJ HGD HSZ
  by_cases hlt : i < us.length
  ·
   have hlti : (i : Int) < (us.length : Int) := by omega
   obtain ⟨u, hu⟩ : ∃ u, us[i]? = some u := ⟨_, List.getElem?_eq_getElem hlt⟩
   have HU := hid hu
   have HDR : Hid (us.drop i = u :: us.drop (i + 1)) := hid (by rw [List.drop_eq_getElem_cons hlt]; congr 1; rw [List.getElem?_eq_getElem hlt] at hu; injection hu)
   obtain ⟨gn, hgn⟩ : ∃ gn, p6 = some ⟨gn, 0, none⟩ := by
    rcases HI.out.nm.2 with ⟨h, _⟩ | ⟨g9, c9, _, h, h2, _⟩
    ·injection h with _ h _; omega
    injection h with h _ _; exact ⟨g9, h⟩
   subst hgn
   have HNS : Hid (∀ (W : World) (r9 : JR), RptI w W g r9 (.slice (some ⟨gn, 0, none⟩) us.length c6) us → W.cell? ⟨gn, i, none⟩ = some (.string ⟨u.toArray⟩)) := hid (fun W r9 hW => by
    rw [World.ownsRow.cellAt hW.nm i (by omega)]
    unfold txts
    rw [List.getElem?_map, hu]; rfl)
   have n0 := HNS.out _ _ HI.out
   clear hu
   go_wp2_with fail
   refine (place_calls wr u (by have := HUL.out.2 u (List.mem_of_getElem? HU.out); omega)).mono ?_
   rintro e wq ⟨rfl, rfl⟩
   obtain ⟨pl, hpl⟩ : ∃ z, placeV u = z := ⟨_, rfl⟩
   have HPL := hid hpl
   rw [hpl]
   clear hpl n0
   obtain ⟨pq, cq, hlq⟩ : ∃ pq cq, r.2.1 = .slice pq r.1.l.length cq := by
    cases HJR.out with
    | mk _ xs hn hl hs9 => obtain ⟨p9, c9, e9, _⟩ := hl; exact ⟨p9, c9, e9⟩
   have HLQ := hid hlq
   have HCC : Hid (∀ W, RowAt W g (jcells r) → W.cell? ⟨g, 0, none⟩ = some (.int .i64 r.1.kind) ∧ W.cell? ⟨g, 6, none⟩ = some (.slice pq r.1.l.length cq)) := hid (fun W h => ⟨h.cell 0 _ rfl, by rw [← HLQ.out]; exact h.cell 6 _ rfl⟩)
   clear hlq
   go_upto_region 8 with fail
   go_cut [10] from 30 to 43 (fun s10 wc => ∃ b : Bool, s10 = .bool b ∧ RpB r.1 pl b ∧ wr = wc)
   case first =>
    obtain ⟨k0, k6⟩ := HCC.out _ HI.out.box
    by_cases h4 : r.1.kind = 4
    rotate_left
    ·
     have n4 : (r.1.kind == 4) = false := beq_eq_false_iff_ne.2 h4
     have HN : Hid (¬ (r.1.kind = 4 ∧ 0 ≤ pl ∧ pl < (r.1.l.length : Int))) := hid (fun e => h4 e.1)
     clear h4
     go_wp2_with fail
     go_meet
     exact ⟨false, rfl, RpB.no HN.out, rfl⟩
    have n4 : (r.1.kind == 4) = true := beq_iff_eq.2 h4
    have H4 := hid h4
    clear h4
    by_cases h0 : 0 ≤ pl
    rotate_left
    ·
     have HN : Hid (¬ (r.1.kind = 4 ∧ 0 ≤ pl ∧ pl < (r.1.l.length : Int))) := hid (fun e => h0 e.2.1)
     go_wp2_with fail
     go_meet
     exact ⟨false, rfl, RpB.no HN.out, rfl⟩
    by_cases hp : pl < (r.1.l.length : Int)
    rotate_left
    ·
     have HN : Hid (¬ (r.1.kind = 4 ∧ 0 ≤ pl ∧ pl < (r.1.l.length : Int))) := hid (fun e => hp e.2.2)
     have hpd : decide (pl < (r.1.l.length : Int)) = false := decide_eq_false hp
     go_wp2_with fail
     go_meet
     exact ⟨false, by first | rfl | rw [hpd], RpB.no HN.out, rfl⟩
    have HN : Hid (r.1.kind = 4 ∧ 0 ≤ pl ∧ pl < (r.1.l.length : Int)) := hid ⟨H4.out, h0, hp⟩
    have hpd : decide (pl < (r.1.l.length : Int)) = true := decide_eq_true hp
    go_wp2_with fail
    go_meet
    exact ⟨true, by first | rfl | rw [hpd], RpB.yes HN.out, rfl⟩
   obtain ⟨b, rfl, hbq, rfl⟩ := hcut
   have HBQ := hid hbq
   clear hbq
   have HRX : Hid (stepR r.1 u = if r.1.kind = 4 ∧ 0 ≤ pl ∧ pl < (r.1.l.length : Int) then r.1.l[pl.toNat]? else getJ r.1 u) := hid (by unfold stepR; rw [HPL.out])
   have HMB : Hid (∀ j x, r.1.l[j]? = some x → ∃ gl fl ly, pq = some ⟨gl, fl, none⟩ ∧ (∀ W, Below w0.heap.size w0 W → W.rangeAt gl (fl + j * 8) (jcells (x, ly))) ∧ JV w0 S1 (x, ly)) := hid (fun j x hx => by
    have h9 := HLQ.out
    cases HJR.out with
    | mk _ xs hn hl hs9 =>
     obtain ⟨p2, c2, e2, _, _, hL2⟩ := hl
     have hj := (List.getElem?_eq_some_iff.1 hx).1
     obtain ⟨g2, f2, e3, _, hg2, hr2⟩ := hL2 (by omega)
     rw [e2] at h9
     injection h9 with h9 _ _
     refine ⟨g2, f2, xs j, h9.symm.trans e3, fun W hW c v hc => ?_, hs9 j x hx⟩
     have hc8 : c < 8 := (List.getElem?_eq_some_iff.1 hc).1
     rw [hW.cell (p := ⟨g2, f2 + j * 8 + c, none⟩) hg2, hr2 j x hx c hc8]; exact hc)
   go_upto_if 44 with fail
   go_cut [10] from 45 to 58 (fun s10 wc => ∃ (ok : Bool) (r2 : JR), s10 = .bool ok ∧ RpS w0 S1 r.1 u ok r2 ∧ RptI w wc g r2 (.slice (some ⟨gn, 0, none⟩) us.length c6) us)
   case first =>
    cases b
    rotate_left
    ·
     have hb3 := HBQ.out.1 rfl
     obtain ⟨j, rfl⟩ : ∃ j : Nat, pl = (j : Int) := ⟨pl.toNat, by have := hb3.2.1; omega⟩
     have hjl : (j : Int) < (r.1.l.length : Int) := hb3.2.2
     obtain ⟨x, hx⟩ : ∃ x, r.1.l[j]? = some x := ⟨_, List.getElem?_eq_getElem (by omega)⟩
     obtain ⟨gl, fl, ly, rfl, hra, hjx⟩ := HMB.out j x hx
     have HSX : Hid (stepR r.1 u = some x ∧ x ∈ r.1.l ∧ JV w0 S1 (x, ly)) := hid ⟨by rw [HRX.out, if_pos hb3, Int.toNat_natCast]; exact hx, List.mem_of_getElem? hx, hjx⟩
     have HRA := hid (hra _ (HB.out.trans (HI.out.be.mono HB.out.size)))
     have k6 := (HCC.out _ HI.out.box).2
     have SLX := hid hjx.slJ
     clear hb3 hx hra hjx
     go_wp2_with (first | (refine wpList_loadMd rfl _ rfl (x, ly) HRA.out rfl ?_) | (refine wpList_storeJ rfl _ _ rfl rfl HI.out.box rfl (x, ly) SLX.out rfl rfl ?_; intro wS hSx))
     go_meet
     exact ⟨true, (x, ly), rfl, ⟨fun _ => HSX.out, fun e => (by cases e)⟩, HI.out.put hSx⟩
    have HGT : Hid (stepR r.1 u = getJ r.1 u) := hid (by rw [HRX.out, if_neg (fun e => by have := HBQ.out.2 e; cases this)])
    clear HMB
    go_upto_region 11 with fail
    have HID := hid (HI.out.below (Below.refl wr.heap.size wr).drew)
    have hS0 : (fun wq => wq.cell? ⟨gn, i, none⟩ = some (.string ⟨u.toArray⟩)) wr.drew := HNS.out _ _ HID.out
    refine wp_region_held_drew (S := (fun wq => wq.cell? ⟨gn, i, none⟩ = some (.string ⟨u.toArray⟩))) (by kernel_rfl) hS0 (fun hHeld0 => ?_)
    obtain ⟨wd, hwd⟩ : ∃ wd, wr.drew = wd := ⟨_, rfl⟩
    have hSD : (fun wq => wq.cell? ⟨gn, i, none⟩ = some (.string ⟨u.toArray⟩)) wd := by rw [← hwd]; exact hS0
    rw [hwd] at HID hHeld0 ⊢
    clear hwd hS0
    refine held_ta 1 hHeld0 ?_
    refine held_ta 2 hHeld0 ?_
    refine held_ta 3 hHeld0 ?_
    refine held_ta 4 hHeld0 ?_
    refine held_st 0 rfl (fun K hK => ?_)
    refine oper_loadJ _ rfl r HID.out.box rfl ?_
    try simp only [Act.put, List.setIfInBounds_toArray, List.set_cons_zero, List.set_cons_succ]
    refine hK.out _ _ hSD (fun hHeld1 => ?_)
    clear hK K hHeld0
    refine held_st 5 rfl (fun K hK => ?_)
    go_simp
    refine (getR_calls HJR.out wd (HB.out.trans (HID.out.be.mono HB.out.size)) (ns_lens HGR.out) (by have := HZR.out; omega) u).mono ?_
    rintro ez w5 hget
    obtain ⟨r2, ok, rfl, hsl, ht, hf, hb5⟩ := hget.one
    have HT : Hid (RpS w0 S1 r.1 u ok r2) := hid ⟨fun e => by rw [HGT.out]; exact ht e, fun e => by rw [HGT.out]; exact hf e⟩
    have HSL2 := hid hsl
    have HI5 := hid (HID.out.below hb5)
    clear hget hsl ht hf hb5
    refine hK.out _ _ (HNS.out _ _ HI5.out) (fun hHeld2 => ?_)
    clear hK K hHeld1
    refine held_ta 6 hHeld2 ?_
    refine held_ta 7 hHeld2 ?_
    refine held_ta 8 hHeld2 ?_
    refine held_st 9 rfl (fun K hK => ?_)
    refine oper_storeJ _ _ rfl rfl HI5.out.box rfl r2 HSL2.out rfl rfl ?_
    intro wS hSx
    have HI6 := hid (HI5.out.put hSx)
    refine hK.out _ _ (HNS.out _ _ HI6.out) (fun hHeld3 => ?_)
    clear hK K hHeld2
    refine held_ta 10 hHeld3 ?_
    refine wpAnyH_done (by kernel_rfl) ?_ _
    clear hHeld3
    go_wp2_with fail
    go_meet
    exact ⟨ok, r2, rfl, HT.out, HI6.out⟩
   obtain ⟨ok, r2, rfl, hst, hI2⟩ := hcut
   have HST := hid hst
   have HI2 := hid hI2
   have HWK2 : Hid (walkR r1.1 us = match stepR r.1 u with
    | none => none
    | some x => walkR x (us.drop (i + 1))) := hid (by rw [HWK.out, HDR.out]; rfl)
   clear hst hI2 HI HMB HNS
   cases ok
   ·
    have HA : Hid (QA = (J.zero, 7)) := hid (by rw [HQ2.out, HWK2.out, HST.out.2 rfl])
    go_wp2_with (first | with_reducible refine stop_ret ?_ | (refine wpList_storeJ rfl _ _ rfl rfl HI2.out.res rfl jzero slJ_zero rfl rfl ?_; intro wS hSx))
    refine hid ?_
    refine bodyPost_retJt jzero rfl rfl rfl rfl hSx.row ?_
    rw [HA.out]
    exact ⟨⟨jzero, rfl, rfl, JV.zero _ _⟩, hSx.below HI2.out.be (by have := HG.out; omega) HI2.out.be.size⟩
   have hs2 := HST.out.1 rfl
   have hub : us.length ≤ 90000001 := HUL.out.1
   have hwi : IntKind.i64.wrap ((i : Int) + 1) = ((i + 1 : Nat) : Int) := by rw [IntWalk.i64_in _ (by omega)]; omega
   go_wp2_with fail
   go_roundg (us.length - (i + 1))
   case measure => have := Hki.out; omega
   exact ⟨i + 1, r2, rfl, by omega, by go_num, hs2.2.2, (good_mem HGR.out hs2.2.1).1, Nat.le_trans (good_mem HGR.out hs2.2.1).2 HZR.out, by rw [HWK2.out, hs2.1], HI2.out⟩
  have hlti : ¬ (i : Int) < (us.length : Int) := by omega
  have HA : Hid (QA = (r.1, 0)) := hid (by rw [HQ2.out, HWK.out, List.drop_of_length_le (by omega)]; rfl)
  have SLR := hid HJR.out.slJ
  go_wp2_with (first | with_reducible refine stop_ret ?_ | (refine wpList_loadJ rfl _ rfl r HI.out.box rfl ?_) | (refine wpList_storeJ rfl _ _ rfl rfl HI.out.res rfl r SLR.out rfl rfl ?_; intro wS hSx))
  refine hid ?_
  refine bodyPost_retJt r rfl rfl rfl rfl hSx.row ?_
  rw [HA.out]
  exact ⟨⟨r, rfl, rfl, HJR.out⟩, hSx.below HI.out.be (by have := HI.out.lo; omega) HI.out.be.size⟩
open Go.RowKit
theorem itoaJ_calls (w : World) (ht : Tab w) (n : Int) (h0 : -9223372036854775808 ≤ n) (h1 : n ≤ 9223372036854775807) : Calls Tryz.prog 61 #[.int .i64 n] w fun e w' => e = .returned (.string ⟨(Lib.itoa n).toArray⟩) ∧ Below w.heap.size w w' := by
 refine (Tryz.strconv_Itoa n h0 h1 w ht).mono ?_
 rintro e w' ⟨rfl, k, os, rfl⟩
 exact ⟨rfl, below_grow w k os⟩
def labV (v : J) (i : Nat) : List UInt8 := if v.kind = 5 then v.ns.getD i [] else Lib.itoa (i : Int)
theorem labR_calls {w0 : World} {S1 : Nat → Prop} {r1 : JR} (h1 : JV w0 S1 r1) (hTab : Tab w0) (w : World) (hb : Below w0.heap.size w0 w) (i : Nat) (hi : i < r1.1.l.length) (hsz : r1.1.l.length ≤ 20000000) (hk : r1.1.kind = 5 → r1.1.ns.length = r1.1.l.length) :
  Calls Tryz.prog 63 #[jval r1, .int .i64 (i : Int)] w (fun e w' => e = .returned (.string ⟨(labV r1.1 i).toArray⟩) ∧ Below w.heap.size w w') := by
 have HB := hid hb
 have HT := hid hTab
 have HSZ := hid (show i ≤ 20000000 by omega)
 by_cases h5 : r1.1.kind = 5
 ·have hn := hk h5
  cases h1 with
  | mk _ xs hn1 hl1 hs1 =>
  obtain ⟨pn, cn, hpn, _, _, hN⟩ := hn1
  obtain ⟨gn, fn, rfl, _, hgn, hcell⟩ := hN (by omega)
  obtain ⟨s, hs⟩ : ∃ s, r1.1.ns[i]? = some s := ⟨_, List.getElem?_eq_getElem (by omega)⟩
  have hcs := hcell i s hs
  have hlti : (i : Int) < (r1.1.ns.length : Int) := by omega
  have HL : Hid (labV r1.1 i = s) := hid (by rw [labV, if_pos h5, List.getD_eq_getElem?_getD, hs]; rfl)
  have HCS : Hid (∀ W, Below w.heap.size w W → W.cell? ⟨gn, fn + i, none⟩ = some (.string ⟨s.toArray⟩)) := hid (fun W hW => ((hb.trans (hW.mono hb.size)).cell (p := ⟨gn, fn + i, none⟩) hgn).trans hcs)
  have HCC : Hid (∀ (W : World) (g : Nat), RowAt W g (jcells r1) → W.cell? ⟨g, 0, none⟩ = some (.int .i64 5) ∧ W.cell? ⟨g, 7, none⟩ = some (.slice (some ⟨gn, fn, none⟩) r1.1.ns.length cn)) := hid (fun W g h => ⟨by rw [← h5]; exact h.cell 0 _ rfl, by rw [← hpn]; exact h.cell 7 _ rfl⟩)
  clear hb hTab hsz hk h5 hn hpn hN hcell hs hcs hl1 hs1 hgn hi
  go_enter Tryz.func63, Tryz.ntmps63
  go_upto_region 1 with (refine wpList_boxJ rfl _ rfl r1 rfl ?_; intro w1 hBx)
  have hcc := HCC.out _ _ hBx.row
  have c0 := hcc.1
  have c7 := hcc.2
  have n0 := HCS.out _ hBx.be
  have HBE := hid hBx.be
  clear hcc hBx
  go_wp2_with fail
  go_ret
  exact ⟨by rw [HL.out]; rfl, HBE.out⟩
 ·have n5 : (r1.1.kind == 5) = false := beq_eq_false_iff_ne.2 h5
  have HL : Hid (labV r1.1 i = Lib.itoa (i : Int)) := hid (by rw [labV, if_neg h5])
  clear hb hTab hsz hk h5 hi h1
  go_enter Tryz.func63, Tryz.ntmps63
  go_upto_region 1 with (refine wpList_boxJ rfl _ rfl r1 rfl ?_; intro w1 hBx)
  have c0 := hBx.row.cell 0 _ rfl
  have HBE := hid hBx.be
  clear hBx
  go_wp2_with (refine (itoaJ_calls w1 (HT.out.below (HB.out.trans (HBE.out.mono HB.out.size))) (i : Int) (by omega) (by have := HSZ.out; omega)).mono ?_; rintro e w2 ⟨rfl, hb2⟩)
  go_ret
  exact ⟨by rw [HL.out]; rfl, HBE.out.trans (hb2.mono HBE.out.size)⟩
end Go.Proofs.YtfclfaidmipjpaaGreatDoor
