/- Texts of this claim, joined: Rfd, Pth, JN, Plc, Get, Ppl, Rpt, Lab, Alw, Alc, Rin. -/
import Derived.Test.YtfclfaidmipjpaaGreatDoorWa00
namespace Go.Proofs.YtfclfaidmipjpaaGreatDoor
set_option maxRecDepth 100000
set_option maxHeartbeats 20000000
open Go.Lib (hid)
open Go.RowKit
def HandsC {α : Type} (F : Fence) (n : Nat) (P : Program) (gf : Nat) (lb : Array Value) (encs : α → Array Value) (Clos : World → Prop) (E : Nat → List α → α → World → Prop) (S Sp : List α → Prop) (w : World) : Prop :=
 ∀ (l : Nat) (J Jx : List α → World → Prop) (W : World), Below w.heap.size w W → Grows J → Grows Jx → (∀ pre V, J pre V → Clos V) →
  (∀ pre x V, J pre V → E W.heap.size pre x V → YieldAt F (n - 1) P l (encs x) V fun e V' =>
   (e = .returned (.bool true) ∧ J (pre ++ [x]) V' ∧ V.heap.size ≤ V'.heap.size) ∨ (e = .returned (.bool false) ∧ Jx (pre ++ [x]) V')) →
  J [] W →
  CallsIn F n P gf (#[.func (.yield l) #[] #[]] ++ lb) W fun e V => (∃ v, e = .returned v) ∧ ((∃ xs, S xs ∧ J xs V) ∨ ∃ pre, Sp pre ∧ Jx pre V)
def HandPostC {α : Type} (B : Nat) (I : List α → World → Prop) (Ix : Code → List α → World → Prop) (xs : List α) (W : World) : Exit → Act → World → Prop
 | .normal, _, V => KeepsFrom B W V ∧ I xs V
 | .ret, _, V => KeepsFrom B W V ∧ Ix .ret xs V
 | .exit id, _, V => KeepsFrom B W V ∧ Ix (.exit id) xs V
 | .goto t, _, V => KeepsFrom B W V ∧ Ix (.goto t) xs V
 | .panic _, _, _ => False
 | .outgrown, _, _ => False
theorem range_handsC {α : Type} {F : Fence} {n : Nat} {P : Program} {g : Operand} {ps : Array Tmp} {assign body : Code} {Q : Exit → Act → World → Prop} {a : Act} {w : World}
  (hro : F.round = none) (h1 : 1 ≤ n) {gf : Nat} {lb : Array Value} (hg : a.eval g = .func (.func gf) #[] lb) (hFg : F.fn gf) (eg : ∀ args w, (callFunc gf args).run P w = .ok (.enter gf args) w)
  {encs : α → Array Value} {Clos : World → Prop} {E : Nat → List α → α → World → Prop} {S Sp : List α → Prop} {w0 : World} (hh : HandsC F (n - 1) P gf lb encs Clos E S Sp w0) (hb0 : Below w0.heap.size w0 w) (hps : ∀ x, (encs x).size = ps.size)
  (I : List α → World → Prop) (Ix : Code → List α → World → Prop) (hI : Turns w.heap.size I) (hG : Grows I) (hIx : ∀ c, Turns w.heap.size (Ix c)) (hGx : ∀ c, Grows (Ix c)) (hCl : ∀ s W, I s W → Clos W) (h0 : I [] w)
  (hround : ∀ (l : Nat) (pre : List α) (x : α) (W : World), l = w.heap.size + 1 → l < W.heap.size → I pre W → E (w.heap.size + 2) pre x W →
   assign.wpIn (F.inRound l) (n - 1 - 1) P (Exit.then (fun a1 W1 => KeepsFrom w.heap.size W W1 ∧ ∀ W2, Apart (fun k => k = l) W1 W2 → W2.heap.size = W1.heap.size →
    body.wpIn (F.inRound l) (n - 1 - 1) P (HandPostC w.heap.size I Ix (pre ++ [x]) W2) a1 W2) (fun _ _ _ => False)) { tmps := (ps.zip (encs x)).foldl (fun t (p, v) => t.setIfInBounds p v) a.tmps, defers := [] } W)
  (hdone : ∀ (D : Nat) (xs : List α) (W : World), D = w.heap.size → S xs → I xs W → W.heap[D]? = some (.deferred (some [])) → Q .normal { a with defers := { target := .collected D, args := #[] } :: a.defers } W)
  (hstop : ∀ (D : Nat) (c : Code) (pre : List α) (W : World), D = w.heap.size → Sp pre → Ix c pre W → W.heap[D]? = some (.deferred (some [])) → c.wpIn F n P Q { a with defers := { target := .collected D, args := #[] } :: a.defers } W) :
  (Code.rangeFunc g ps assign body).wpIn F n P Q a w := by
 refine wpIn_rangeFunc (fun fn hfn => ?_)
 rw [hro]
 obtain ⟨B, hB⟩ : ∃ B, w.heap.size = B := ⟨_, rfl⟩
 obtain ⟨rc, hrc⟩ : ∃ rc : LoopState → Option Code → Loop, ∀ st pe, rc st pe = { state := st, pending := pe, fn, tmps := a.tmps, params := ps, assign, body, defers := B } := ⟨_, fun _ _ => rfl⟩
 obtain ⟨V0, hV0⟩ : ∃ V0, (w.alloc (.deferred (some []))).alloc (.loop (rc .ready none)) = V0 := ⟨_, rfl⟩
 have hbV : Below w.heap.size w V0 := by rw [← hV0]; exact ((Below.refl _ w).alloc (Nat.le_refl _) _).alloc (by rw [World.size_alloc]; omega) _
 have hsV : V0.heap.size = B + 2 := by rw [← hV0, World.size_alloc, World.size_alloc, hB]
 have hlV : V0.heap[B + 1]? = some (.loop (rc .ready none)) := by
  have h := World.alloc_heap_new (w.alloc (.deferred (some []))) (.loop (rc .ready none))
  rw [World.size_alloc, hB] at h; rw [← hV0]; exact h
 have hdV : V0.heap[B]? = some (.deferred (some [])) := by
  have h := World.alloc_heap_new w (.deferred (some []))
  rw [hB] at h; rw [← hV0]; exact (Below.heap_alloc _ _ _ (by rw [World.size_alloc]; omega)).trans h
 have hen := run_enterLoop_outer (P := P) (w := w) fn a.tmps ps assign body
 rw [hB, ← hrc .ready none, hV0] at hen
 rw [hB] at hI hIx hround hdone hstop
 refine ⟨B + 1, [{ target := .collected B, args := #[] }], V0, { target := .fn (.func gf) lb, args := #[.func (.yield (B + 1)) #[] #[]] }, V0, gf, #[.func (.yield (B + 1)) #[] #[]] ++ lb, V0, hen, ?_, ?_, ?_, fun _ => h1, ?_⟩
 ·simp only [resolve, hg]
  simp [go_sem]
 ·intro f' hf'; simp [Target.leads] at hf'; subst hf'; exact hFg
 ·simp [invoke, go_sem, eg]
 have book : ∀ {W V : World}, Below W.heap.size W V → ∀ {k o}, W.heap[k]? = some o → V.heap[k]? = some o := fun hb k o h => (hb.block k (Array.getElem?_eq_some_iff.1 h).1).trans h
 refine (hh (B + 1)
  (fun pre W => I pre W ∧ W.heap[B + 1]? = some (.loop (rc .ready none)) ∧ W.heap[B]? = some (.deferred (some [])))
  (fun pre W => ∃ c, Ix c pre W ∧ W.heap[B + 1]? = some (.loop (rc .done (some c))) ∧ W.heap[B]? = some (.deferred (some [])))
  V0 (hb0.trans (hbV.mono hb0.size))
  (fun s W V h hb => ⟨hG s W V h.1 hb, book hb h.2.1, book hb h.2.2⟩)
  (fun s W V h hb => by obtain ⟨c, h1, h2, h3⟩ := h; exact ⟨c, hGx c s W V h1 hb, book hb h2, book hb h3⟩)
  (fun s W h => hCl s W h.1)
  ?_ ⟨hG _ _ _ h0 hbV, hlV, hdV⟩).mono ?_
 ·rintro pre x W ⟨hi, hl, hd⟩ hE
  rw [hsV] at hE
  have hlt : B + 1 < W.heap.size := (Array.getElem?_eq_some_iff.1 hl).1
  have hy := run_yield (P := P) (args := encs x) hl (by rw [hrc]; exact hps x)
  rw [hrc] at hy
  refine ⟨fn, _, assign, body, hy, roundIn_of_wpIn hfn (wpIn_mono (hround _ pre x W rfl hlt hi hE) ?_)⟩
  clear hy
  intro e a1 W1 he
  cases e with
  | normal =>
   obtain ⟨hk1, hbody⟩ := he
   have hl1 := hk1.same _ _ (by omega) hl rfl
   have hd1 := hk1.same _ _ (Nat.le_refl _) hd rfl
   have hlt1 : B + 1 < W1.heap.size := (Array.getElem?_eq_some_iff.1 hl1).1
   refine ⟨_, run_beginRound hl1 (by rw [hrc]), ?_⟩
   obtain ⟨W2, hW2⟩ : ∃ W2, W1.putObj (B + 1) (.loop { rc .ready none with state := .busy }) = W2 := ⟨_, rfl⟩
   rw [hW2]
   have hl2 : W2.heap[B + 1]? = some (.loop { rc .ready none with state := .busy }) := by rw [← hW2]; exact World.putObj_heap_same hlt1
   have hd2 : W2.heap[B]? = some (.deferred (some [])) := by rw [← hW2]; exact (World.putObj_heap_other (by omega)).trans hd1
   refine wpIn_mono (hbody W2 (by rw [← hW2]; exact putObj_apart _ _ _) (by rw [← hW2]; simp [World.putObj])) ?_
   have fin : ∀ (j : Option Code) (W3 : World), KeepsFrom B W2 W3 → ∃ V, (Instr.endRound (B + 1) j).run P W3 = .ok (.bool j.isNone) V ∧ V = W3.putObj (B + 1) (.loop (rc (if j.isNone then .ready else .done) j)) ∧ (∃ o, W3.heap[B + 1]? = some o ∧ o.isCells = false) ∧
     V.heap[B + 1]? = some (.loop (rc (if j.isNone then .ready else .done) j)) ∧ V.heap[B]? = some (.deferred (some [])) := fun j W3 hk3 => by
    have hl3 := hk3.same _ _ (by omega) hl2 rfl
    have hd3 := hk3.same _ _ (Nat.le_refl _) hd2 rfl
    have hlt3 : B + 1 < W3.heap.size := (Array.getElem?_eq_some_iff.1 hl3).1
    have hr := run_endRound (P := P) j hl3
    have er : ({ { rc .ready none with state := .busy } with state := if j.isNone then .ready else .done, pending := j } : Loop) = rc (if j.isNone then .ready else .done) j := by rw [hrc, hrc]
    refine ⟨_, hr, by rw [← er], ⟨_, hl3, rfl⟩, by rw [← er]; exact World.putObj_heap_same hlt3, (World.putObj_heap_other (by omega)).trans hd3⟩
   rintro e a3 W3 hp
   cases e with
   | normal =>
    obtain ⟨hk3, hi3⟩ := hp
    obtain ⟨V, hr, hV, ⟨o, ho, hoc⟩, hlV, hdV⟩ := fin none W3 hk3
    have hsz3 : W.heap.size ≤ V.heap.size := by
     have h1 := hk1.size
     have h3 := hk3.size
     have h2 : W2.heap.size = W1.heap.size := by rw [← hW2]; simp [World.putObj]
     have h4 : V.heap.size = W3.heap.size := by rw [hV]; simp [World.putObj]
     omega
    exact ⟨_, _, hr, .inl ⟨rfl, ⟨by rw [hV]; exact hI _ _ _ _ _ hi3 (by omega) ho hoc, hlV, hdV⟩, hsz3⟩⟩
   | ret =>
    obtain ⟨hk3, hi3⟩ := hp
    obtain ⟨V, hr, hV, ⟨o, ho, hoc⟩, hlV, hdV⟩ := fin (some .ret) W3 hk3
    exact ⟨_, _, hr, .inr ⟨rfl, .ret, by rw [hV]; exact hIx _ _ _ _ _ _ hi3 (by omega) ho hoc, hlV, hdV⟩⟩
   | exit id =>
    obtain ⟨hk3, hi3⟩ := hp
    obtain ⟨V, hr, hV, ⟨o, ho, hoc⟩, hlV, hdV⟩ := fin (some (.exit id)) W3 hk3
    exact ⟨_, _, hr, .inr ⟨rfl, .exit id, by rw [hV]; exact hIx _ _ _ _ _ _ hi3 (by omega) ho hoc, hlV, hdV⟩⟩
   | goto t =>
    obtain ⟨hk3, hi3⟩ := hp
    obtain ⟨V, hr, hV, ⟨o, ho, hoc⟩, hlV, hdV⟩ := fin (some (.goto t)) W3 hk3
    exact ⟨_, _, hr, .inr ⟨rfl, .goto t, by rw [hV]; exact hIx _ _ _ _ _ _ hi3 (by omega) ho hoc, hlV, hdV⟩⟩
   | panic ch => exact hp.elim
   | outgrown => exact hp.elim
  | ret => exact he.elim
  | exit id => exact he.elim
  | goto t => exact he.elim
  | panic ch => exact he.elim
  | outgrown => exact he.elim
 ·rintro e V ⟨⟨v, rfl⟩, (⟨xs, hS, hi, hl, hd⟩ | ⟨pre, hSp, c, hi, hl, hd⟩)⟩
  ·have hr := run_endLoop (P := P) hl (by rw [hrc]; simp)
   rw [hrc] at hr
   exact ⟨none, _, hr, hdone _ xs _ rfl hS (hI _ _ _ _ _ hi (by omega) hl rfl) ((World.putObj_heap_other (by omega)).trans hd)⟩
  have hr := run_endLoop (P := P) hl (by rw [hrc]; simp)
  rw [hrc] at hr
  exact ⟨some c, _, hr, hstop _ c pre _ rfl hSp (hIx _ _ _ _ _ _ hi (by omega) hl rfl) ((World.putObj_heap_other (by omega)).trans hd)⟩
open Go.RowKit
theorem u8_beq_no (c d : UInt8) (h : c ≠ d) : ((c.toNat : Int) == (d.toNat : Int)) = false := by
 rw [beq_eq_false_iff_ne]
 intro e
 exact h (UInt8.toNat_inj.1 (by omega))
theorem hdrop9 {s : List UInt8} {i : Nat} (h : i < s.length) : s.drop i = s.getD i 0 :: s.drop (i + 1) := by
 rw [List.drop_eq_getElem_cons h]
 congr 1
 simp [h]
open Go.RowKit
/-! ### DecM -/
/-! ### Dec6 -/
/-! ### Pla3 -/
/-! ### Ref5 -/
/-! ### IntL -/
/-! ### Int1 -/
/-! ### Int2 -/
open Go.RowKit
def placeV (s : List UInt8) : Int := if s.length < 1 ∨ 9 < s.length ∨ (s.getD 0 0 = 48 ∧ 1 < s.length) then -1 else if digAll s = true then (dval s : Int) else -1
theorem placeV_no {s : List UInt8} (h : s.length < 1 ∨ 9 < s.length ∨ (s.getD 0 0 = 48 ∧ 1 < s.length)) : placeV s = -1 := by rw [placeV, if_pos h]
theorem placeV_dig {s : List UInt8} (h : ¬ (s.length < 1 ∨ 9 < s.length ∨ (s.getD 0 0 = 48 ∧ 1 < s.length))) : placeV s = if digAll s = true then (dval s : Int) else -1 := by rw [placeV, if_neg h]
theorem dval_few {l : List UInt8} (h : digAll l = true) : dval l < 10 ^ l.length := dval_lt ((digAll_iff l).1 h)
open Go.RowKit
def getJ (v : J) (u : List UInt8) : Option J := if u ∈ v.ns then v.l[v.ns.idxOf u]? else none
theorem idxOf_at {u : List UInt8} : ∀ (ns : List (List UInt8)) (i : Nat), ns[i]? = some u → u ∉ ns.take i → ns.idxOf u = i
 | [], i, h, _ => by simp at h
 | a :: t, 0, h, _ => by simp only [List.getElem?_cons_zero, Option.some.injEq] at h; subst h; exact List.idxOf_cons_self
 | a :: t, i + 1, h, hn => by
  simp only [List.getElem?_cons_succ] at h
  simp only [List.take_succ_cons, List.mem_cons, not_or] at hn
  rw [List.idxOf_cons, show (a == u) = false by rw [beq_eq_false_iff_ne]; exact fun e => hn.1 e.symm, idxOf_at t i h hn.2]; rfl
open Go.RowKit
theorem dec_rec {u : Nat} (h : ¬ u < 10) : Lib.decDigits u = Lib.decDigits (u / 10) ++ [UInt8.ofNat (48 + u % 10)] := by rw [Lib.decDigits, dif_neg h]
theorem u8_48 {d : Nat} (h : d < 10) : (UInt8.ofNat (48 + d)).toNat = 48 + d := by
 have h9 : (UInt8.ofNat (48 + d)).toNat = (48 + d) % 256 := by first | rfl | simp
 omega
theorem dec_facts : ∀ u : Nat, Dig (Lib.decDigits u) ∧ dval (Lib.decDigits u) = u ∧ (u ≠ 0 → (Lib.decDigits u).getD 0 0 ≠ 48) ∧ Lib.decDigits u ≠ [] := by
 intro u
 induction u using Nat.strongRecOn with
 | _ u ih =>
  by_cases h : u < 10
  ·rw [Lib.decDigits_one h]
   have h8 := u8_48 h
   refine ⟨fun c hc => ?_, ?_, fun h0 e => ?_, by simp⟩
   ·rw [List.mem_singleton.1 hc, h8]; omega
   ·simp only [dval, List.foldl_cons, List.foldl_nil, h8]; omega
   have e2 : (UInt8.ofNat (48 + u)).toNat = 48 := by
    have e3 : UInt8.ofNat (48 + u) = 48 := e
    rw [e3]; rfl
   omega
  obtain ⟨h1, h2, h3, h4⟩ := ih (u / 10) (by omega)
  have h8 := u8_48 (Nat.mod_lt u (show 10 > 0 by decide))
  rw [dec_rec h]
  refine ⟨fun c hc => ?_, ?_, fun _ => ?_, by simp⟩
  ·rcases List.mem_append.1 hc with hc | hc
   ·exact h1 c hc
   rw [List.mem_singleton.1 hc, h8]; omega
  ·rw [dval_snoc, h2, h8]; omega
  obtain ⟨c, t, e⟩ := List.exists_cons_of_ne_nil h4
  have h9 := h3 (by omega)
  rw [e] at h9 ⊢
  exact h9
theorem nDig_le : ∀ (k u : Nat), 1 ≤ k → u < 10 ^ k → Lib.nDigits u ≤ k
 | 0, _, h, _ => by omega
 | k + 1, u, _, h => by
  by_cases h1 : u < 10
  ·rw [Lib.nDigits_small h1]; omega
  rw [Lib.nDigits_big h1]
  have hk : 1 ≤ k := by
   rcases Nat.eq_zero_or_pos k with e | e
   ·subst e; simp at h; omega
   exact e
  have := nDig_le k (u / 10) hk (by rw [Nat.div_lt_iff_lt_mul (by decide)]; rw [Nat.pow_succ] at h; exact h)
  omega
theorem dec_of : ∀ (s : List UInt8), Dig s → s ≠ [] → (s.getD 0 0 = 48 → s.length = 1) → s = Lib.decDigits (dval s) := by
 intro s
 induction hn : s.length using Nat.strongRecOn generalizing s with
 | _ n ih =>
  intro hd hne h0
  obtain ⟨t, c, rfl⟩ : ∃ t c, s = t ++ [c] := ⟨s.dropLast, s.getLast hne, (List.dropLast_concat_getLast hne).symm⟩
  have hc := hd c (by simp)
  rw [dval_snoc]
  by_cases ht : t = []
  ·subst ht
   have e : dval [] = 0 := rfl
   rw [e, Nat.mul_zero, Nat.zero_add, Lib.decDigits_one (by omega), show 48 + (c.toNat - 48) = c.toNat by omega, UInt8.ofNat_toNat]; rfl
  obtain ⟨x, r, rfl⟩ := List.exists_cons_of_ne_nil ht
  have hx : x ≠ 48 := fun e => by
   have h9 := h0 e
   have h8 := hn
   simp only [List.length_append, List.length_cons, List.length_nil] at h8
   omega
  have h1 := ih (x :: r).length (by rw [← hn]; simp) (x :: r) rfl (fun y hy => hd y (by simp only [List.mem_append]; exact .inl hy)) (by simp) (fun e => absurd e hx)
  have hxd := hd x (by simp)
  have hpos : 1 ≤ dval (x :: r) := by
   rcases Nat.eq_zero_or_pos (dval (x :: r)) with e | e
   ·rw [e] at h1
    rw [Lib.decDigits_one (by decide)] at h1
    injection h1 with h1 _
    exact absurd (by rw [h1]; rfl) hx
   exact e
  rw [dec_rec (by omega), show (10 * dval (x :: r) + (c.toNat - 48)) / 10 = dval (x :: r) by omega, show (10 * dval (x :: r) + (c.toNat - 48)) % 10 = c.toNat - 48 by omega, ← h1, show 48 + (c.toNat - 48) = c.toNat by omega, UInt8.ofNat_toNat]
theorem parse10_few : ∀ (l : List UInt8) (acc : Nat), Dig l → (acc + 1) * 10 ^ l.length ≤ 10000000000000000000 → Lib.parseUint10 acc l = .ok (acc * 10 ^ l.length + dval l) := by
 intro l
 induction l with
 | nil => intro acc _ _; simp [Lib.parseUint10, dval]
 | cons c t ih =>
  intro acc hd hb
  have hc := hd c (by simp)
  have hp : 0 < 10 ^ t.length := Nat.pow_pos (by omega)
  rw [List.length_cons, Nat.pow_succ] at hb
  have hb2 : (acc * 10 + 10) * 10 ^ t.length ≤ 10000000000000000000 := by
   rw [show (acc * 10 + 10) * 10 ^ t.length = (acc + 1) * (10 ^ t.length * 10) by rw [Nat.mul_comm (10 ^ t.length) 10, ← Nat.mul_assoc]; congr 1; omega]
   exact hb
  have hb3 : acc * 10 + 10 ≤ (acc * 10 + 10) * 10 ^ t.length := Nat.le_mul_of_pos_right _ (by omega)
  unfold Lib.parseUint10
  rw [if_pos hc, if_neg (by omega), if_neg (by omega), ih _ (fun x hx => hd x (by simp [hx]))]
  ·rw [dval_cons, List.length_cons, Nat.pow_succ]
   congr 1
   rw [Nat.add_mul, Nat.mul_assoc, Nat.mul_comm 10, Nat.add_assoc]
  refine Nat.le_trans (Nat.mul_le_mul_right _ ?_) hb2
  omega
theorem atoi_dec {n : Nat} (h : n < 1000000000) : Lib.atoiAll (Lib.decDigits n) = .ok (n : Int) := by
 obtain ⟨h1, h2, _, h4⟩ := dec_facts n
 have hl : (Lib.decDigits n).length ≤ 9 := by rw [Lib.decDigits_length]; exact nDig_le 9 n (by decide) (by simpa using h)
 obtain ⟨c, t, e⟩ := List.exists_cons_of_ne_nil h4
 rw [e] at h1 h2 hl ⊢
 have hc := h1 c (by simp)
 rw [Lib.atoiAll_plain c t (by omega) (by omega)]
 have hp : 10 ^ (c :: t).length ≤ 10 ^ 9 := Nat.pow_le_pow_right (by decide) hl
 have hpm : Lib.parseMag (c :: t) = .ok n := by
  unfold Lib.parseMag
  rw [if_neg (by simp), parse10_few (c :: t) 0 h1 (by omega), Nat.zero_mul, Nat.zero_add, h2]
 rw [hpm]
 unfold Lib.signless
 simp only
 rw [if_neg (by omega)]
theorem place_step (u : List UInt8) {m : Nat} (hm : m ≤ 20000000) : stepN u m = if 0 ≤ placeV u ∧ placeV u < (m : Int) then some (placeV u).toNat else none := by
 by_cases hp : ∃ n : Nat, n < 1000000000 ∧ u = Lib.decDigits n
 ·obtain ⟨n, hn, rfl⟩ := hp
  obtain ⟨h1, h2, h3, h4⟩ := dec_facts n
  have hl : (Lib.decDigits n).length ≤ 9 := by rw [Lib.decDigits_length]; exact nDig_le 9 n (by decide) (by simpa using hn)
  have hpl : placeV (Lib.decDigits n) = (n : Int) := by
   rw [placeV_dig, if_pos ((digAll_iff _).2 h1), h2]
   rintro (h | h | ⟨h, h'⟩)
   ·exact h4 (List.length_eq_zero_iff.1 (by omega))
   ·omega
   by_cases h0 : n = 0
   ·subst h0
    rw [Lib.decDigits_one (by decide)] at h'
    simp at h'
   exact h3 h0 h
  rw [hpl, stepN, atoi_dec hn]
  simp only
  have hit : Lib.itoa (n : Int) = Lib.decDigits n := by unfold Lib.itoa; rw [if_neg (by omega)]; rfl
  rw [hit]
  by_cases hlt : (n : Int) < (m : Int)
  ·rw [if_pos ⟨rfl, by omega, hlt⟩, if_pos ⟨by omega, hlt⟩]
  rw [if_neg (fun h => hlt h.2.2), if_neg (fun h => hlt h.2)]
 have hpl : placeV u = -1 := by
  by_cases hc : u.length < 1 ∨ 9 < u.length ∨ (u.getD 0 0 = 48 ∧ 1 < u.length)
  ·exact placeV_no hc
  rw [placeV_dig hc]
  by_cases hd : digAll u = true
  ·exfalso
   have hne : u ≠ [] := fun e => hc (.inl (by rw [e]; simp))
   have hD := (digAll_iff u).1 hd
   have e := dec_of u hD hne (fun h => by
    have h9 : 0 < u.length := List.length_pos_iff.2 hne
    by_cases h' : 1 < u.length
    ·exact absurd (.inr (.inr ⟨h, h'⟩)) hc
    omega)
   refine hp ⟨dval u, ?_, e⟩
   have h9 : u.length ≤ 9 := by omega
   exact Nat.lt_of_lt_of_le (dval_few hd) (Nat.le_trans (Nat.pow_le_pow_right (by decide) h9) (by decide))
  rw [if_neg hd]
 rw [hpl, if_neg (by omega), stepN]
 split
 ·rename_i n hn
  rw [if_neg]
  rintro ⟨h1, h2, h3⟩
  refine hp ⟨n.toNat, by omega, ?_⟩
  rw [← h1]
  unfold Lib.itoa
  rw [if_neg (by omega)]
 rfl
def stepR (v : J) (u : List UInt8) : Option J := if v.kind = 4 ∧ 0 ≤ placeV u ∧ placeV u < (v.l.length : Int) then v.l[(placeV u).toNat]? else getJ v u
theorem step_same {v : J} (h : goodJ v = true) (hz : v.l.length ≤ 20000000) (u : List UInt8) : stepJ v u = stepR v u := by
 obtain ⟨k, b, n, t, l, ns⟩ := v
 obtain ⟨_, _, _, h4, h5, _, _, _, _⟩ := good_head h
 change l.length ≤ 20000000 at hz
 unfold stepJ stepR getJ
 show (if k = 5 then (if u ∈ ns then l[ns.idxOf u]? else none) else (stepN u l.length).bind (l[·]?)) = if k = 4 ∧ 0 ≤ placeV u ∧ placeV u < (l.length : Int) then l[(placeV u).toNat]? else if u ∈ ns then l[ns.idxOf u]? else none
 by_cases hk : k = 5
 ·rw [if_pos hk, if_neg (show ¬ (k = 4 ∧ 0 ≤ placeV u ∧ placeV u < (l.length : Int)) from fun e => by have := e.1; omega)]
 obtain rfl : ns = [] := h5.resolve_left hk
 rw [if_neg hk, place_step u hz, if_neg (show ¬ u ∈ ([] : List (List UInt8)) by simp)]
 by_cases hk4 : k = 4
 ·by_cases hp : 0 ≤ placeV u ∧ placeV u < (l.length : Int)
  ·rw [if_pos hp, if_pos ⟨hk4, hp⟩]; rfl
  rw [if_neg hp, if_neg (fun e => hp e.2)]; rfl
 obtain rfl : l = [] := (h4.resolve_left hk4).resolve_left hk
 rw [if_neg (fun e => by simp only [List.length_nil] at e; omega), if_neg (fun e => hk4 e.1)]; rfl
open Go.RowKit
def walkR (v : J) : List (List UInt8) → Option J
 | [] => some v
 | u :: us => match stepR v u with
  | none => none
  | some x => walkR x us
theorem stepR_mem {v x : J} {u : List UInt8} (h : stepR v u = some x) : x ∈ v.l := by
 unfold stepR getJ at h
 split at h
 ·exact List.mem_of_getElem? h
 split at h
 ·exact List.mem_of_getElem? h
 cases h
theorem walk_same : ∀ (us : List (List UInt8)) (v : J), goodJ v = true → szJ v ≤ 20000000 → walkJ v us = walkR v us
 | [], _, _, _ => rfl
 | u :: us, v, h, hz => by
  have hl : v.l.length ≤ 20000000 := by
   obtain ⟨k, b, n, t, l, ns⟩ := v
   simp only [szJ] at hz
   have := szL_len l
   show l.length ≤ _
   omega
  have e := step_same h hl u
  unfold walkJ walkR
  rw [e]
  cases hs : stepR v u with
  | none => rfl
  | some x =>
   obtain ⟨h1, h2⟩ := good_mem h (stepR_mem hs)
   exact walk_same us x h1 (by omega)
def rptK (v : J) (o : Option (List (List UInt8))) : J × Int := match o with
 | none => (J.zero, 2)
 | some us => match walkR v us with
  | none => (J.zero, 7)
  | some x => (x, 0)
theorem rpt_same {v : J} (hc : checkJ v = 0) (hz : szJ v ≤ 20000000) (s : List UInt8) : ptrJ v s = rptK v (pathS s) := by
 unfold ptrJ
 rw [if_neg (fun h => h hc)]
 unfold ptrK rptK
 cases pathS s with
 | none => rfl
 | some us =>
  simp only
  rw [walk_same us v (checkJ_zero.1 hc).1 hz]
  cases walkR v us <;> rfl
open Go.RowKit
theorem itoaJ_calls (w : World) (ht : Tab w) (n : Int) (h0 : -9223372036854775808 ≤ n) (h1 : n ≤ 9223372036854775807) : Calls Tryz.prog 61 #[.int .i64 n] w fun e w' => e = .returned (.string ⟨(Lib.itoa n).toArray⟩) ∧ Below w.heap.size w w' := by
 refine (Tryz.strconv_Itoa n h0 h1 w ht).mono ?_
 rintro e w' ⟨rfl, k, os, rfl⟩
 exact ⟨rfl, below_grow w k os⟩
def labV (v : J) (i : Nat) : List UInt8 := if v.kind = 5 then v.ns.getD i [] else Lib.itoa (i : Int)
open Go.RowKit
theorem wpListIn_loadJ {m : Nat} {w : World} {ops : Array Oper} {rest : List Oper} {o : Oper} {a : Act} {Q : Exit → Act → World → Prop} (hgd : o.guard = none) (x : Operand) (ho : o.op = .load 30 x) {g : Nat} (r : JR) (hr : RowAt w g (jcells r)) (hx : a.eval x = .pointer (some ⟨g, 0, none⟩))
  (hK : wpListIn Fence.wide m Tryz.prog ops Q rest (a.put o.dst (jval r)) w) : wpListIn Fence.wide m Tryz.prog ops Q (o :: rest) a w := by
 refine wpListIn_plain hgd fun K hK' => ?_
 have hrun := exec_loadJ (a := a) x ho hx r hr
 unfold Oper.wpIn
 refine ⟨fun _ _ => trivial, ?_⟩
 rw [show Oper.semAt Fence.wide.round a.eval o = execOp a.eval o from rfl, hrun]
 exact hK' _ _ hK
def encA (x : List UInt8 × JR) : Array Value := #[.string ⟨x.1.toArray⟩, jval x.2]
def EA (v : J) (B : Nat) (pre : List (List UInt8 × JR)) (x : List UInt8 × JR) (W : World) : Prop := x.1 = labV v pre.length ∧ v.l[pre.length]? = some x.2.1 ∧ JV W (fun k => B ≤ k) x.2
open Go.RowKit
def ClA (S1 : Nat → Prop) (g : Nat) (r1 : JR) (V : World) : Prop := RowAt V g (jcells r1) ∧ JV V S1 r1 ∧ Tab V
theorem all1_handsC {S1 : Nat → Prop} {r1 : JR} {g : Nat} (hgood : goodJ r1.1 = true) (hsz : szJ r1.1 ≤ 20000000) (w : World) (m : Nat) :
  HandsC Fence.wide m Tryz.prog 60 #[.pointer (some ⟨g, 0, none⟩)] encA (ClA S1 g r1) (EA r1.1) (fun xs => xs.length = r1.1.l.length) (fun _ => True) w := by
 intro l J Jx W hW hGJ hGx hCl hY h0
 refine callsIn_wide.2 ?_
 change Calls Tryz.prog 60 #[.func (.yield l) #[] #[], .pointer (some ⟨g, 0, none⟩)] W _
 have HGD := hid hgood
 have HSZ := hid hsz
 have HCL := hid hCl
 have HGJ := hid hGJ
 have HGX := hid hGx
 have HY := hid hY
 have H0 := hid h0
 have hj := (hCl _ _ h0).2.1
 have hln : r1.1.l.length ≤ 20000000 := by
  obtain ⟨⟨k, b, n, t, l, ns⟩, _⟩ := r1
  simp only [szJ] at hsz
  have := szL_len l
  show l.length ≤ _
  omega
 have HLN := hid hln
 obtain ⟨p9, c9, hlq⟩ : ∃ pq cq, r1.2.1 = .slice pq r1.1.l.length cq := by
  cases hj with
  | mk _ xs hn hl hs9 => obtain ⟨p9, c9, e9, _⟩ := hl; exact ⟨p9, c9, e9⟩
 have HMB : Hid (∀ V, ClA S1 g r1 V → ∀ j x, r1.1.l[j]? = some x → ∃ gl fl ly, p9 = some ⟨gl, fl, none⟩ ∧ V.rangeAt gl (fl + j * 8) (jcells (x, ly)) ∧ JV V S1 (x, ly)) := hid (fun V hV j x hx => by
  have h9 := hlq
  cases hV.2.1 with
  | mk _ xs hn hl hs9 =>
   obtain ⟨p2, c2, e2, _, _, hL2⟩ := hl
   have hj := (List.getElem?_eq_some_iff.1 hx).1
   obtain ⟨g2, f2, e3, _, hg2, hr2⟩ := hL2 (by omega)
   rw [e2] at h9
   injection h9 with h9 _ _
   refine ⟨g2, f2, xs j, h9.symm.trans e3, fun c v hc => ?_, hs9 j x hx⟩
   have hc8 : c < 8 := (List.getElem?_eq_some_iff.1 hc).1
   rw [hr2 j x hx c hc8]; exact hc)
 have HNM : Hid (r1.1.kind = 5 → ∀ V, ClA S1 g r1 V → ∀ j s, r1.1.ns[j]? = some s → ∃ gn fn cn, r1.2.2 = .slice (some ⟨gn, fn, none⟩) r1.1.ns.length cn ∧ V.cell? ⟨gn, fn + j, none⟩ = some (.string ⟨s.toArray⟩) ∧ gn < V.heap.size) := hid (fun _ V hV j s hs => by
  cases hV.2.1 with
  | mk _ xs hn hl hs9 =>
   obtain ⟨pn, cn, hpn, _, _, hN⟩ := hn
   have hj := (List.getElem?_eq_some_iff.1 hs).1
   obtain ⟨gn, fn, e3, _, hgn, hcell⟩ := hN (by omega)
   exact ⟨gn, fn, cn, by rw [hpn, e3], hcell j s hs, hgn⟩)
 have HC6 : Hid (∀ V, RowAt V g (jcells r1) → V.cell? ⟨g, 6, none⟩ = some (.slice p9 r1.1.l.length c9) ∧ V.cell? ⟨g, 0, none⟩ = some (.int .i64 r1.1.kind) ∧ V.cell? ⟨g, 7, none⟩ = some r1.2.2) := hid (fun V h => by
  exact ⟨by rw [← hlq]; exact h.cell 6 _ rfl, h.cell 0 _ rfl, h.cell 7 _ rfl⟩)
 have c6 := (HC6.out _ (hCl _ _ h0).1).1
 clear hW hgood hsz hCl hGJ hGx hY h0 hln hj hlq
 go_enter Tryz.func60, Tryz.ntmps60
 go_wp2_with fail
 clear c6
 go_loopg [9] r1.1.l.length (fun kk s9 wr => ∃ (i : Nat) (pre : List (List UInt8 × JR)), kk = r1.1.l.length - i ∧ i ≤ r1.1.l.length ∧ s9 = .int .i64 (i : Int) ∧ pre.length = i ∧ J pre wr ∧ W.heap.size ≤ wr.heap.size)
 case atStart => exact ⟨0, [], rfl, Nat.zero_le _, rfl, rfl, H0.out, Nat.le_refl _⟩
 case round =>
  obtain ⟨i, pre, hki, hi, rfl, hpi, hJ, hbr⟩ := hrel
  have Hki := hid hki
  have HPI := hid hpi
  have HJP := hid hJ
  have HBR := hid hbr
  have HCW : Hid (ClA S1 g r1 wr) := hid (HCL.out _ _ hJ)
  clear hki hpi hJ hbr H0
  by_cases hlt : i < r1.1.l.length
  ·
   have hlti : (i : Int) < (r1.1.l.length : Int) := by omega
   have hwi : IntKind.i64.wrap ((i : Int) + 1) = ((i + 1 : Nat) : Int) := by have := HLN.out; rw [IntWalk.i64_in _ (by omega)]; omega
   obtain ⟨x, hx⟩ : ∃ x, r1.1.l[i]? = some x := ⟨_, List.getElem?_eq_getElem hlt⟩
   obtain ⟨gl, fl, ly, rfl, hra, hjx⟩ := HMB.out _ HCW.out i x hx
   have HX := hid hx
   have HJX := hid hjx
   have SLX := hid hjx.slJ
   have HRA := hid hra
   clear hx hra hjx HMB
   go_upto_region 3 with (first | (refine wpList_loadMd rfl _ rfl (x, ly) HRA.out rfl ?_) | (refine wpList_allocJ rfl rfl ?_; intro w1 hBy) | (refine wpList_storeJ rfl _ _ rfl rfl hBy.row rfl (x, ly) SLX.out rfl rfl ?_; intro w2 hSx))
   have HB2 : Hid (Below wr.heap.size wr w2) := hid (hSx.below hBy.be (Nat.le_refl _) hBy.be.size)
   obtain ⟨gx, hgx⟩ : ∃ q, wr.heap.size = q := ⟨_, rfl⟩
   have hxr := hSx.row
   rw [hgx] at hxr ⊢
   have HXR := hid hxr
   have HGX0 := hid hgx
   clear hBy hSx hxr hgx
   go_upto_region 4 with (refine (itoaJ_calls w2 (HCW.out.2.2.below HB2.out) (i : Int) (by omega) (by have := HLN.out; omega)).mono ?_; rintro e w3 ⟨rfl, hb3⟩)
   have HXR3 := hid (HXR.out.below hb3)
   have HB3 : Hid (Below wr.heap.size wr w3) := hid (HB2.out.trans (hb3.mono HB2.out.size))
   clear hb3 HXR HB2
   obtain ⟨b5, hb5⟩ : ∃ b, (r1.1.kind == 5) = b := ⟨_, rfl⟩
   obtain ⟨_, k0, k7⟩ := HC6.out _ (HCW.out.1.below HB3.out)
   go_upto_if 18 with fail
   have HB5 := hid hb5
   clear hb5 k0
   go_cut [5] from 19 to 23 (fun s5 wc => s5 = .string ⟨(labV r1.1 i).toArray⟩ ∧ w3 = wc)
   case first =>
    cases b5
    rotate_left
    ·
     have h5 : r1.1.kind = 5 := beq_iff_eq.1 HB5.out
     have hnl := kind_lens HGD.out h5
     obtain ⟨s, hs⟩ : ∃ s, r1.1.ns[i]? = some s := ⟨_, List.getElem?_eq_getElem (by omega)⟩
     obtain ⟨gn, fn, cn, hnv, hns, hgnl⟩ := HNM.out h5 _ HCW.out i s hs
     rw [hnv] at k7
     have n0c := (HB3.out.cell (p := ⟨gn, fn + i, none⟩) hgnl).trans hns
     have hlni : (i : Int) < (r1.1.ns.length : Int) := by omega
     have HLB : Hid (labV r1.1 i = s) := hid (by rw [labV, if_pos h5, List.getD_eq_getElem?_getD, hs]; rfl)
     clear h5 hnl hs hnv hns hgnl
     go_wp2_with fail
     go_meet
     exact ⟨by rw [HLB.out], rfl⟩
    have HLB : Hid (labV r1.1 i = Lib.itoa (i : Int)) := hid (by rw [labV, if_neg (beq_eq_false_iff_ne.1 HB5.out)])
    go_wp2_with fail
    go_meet
    exact ⟨by rw [HLB.out], rfl⟩
   obtain ⟨rfl, rfl⟩ := hcut
   go_upto_region 6 with fail
   refine (wpIn_wide (n := m)).1 ?_
   gi_wp2_with (refine wpListIn_loadJ rfl _ rfl (x, ly) HXR3.out rfl ?_)
   refine ⟨trivial, fun h => (by cases h), ?_⟩
   refine (callsIn_wide.2 (copied_calls HJX.out false w3 HB3.out (good_mem HGD.out (List.mem_of_getElem? HX.out)).1 (Nat.le_trans (good_mem HGD.out (List.mem_of_getElem? HX.out)).2 (Nat.le_trans HSZ.out (by decide))))).mono ?_
   rintro e w4 ⟨lv, nv, rfl, hJ4, hb4⟩
   have HB4 : Hid (Below wr.heap.size wr w4) := hid (HB3.out.trans (hb4.mono HB3.out.size))
   obtain ⟨fnY, tmY, asY, bdY, hy, hR⟩ := HY.out pre (labV r1.1 i, (cpJ false x, lv, nv)) w4 (HGJ.out _ _ _ HJP.out HB4.out) ⟨by rw [HPI.out], by rw [HPI.out]; exact HX.out, hJ4.mono (fun k _ hk => Nat.le_trans HBR.out (Nat.le_trans HB3.out.size hk))⟩
   have hy2 : (Instr.yield l #[.string ⟨(labV r1.1 i).toArray⟩, jval (cpJ false x, lv, nv)]).run Tryz.prog w4 = _ := hy
   have HR := hid hR
   clear hy hJ4 hb4 hR
   gi_wp2
   refine ⟨fun h => (by cases h), HR.out.mono ?_⟩
   rintro e w5 (⟨rfl, hJ5, hs5⟩ | ⟨rfl, hx5⟩)
   ·
    have HS5 : Hid (W.heap.size ≤ w5.heap.size) := hid (by have := HBR.out; have := HB4.out.size; omega)
    clear hs5
    gi_wp2
    go_wp2_with fail
    go_roundg (r1.1.l.length - (i + 1))
    case measure => have := Hki.out; omega
    exact ⟨i + 1, _, rfl, by omega, by go_num, by rw [List.length_append, List.length_singleton, HPI.out], hJ5, HS5.out⟩
   gi_wp2
   go_wp2_with fail
   refine bodyPost_ret (results_none rfl _ _ _) rfl ?_
   exact ⟨⟨_, rfl⟩, .inr ⟨_, trivial, hx5⟩⟩
  have hlti : ¬ (i : Int) < (r1.1.l.length : Int) := by omega
  go_wp2_with fail
  go_end0
  exact ⟨⟨_, rfl⟩, .inl ⟨pre, by rw [HPI.out]; omega, HJP.out⟩⟩
open Go.RowKit
variable {P : Program} {ops : Array Oper} {Q : Exit → Act → World → Prop} {md : Region.Mode} {l n : Nat}
def NoDefer (ops : Array Oper) : Bool := ops.all (fun o => match o.op with | .defer _ => false | _ => true)
theorem NoDefer.at {i : Nat} {o : Oper} (h : NoDefer ops = true) (ho : ops[i]? = some o) : ∀ c, o.op ≠ .defer c := by
 intro c e
 unfold NoDefer at h
 obtain ⟨hi, rfl⟩ := Array.getElem?_eq_some_iff.1 ho
 have h1 := Array.all_eq_true.1 h i hi
 rw [e] at h1
 cases h1
theorem oper_in {o : Oper} {a : Act} {w : World} {K : Act → World → Prop} (hd : ∀ c, o.op ≠ .defer c) (h : o.wp P a w K Q) : o.wpIn (Fence.wide.inRound l) n P a w K Q := by
 refine ⟨fun _ _ => trivial, ?_⟩
 rw [Oper.semAt_eq _ _ _ hd]
 unfold Oper.wp at h
 generalize (execOp a.eval o).run P w = r at h ⊢
 cases r with
 | ok nx w' =>
  cases nx with
  | value v => exact h
  | skip => exact h
  | defer d => exact h
  | enter f args => exact ⟨fun e => (by cases e), CallsIn.inRound l (callsIn_wide.2 h)⟩
  | row rw args =>
   refine ⟨fun e => (by cases e), fun c cs _ => ?_⟩
   obtain ⟨v, w2, h1, h2⟩ := h c cs
   exact ⟨v, w2, h1, (stepsIn_wide.2 h2 : StepsIn (Machine.fenced P Fence.wide) P _ _)⟩
  | _ => exact h.elim
 | halt hl w' => cases hl <;> first | exact h | exact h.elim
theorem any_in (hd : NoDefer ops = true) (hq : ¬ LetsOut Q) : ∀ (fuel : Nat) (listed : Array Bool) (a : Act) (w : World), wpAny P md ops Q fuel listed a w → wpAnyIn (Fence.wide.inRound l) n P md ops Q fuel listed a w
 | 0, _, _, _, h => h
 | fuel + 1, listed, a, w, h => by
  refine ⟨h.1, fun i hi => ?_⟩
  have h1 := h.2 i hi
  unfold wpOp at h1
  unfold wpOpIn
  cases ho : ops[i]? with
  | none => rw [ho] at h1; exact any_in hd hq fuel _ a w h1
  | some o =>
   rw [ho] at h1
   simp only at h1 ⊢
   by_cases hw : Region.wanted o (yielded ops a.tmps) = true
   ·rw [if_pos hw] at h1 ⊢
    rcases h1 with h1 | h1
    ·exact oper_in (NoDefer.at hd ho) (Oper.wp_mono (fun a w h => any_in hd hq fuel _ a w h) h1)
    exact absurd h1.2 hq
   rw [if_neg hw] at h1 ⊢
   exact ⟨fun _ _ => trivial, any_in hd hq fuel _ _ w h1⟩
theorem list_in (hd : NoDefer ops = true) (hq : ¬ LetsOut Q) : ∀ (r : List Oper) (a : Act) (w : World), (∀ o ∈ r, o ∈ ops) → wpList P ops Q r a w → wpListIn (Fence.wide.inRound l) n P ops Q r a w
 | [], _, _, _, h => h
 | o :: r, a, w, hm, h => by
  unfold wpList at h
  unfold wpListIn
  by_cases hw : Region.wanted o (yielded ops a.tmps) = true
  ·rw [if_pos hw] at h ⊢
   rcases h with h | h
   ·obtain ⟨i, hi, he⟩ := Array.mem_iff_getElem.1 (hm o (by simp))
    exact oper_in (NoDefer.at hd (i := i) (by rw [Array.getElem?_eq_getElem hi, he])) (Oper.wp_mono (fun a w h => list_in hd hq r a w (fun o ho => hm o (by simp [ho])) h) h)
   exact absurd h.2 hq
  rw [if_neg hw] at h ⊢
  exact ⟨fun _ _ => trivial, list_in hd hq r _ w (fun o ho => hm o (by simp [ho])) h⟩
theorem region_in {id : Nat} {a : Act} {w : World} (hd : NoDefer ops = true) (hq : ¬ LetsOut Q) (h : wpList P ops Q ops.toList a w) : (Code.region id ops false).wpIn (Fence.wide.inRound l) n P Q a w :=
 wpIn_region_list (list_in hd hq _ a w (fun o ho => by simpa using ho) h)
theorem region_in_held {S : World → Prop} {id : Nat} {a : Act} {w : World} (hd : NoDefer ops = true) (hq : ¬ LetsOut Q) (hm : P.follows .mixedOrders = true) (hS : S w.drew)
  (h : S w.drew → wpAnyH P .any ops Q S ops.size (Array.replicate ops.size false) a w.drew) : (Code.region id ops true).wpIn (Fence.wide.inRound l) n P Q a w :=
 wpIn_region_any hm (any_in hd hq _ _ _ _ (wpAny_of_held _ _ _ _ (h hS)))
end Go.Proofs.YtfclfaidmipjpaaGreatDoor
