/- Texts of this claim, joined: Trp, Ptl. -/
import Derived.Test.YtfclfaidmipjpaaGreatDoorCo15
import Derived.Test.YtfclfaidmipjpaaGreatDoorCo19
namespace Go.Proofs.YtfclfaidmipjpaaGreatDoor
set_option maxRecDepth 100000
set_option maxHeartbeats 20000000
open Go.Lib (hid)
open Go.RowKit
theorem Apart.putR {S : Nat → Prop} {w w' : World} (h : Apart S w w') {a : Addr} (ha : S a.block) (v : Value) : Apart S w (w'.setCell a v) := h.trans (Apart.set (S := S) w' ha v) (fun _ _ h => h)
theorem TrieAt.base {w : World} {lo lo' gr : Nat} {a b : List UInt8} {gt gA gu gB gC : Nat} (h : TrieAt w lo gr a b gt gA gu gB gC) (hl : lo' ≤ lo) : TrieAt w lo' gr a b gt gA gu gB gC :=
 ⟨h.g, h.t, h.nA, h.u, h.nB, h.nC, by have := h.lo; omega, h.ne⟩
structure Rp (w : World) (lo g : Nat) (a b : List UInt8) : Prop where
 hlo : lo ≤ g
 at_ : (∃ v, RowAt w g [.int .u32 0, .int .i32 0, .int .u32 0, .nilIface, v] ∧ NamV w lo v (keysL a b) ∧ v.ownBlock ≠ some g) ∨
  (∃ gr gt gA gu gB gC, RowAt w g [.int .u32 1, .int .i32 0, .int .u32 0, .iface 196 (.pointer (some ⟨gr, 0, none⟩)), .slice none 0 0] ∧ TrieAt w lo gr a b gt gA gu gB gC)
theorem Rp.below {w w' : World} {lo g : Nat} {a b : List UInt8} (h : Rp w lo g a b) (hb : Below w.heap.size w w') : Rp w' lo g a b := by
 refine ⟨h.hlo, ?_⟩
 rcases h.at_ with ⟨v, h1, h2, h3⟩ | ⟨gr, gt, gA, gu, gB, gC, h1, h2⟩
 ·exact .inl ⟨v, h1.below hb, h2.below hb, h3⟩
 exact .inr ⟨gr, gt, gA, gu, gB, gC, h1.below hb, h2.below hb⟩
theorem Rp.lt {w : World} {lo g : Nat} {a b : List UInt8} (h : Rp w lo g a b) : g < w.heap.size := by
 rcases h.at_ with ⟨_, h1, _⟩ | ⟨_, _, _, _, _, _, h1, _⟩ <;> exact h1.lt
theorem build_calls (w : World) {g : Nat} {v x0 x1 x2 x3 : Value} {S : Nat → Prop} (a b : List UInt8) (hr : RowAt w g [x0, x1, x2, x3, v]) (hN : NamS w S v (keysL a b)) :
  Calls Tryz.prog 133 #[.pointer (some ⟨g, 0, none⟩)] w fun e w' => ∃ gr gt gA gu gB gC, e = .returned (.iface 196 (.pointer (some ⟨gr, 0, none⟩))) ∧ TrieAt w' w.heap.size gr a b gt gA gu gB gC ∧ Below w.heap.size w w' := by
 have HN := hid hN
 obtain ⟨p0, cap0, rfl, _, _, hcell⟩ := hN
 obtain ⟨gn, fn, rfl, _, hgn, hcs⟩ := hcell (by simp [keysL])
 have k4 : w.cell? ⟨g, 4, none⟩ = _ := hr.cell 4 _ rfl
 have kc : w.cell? ⟨gn, fn, none⟩ = some (Value.string ⟨#[126, 48]⟩) := hcs 0 [126, 48] rfl
 rw [show (keysL a b).length = 4 from rfl] at HN k4
 clear hcell hcs hgn hr
 go_enter Tryz.func133, Tryz.ntmps133
 go_wp2_with fail
 refine wp_loop_rounds 1 ?_
 rw [rounds_succ]
 go_wp2_with fail
 refine (mgr_calls w a b HN.out).mono ?_
 rintro e w1 ⟨gr, gt, gA, gu, gB, gC, rfl, ht, hb⟩
 have HT := hid ht
 have HB := hid hb
 clear ht hb kc k4
 go_wp2_with fail
 go_ret
 exact ⟨gr, gt, gA, gu, gB, gC, rfl, HT.out, HB.out⟩
def BuiltR (w : World) (g : Nat) (a b : List UInt8) (w' : World) : Prop := ∃ gr gt gA gu gB gC, RowAt w' g [.int .u32 0, .int .i32 1, .int .u32 0, .iface 196 (.pointer (some ⟨gr, 0, none⟩)), .slice none 0 0] ∧ TrieAt w' w.heap.size gr a b gt gA gu gB gC ∧ Apart (fun k => k = g) w w'
theorem bo_calls (w : World) {g : Nat} {v : Value} {S : Nat → Prop} (a b : List UInt8) (hr : RowAt w g [.int .u32 0, .int .i32 1, .int .u32 0, .nilIface, v]) (hN : NamS w S v (keysL a b)) :
  Calls Tryz.prog 94 #[.pointer (some ⟨g, 0, none⟩)] w fun e w' => e = .returned (.tuple #[]) ∧ BuiltR w g a b w' := by
 have HR := hid hr
 have HN := hid hN
 have HLT := hid hr.lt
 clear hr hN
 go_enter Tryz.func94, Tryz.ntmps94
 go_wp2_with fail
 refine (build_calls w a b HR.out HN.out).mono ?_
 rintro e w1 ⟨gr, gt, gA, gu, gB, gC, rfl, ht, hb⟩
 have hr1 := HR.out.below hb
 have k3 := hr1.cell 3 _ rfl
 have k4 := hr1.cell 4 _ rfl
 have z3 := hr1.free 3
 have z4 := hr1.free 4
 have HR1 := hid hr1
 have HT := hid ht
 have HB := hid hb
 clear hr1 ht hb
 go_wp2_with fail
 go_end0
 have h1 := HR1.out.set 3 (.iface 196 (.pointer (some ⟨gr, 0, none⟩))) (by simp)
 have h2 := h1.set 4 (.slice none 0 0) (by simp)
 have ha : Apart (fun k => k = g) w w1 := .ofBelow HB.out
 have ha1 := (ha.putR (a := ⟨g, 3, none⟩) rfl (.iface 196 (.pointer (some ⟨gr, 0, none⟩)))).putR (a := ⟨g, 4, none⟩) rfl (.slice none 0 0)
 have hs := (Apart.set (S := fun k => k = g) w1 (a := ⟨g, 3, none⟩) rfl (.iface 196 (.pointer (some ⟨gr, 0, none⟩)))).putR (a := ⟨g, 4, none⟩) rfl (.slice none 0 0)
 exact ⟨rfl, gr, gt, gA, gu, gB, gC, h2, HT.out.apart hs (fun k hk e => by have := HLT.out; omega), ha1⟩
theorem rep_calls (w : World) {lo g : Nat} {a b : List UInt8} (h : Rp w lo g a b) (hab : a.length ≤ 4 ∧ b.length ≤ 4) (s : List UInt8) (hsl : s.length ≤ 100000000) :
  Calls Tryz.prog 56 #[.pointer (some ⟨g, 0, none⟩), .string ⟨s.toArray⟩] w fun e w' => e = .returned (.string ⟨(replS a b s).toArray⟩) ∧ Rp w' lo g a b ∧ Apart (fun k => k = g) w w' := by
 have HLO := hid h.hlo
 have HAB := hid hab
 have HLT := hid h.lt
 rcases h.at_ with ⟨v, h1, h2, h3⟩ | ⟨gr, gt, gA, gu, gB, gC, h1, h2⟩
 ·have H1 := hid h1
  have H2 := hid h2
  have H3 := hid h3
  have HLS : Hid (lo ≤ w.heap.size) := hid (by have := h.hlo; have := h.lt; omega)
  clear h h1 h2 h3 hab
  go_enter Tryz.func56, Tryz.ntmps56
  go_wp2_with fail
  refine (do_first g (fun w' => BuiltR (w.setCell ⟨g, 1, none⟩ (.int .i32 1)) g a b w') w (H1.out.cell 0 _ rfl) (H1.out.cell 1 _ rfl) (H1.out.free 1) ((bo_calls _ (S := fun k => lo ≤ k) a b (H1.out.set 1 (.int .i32 1) (by simp)) ?hn).mono ?hm)).mono ?_
  case hn => exact NamV.s (B := lo) (ownsRow_apart H2.out (Apart.set (S := fun k => k = g) w (a := ⟨g, 1, none⟩) rfl (.int .i32 1)) (fun k hk e => H3.out (by rw [hk, e])))
  case hm =>
   rintro e w2 ⟨rfl, hb⟩
   have hb0 := hb
   obtain ⟨gr, gt, gA, gu, gB, gC, k1, k2, k3⟩ := hb0
   exact ⟨rfl, hb, k1.cell 0 _ rfl, k1.cell 1 _ rfl, k1.free 0, k1.free 1⟩
  rintro e w3 ⟨rfl, w2, ⟨gr, gt, gA, gu, gB, gC, k1, k2, k3⟩, rfl⟩
  have r1 := (k1.drew.set 0 (.int .u32 1) (by simp)).set 1 (.int .i32 0) (by simp)
  have hap := ((Apart.ofBelow (S := fun k => k = g) (Below.refl w2.heap.size w2).drew).putR (a := ⟨g, 0, none⟩) rfl (.int .u32 1)).putR (a := ⟨g, 1, none⟩) rfl (.int .i32 0)
  have k2b := k2.apart hap (fun k hk e => by have := HLT.out; rw [World.size_setCell] at hk; omega)
  have HAP := hid (((Apart.set (S := fun k => k = g) w (a := ⟨g, 1, none⟩) rfl (.int .i32 1)).trans k3 (fun _ _ h => h)).trans hap (fun _ _ h => h))
  have k3 := r1.cell 3 _ rfl
  have HRW := hid r1
  have HTR := hid (k2b.base (lo' := lo) (by rw [World.size_setCell]; exact HLS.out))
  clear k1 k2 r1 hap k2b
  generalize (w2.drew.setCell ⟨g, 0, none⟩ (.int .u32 1)).setCell ⟨g, 1, none⟩ (.int .i32 0) = wn at *
  go_wp2_with fail
  refine (grR_calls wn HTR.out HAB.out s hsl).mono ?_
  rintro e w4 ⟨rfl, hb4⟩
  have HB4 := hid hb4
  clear hb4
  go_wp2_with fail
  go_ret
  exact ⟨rfl, ⟨HLO.out, .inr ⟨gr, gt, gA, gu, gB, gC, HRW.out.below HB4.out, HTR.out.below HB4.out⟩⟩, HAP.out.trans (.ofBelow (S := fun k => k = g) HB4.out) (fun _ _ h => h)⟩
 ·have H1 := hid h1
  have H2 := hid h2
  have c3 : w.cell? ⟨g, 3, none⟩ = _ := h1.cell 3 _ rfl
  clear h h1 h2 hab
  go_enter Tryz.func56, Tryz.ntmps56
  go_wp2_with fail
  refine (do_done g _ w (H1.out.cell 0 _ rfl)).mono ?_
  rintro e w3 ⟨rfl, rfl⟩
  go_wp2_with fail
  refine (grR_calls _ H2.out HAB.out s hsl).mono ?_
  rintro e w4 ⟨rfl, hb4⟩
  have HB4 := hid hb4
  clear hb4
  go_wp2_with fail
  go_ret
  exact ⟨rfl, ⟨HLO.out, .inr ⟨gr, gt, gA, gu, gB, gC, H1.out.below HB4.out, H2.out.below HB4.out⟩⟩, .ofBelow HB4.out⟩
theorem nr_calls (w : World) {v : Value} {S : Nat → Prop} (a b : List UInt8) (hN : NamS w S v (keysL a b)) :
  Calls Tryz.prog 54 #[v] w fun e w' => ∃ g, e = .returned (.pointer (some ⟨g, 0, none⟩)) ∧ Rp w' w.heap.size g a b ∧ Below w.heap.size w w' := by
 obtain ⟨p0, cap0, rfl, _, _, hcell⟩ := hN
 obtain ⟨gn, fn, rfl, _, hgn, hcs⟩ := hcell (by simp [keysL])
 rw [show (keysL a b).length = 4 from rfl]
 clear hcell
 obtain ⟨i0, hi, hz0, hz1, hz2⟩ := info_parts Tryz.info9
 have hc : ∀ (j : Nat) u, (txts (keysL a b))[j]? = some u → w.cell? ((⟨gn, fn, none⟩ : Addr).add j) = some u := by
  intro j u hj
  rw [addr_off rfl]
  unfold txts at hj
  rw [List.getElem?_map] at hj
  cases h : (keysL a b)[j]? with
  | none => rw [h] at hj; cases hj
  | some x => rw [h] at hj; cases hj; exact hcs j x h
 have ho : ∀ u ∈ txts (keysL a b), u.oneCell' = true := by
  intro u hu
  simp [txts, keysL] at hu
  rcases hu with h | h | h | h <;> rw [h] <;> rfl
 have HI := hid hi
 have HZ := hid (show _ ∧ _ ∧ _ from ⟨hz0, hz1, hz2⟩)
 have HC := hid hc
 have HO := hid ho
 clear hgn hcs hi hz0 hz1 hz2 hc ho
 go_enter Tryz.func54, Tryz.ntmps54
 go_wp2_with (at_builtin; go_must (refine wpList_append_own _ rfl _ _ 28 rfl w.heap.size 9 i0 _ 1 16 Tryz.underlying28 HI.out HZ.out.1 HZ.out.2.1 HZ.out.2.2 rfl (by decide) _ 0 [] rfl (World.ownsRow_nil _ _ _ _) ⟨gn, fn, none⟩ 4 cap0 (txts (keysL a b)) rfl rfl HC.out HO.out (by unfold maxLen; omega) (by omega) (Nat.le_refl _) ?_))
 intro v1 w1 h1 h2 _
 have HN1 : Hid (NamV w1 w.heap.size v1 (keysL a b)) := hid h1
 have HB : Hid (Below w.heap.size w w1) := hid ((Below.refl _ _).grown h2 (Nat.le_refl _) (fun k hk => by cases hk))
 clear h1 h2 HI HZ HC HO
 obtain ⟨p1, c1, rfl⟩ := HN1.out.forms
 go_wp2_with fail
 go_ret
 refine ⟨_, rfl, ⟨HB.out.size, .inl ⟨.slice p1 4 c1, RowAt.new w1 #[.int .u32 0, .int .i32 0, .int .u32 0, .nilIface, .slice p1 4 c1] _, World.ownsRow.alloc HN1.out _, fun e => ?_⟩⟩, HB.out.alloc HB.out.size _⟩
 exact Nat.lt_irrefl _ (World.ownsRow.lt HN1.out _ e).2
open Go.RowKit
def walkJ (v : J) : List (List UInt8) → Option J
 | [] => some v
 | u :: us => match stepJ v u with
  | none => none
  | some x => walkJ x us
def ptrK (v : J) (o : Option (List (List UInt8))) : J × Int := match o with
 | none => (J.zero, 2)
 | some us => match walkJ v us with
  | none => (J.zero, 7)
  | some x => (cpJ false x, 0)
def ptrJ (v : J) (s : List UInt8) : J × Int := if checkJ v ≠ 0 then (J.zero, 2) else ptrK v (pathS s)
theorem tilAll_some : ∀ ps : List (List UInt8), (∀ p ∈ ps, tilN p ≠ none) → tilAll ps = some (ps.map (replS [126] [47]))
 | [], _ => rfl
 | p :: ps, h => by
  unfold tilAll
  cases hp : tilN p with
  | none => exact absurd hp (h p (by simp))
  | some u => simp only; rw [tilAll_some ps (fun q hq => h q (by simp [hq])), (tilN_none p).2 u hp]; rfl
theorem tilAll_none : ∀ (ps : List (List UInt8)) (p : List UInt8), p ∈ ps → tilN p = none → tilAll ps = none
 | q :: ps, p, h, hp => by
  unfold tilAll
  cases hq : tilN q with
  | none => rfl
  | some u =>
   rcases List.mem_cons.1 h with rfl | h1
   ·rw [hq] at hp; cases hp
   simp only; rw [tilAll_none ps p h1 hp]; rfl
theorem pathS_split (s : List UInt8) (h : s = [] ∨ s.head? = some 47) : pathS s = tilAll ((splitC 47 s).drop 1) := by
 rcases h with rfl | h
 ·rfl
 cases s with
 | nil => rfl
 | cons c t =>
  simp at h
  subst h
  simp [pathS, splitC]
theorem pathS_none (c : UInt8) (t : List UInt8) (h : c ≠ 47) : pathS (c :: t) = none := by simp [pathS, h]
theorem has_til (s : List UInt8) : (decide (0 ≤ Lib.indexByte s 126)) = s.contains 126 := (Lib.contains_iff_indexByte s 126).symm
theorem split_laid (s : List UInt8) : (Lib.splitB ⟨#[47]⟩ 0 (Lib.countB ⟨s.toArray⟩ ⟨#[47]⟩) ⟨s.toArray⟩).map Value.string = txts (splitC 47 s) ∧ Lib.countB ⟨s.toArray⟩ ⟨#[47]⟩ + 1 = (splitC 47 s).length := by
 have h1 := Lib.splitB_data ⟨#[47]⟩ 0 (Lib.countB ⟨s.toArray⟩ ⟨#[47]⟩) ⟨s.toArray⟩
 have h2 : Lib.splitK [47] 0 (Lib.countB ⟨s.toArray⟩ ⟨#[47]⟩) s = splitC 47 s := split_one 47 s
 rw [show (⟨#[47]⟩ : ByteArray).data.toList = [47] from rfl, show (⟨s.toArray⟩ : ByteArray).data.toList = s from rfl, h2] at h1
 have h3 := Lib.splitB_all ⟨#[47]⟩ (by decide) 0 _ ⟨s.toArray⟩ rfl
 refine ⟨?_, ?_⟩
 ·rw [← h1]
  unfold txts
  rw [List.map_map]
  rfl
 rw [← h3, ← h1, List.length_map]
theorem split_calls (s : List UInt8) (w : World) (m : Int) (hm : w.cell? ⟨2, 0, none⟩ = some (.int .i64 m)) (hs : s.length ≤ 100000000) :
  Calls Tryz.prog 53 #[.string ⟨s.toArray⟩, .string ⟨#[47]⟩] w fun e w' => e = .returned (.slice (some ⟨w.heap.size, 0, none⟩) (splitC 47 s).length (splitC 47 s).length) ∧ RowAt w' w.heap.size (txts (splitC 47 s)) ∧ Below w.heap.size w w' := by
 have hz : (⟨s.toArray⟩ : ByteArray).size = s.length := by simp [ByteArray.size]
 obtain ⟨h1, h2⟩ := split_laid s
 refine (Tryz.strings_Split ⟨s.toArray⟩ ⟨#[47]⟩ m w (by rw [hz]; omega) hm (by decide)).mono ?_
 rintro e w' ⟨rfl, rfl⟩
 rw [h1, h2]
 exact ⟨rfl, by have := RowAt.new w (txts (splitC 47 s)).toArray 9; simpa using this, (Below.refl _ _).alloc (Nat.le_refl _) _⟩
theorem Rp.apart {S : Nat → Prop} {w w' : World} {lo g : Nat} {a b : List UInt8} (h : Rp w lo g a b) (ha : Apart S w w') (hS : ∀ k, lo ≤ k → ¬ S k) : Rp w' lo g a b := by
 refine ⟨h.hlo, ?_⟩
 rcases h.at_ with ⟨v, h1, h2, h3⟩ | ⟨gr, gt, gA, gu, gB, gC, h1, h2⟩
 ·exact .inl ⟨v, h1.apart ha (hS _ h.hlo), h2.apart ha (fun k hk _ => hS k hk), h3⟩
 exact .inr ⟨gr, gt, gA, gu, gB, gC, h1.apart ha (hS _ h.hlo), h2.apart ha hS⟩
structure PtI (w wr : World) (g1 gs lo g7 : Nat) (r : JR) (L : List (List UInt8)) : Prop where
 be : Below w.heap.size w wr
 v : RowAt wr g1 (jcells r)
 res : RowAt wr (g1 + 1) (jcells jzero)
 nm : RowAt wr gs (txts L)
 rp : Rp wr lo g7 [126] [47]
 at_ : w.heap.size = g1 ∧ g1 + 1 < gs ∧ gs < lo
theorem PtI.below {w wr w' : World} {g1 gs lo g7 : Nat} {r : JR} {L : List (List UInt8)} (h : PtI w wr g1 gs lo g7 r L) (hb : Below wr.heap.size wr w') : PtI w w' g1 gs lo g7 r L :=
 ⟨h.be.trans (hb.mono h.be.size), h.v.below hb, h.res.below hb, h.nm.below hb, h.rp.below hb, h.at_⟩
theorem PtI.turned {w wr w' : World} {g1 gs lo g7 : Nat} {r : JR} {L : List (List UInt8)} (h : PtI w wr g1 gs lo g7 r L) (hr : Rp w' lo g7 [126] [47]) (ha : Apart (fun k => k = g7) wr w') : PtI w w' g1 gs lo g7 r L := by
 have h1 := h.rp.hlo
 have h2 := h.at_
 exact ⟨h.be.trans (ha.below h.be.size (fun i hi e => by omega)), h.v.apart ha (by omega), h.res.apart ha (by omega), h.nm.apart ha (by omega), hr, h2⟩
theorem PtI.put {w wr : World} {g1 gs lo g7 : Nat} {r : JR} {L : List (List UInt8)} (h : PtI w wr g1 gs lo g7 r L) (i : Nat) (hi : i < L.length) (u : List UInt8) : PtI w (wr.setCell ⟨gs, i, none⟩ (.string ⟨u.toArray⟩)) g1 gs lo g7 r (L.set i u) := by
 have h2 := h.at_
 have ha := Apart.set (S := fun k => k = gs) wr (a := ⟨gs, i, none⟩) rfl (.string ⟨u.toArray⟩)
 refine ⟨h.be.trans (ha.below h.be.size (fun j hj e => by omega)), h.v.apart ha (by omega), h.res.apart ha (by omega), ?_, h.rp.apart ha (fun k hk e => by omega), h2⟩
 have h3 := h.nm.set i (.string ⟨u.toArray⟩) (by simpa [txts] using hi)
 have e : txts (L.set i u) = (txts L).set i (.string ⟨u.toArray⟩) := by simp [txts, List.map_set]
 rw [e]; exact h3
theorem PtI.step {w wr w' : World} {g1 gs lo g7 : Nat} {r r' : JR} {L : List (List UInt8)} (h : PtI w wr g1 gs lo g7 r L) (hS : Sx wr w' g1 r') : PtI w w' g1 gs lo g7 r' L := by
 have h2 := h.at_
 exact ⟨h.be.trans (hS.apart.below h.be.size (fun j hj e => by omega)), hS.row, h.res.apart hS.apart (by omega), h.nm.apart hS.apart (by omega), h.rp.apart hS.apart (fun k hk e => by omega), h2⟩
theorem walkJ_none {v : J} {u : List UInt8} {us : List (List UInt8)} (h : stepJ v u = none) : walkJ v (u :: us) = none := by rw [walkJ, h]
theorem walkJ_some {v x : J} {u : List UInt8} {us : List (List UInt8)} (h : stepJ v u = some x) : walkJ v (u :: us) = walkJ x us := by rw [walkJ, h]
end Go.Proofs.YtfclfaidmipjpaaGreatDoor
