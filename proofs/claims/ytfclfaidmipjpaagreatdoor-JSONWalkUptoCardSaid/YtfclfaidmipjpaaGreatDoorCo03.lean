/- Texts of this claim, joined: Slc, Jr2, JsF, Jr3, Jr4, Jr5, Jr6, Jr8, Sto, Sto2, Box, Eqj, Jr12. -/
import Derived.Test.YtfclfaidmipjpaaGreatDoorCo01
import Derived.Test.YtfclfaidmipjpaaGreatDoorCo02
namespace Go.Proofs.YtfclfaidmipjpaaGreatDoor
set_option maxRecDepth 100000
set_option maxHeartbeats 20000000
open Go.RowKit Go.Sort
def bas (ns : List (List UInt8)) : List ByteArray := ns.map (fun s => ⟨s.toArray⟩)
theorem bas_len (ns : List (List UInt8)) : (bas ns).length = ns.length := by simp [bas]
theorem bas_at {ns : List (List UInt8)} {j : Nat} (h : j < ns.length) : (bas ns).getD j ByteArray.empty = ⟨(ns.getD j []).toArray⟩ := by
 simp [bas, List.getD_eq_getElem?_getD, h]
theorem bas_txts (ns : List (List UInt8)) : (bas ns).map Value.string = txts ns := by simp [bas, txts]
theorem NamS.cells {w : World} {S : Nat → Prop} {g off n cap : Nat} {ns : List (List UInt8)} (h : NamS w S (.slice (some ⟨g, off, none⟩) n cap) ns) : ∀ j, j < (bas ns).length → w.cell? ⟨g, off + j, none⟩ = some (.string ((bas ns).getD j ByteArray.empty)) := by
 intro j hj
 rw [bas_len] at hj
 obtain ⟨p, c, h1, h2, h3, h4⟩ := h
 obtain ⟨g2, off2, e, _, _, h5⟩ := h4 (by omega)
 cases h1
 cases e
 rw [bas_at hj, h5 j _ (List.getElem?_eq_getElem hj)]
 simp [List.getD_eq_getElem?_getD, hj]
theorem clone_calls {w : World} {S : Nat → Prop} {v : Value} {ns : List (List UInt8)} (h : NamS w S v ns) (hn : ns.length ≤ 1000000000) :
  Calls Tryz.prog 96 #[v] w fun e w' => ∃ v', e = .returned v' ∧ NamV w' w.heap.size v' ns ∧ Below w.heap.size w w' := by
 have h0 := h
 obtain ⟨p, cap, rfl, h2, h3, h4⟩ := h
 by_cases hz : ns.length = 0
 ·obtain rfl : ns = [] := List.length_eq_zero_iff.1 hz
  cases p with
  | none => exact (Tryz.slices_Clone_string_nil 0 cap w).mono (by rintro e w' ⟨rfl, rfl⟩; exact ⟨_, rfl, NamV.nil _ _, Below.refl _ _⟩)
  | some a => exact (Tryz.slices_Clone_string_zero a cap w).mono (by rintro e w' ⟨v', rfl, hr, _, hb⟩; exact ⟨v', rfl, hr, hb⟩)
 ·obtain ⟨g, off, rfl, _, hg, _⟩ := h4 (by omega)
  refine (Tryz.slices_Clone_string g off ns.length cap (bas ns) w (by rw [bas_len]; omega) (by omega) h0.cells).mono ?_
  rintro e w' ⟨v', rfl, hr, _, hb⟩
  rw [show (bas ns).take ns.length = bas ns from List.take_of_length_le (by rw [bas_len]; omega), bas_txts] at hr
  exact ⟨v', rfl, hr, hb⟩
theorem sort_calls {w : World} {B : Nat} {v : Value} {ns : List (List UInt8)} (h : NamV w B v ns) (hn : ns.length ≤ 1000000000) :
  Calls Tryz.prog 97 #[v] w fun e w' => e = .returned (.tuple #[]) ∧ NamV w' B v (ns.mergeSort fun x y => decide (x ≤ y)) ∧ w.grownBy w' v.ownBlock := by
 have h0 := h
 by_cases hz : ns.length = 0
 ·obtain rfl : ns = [] := List.length_eq_zero_iff.1 hz
  obtain ⟨p, cap, rfl⟩ := h.forms
  refine (Any.slices_Sort_string_none Tryz.lays190 p cap w).mono ?_
  rintro e w' ⟨rfl, rfl⟩
  exact ⟨rfl, by rw [show ([] : List (List UInt8)).mergeSort (fun x y => decide (x ≤ y)) = [] by simp]; exact h0, ⟨rfl, rfl, rfl, Nat.le_refl _, fun _ _ _ => rfl⟩⟩
 ·rcases h.2 with ⟨_, h1⟩ | ⟨g, cap, cur, rfl, hbase, hb, h1, h2, h3, h4⟩
  ·exact absurd h1 hz
  have ht : cur.toList.take ns.length = ns.map encStr := by
   rw [Nat.mul_one] at h4; exact h4
  refine (Tryz.slices_Sort_string g 0 cap ns w (holds_of_block hb ht) (Array.getElem?_eq_some_iff.1 hb).1 (by omega)).mono ?_
  rintro e w' ⟨rfl, n, os, rfl⟩
  have hl : (ns.mergeSort fun x y => decide (x ≤ y)).length = ns.length := by simp
  refine ⟨rfl, ?_, grownBy_sorted _⟩
  have := ownsRow_sorted (n := n) (os := os) hl hbase hb h1 h2 (by rw [h3])
  unfold NamV
  rw [hl]
  exact this
theorem index_calls {w : World} {S : Nat → Prop} {v : Value} {ns : List (List UInt8)} (h : NamS w S v ns) (hn : ns.length ≤ 1000000000) (x : List UInt8) :
  Calls Tryz.prog 59 #[v, .string ⟨x.toArray⟩] w fun e w' => e = .returned (.int .i64 (if x ∈ ns then (ns.idxOf x : Int) else -1)) ∧ w' = w := by
 have h0 := h
 obtain ⟨p, cap, rfl, h2, h3, h4⟩ := h
 by_cases hz : ns.length = 0
 ·obtain rfl : ns = [] := List.length_eq_zero_iff.1 hz
  refine (Any.slices_Index_string_empty Tryz.lays109 p cap ⟨x.toArray⟩ w).mono ?_
  rintro e w' ⟨rfl, rfl⟩
  exact ⟨by simp [Lib.idxOfS, Lib.idxFromS], rfl⟩
 ·obtain ⟨g, off, rfl, _, hg, _⟩ := h4 (by omega)
  refine (Tryz.slices_Index_string g off ns.length cap (bas ns) ⟨x.toArray⟩ w (by rw [bas_len]; omega) (by omega) h0.cells).mono ?_
  rintro e w' ⟨rfl, rfl⟩
  refine ⟨?_, rfl⟩
  congr 2
  have inj : ∀ {a b : List UInt8}, ((⟨a.toArray⟩ : ByteArray) = ⟨b.toArray⟩) → a = b := fun {a b} e => by simpa using e
  by_cases hx : x ∈ ns
  ·rw [if_pos hx]
   have hlt := List.idxOf_lt_length_iff.2 hx
   refine Lib.idxOfS_hit (bas ns) ns.length (ns.idxOf x) ⟨x.toArray⟩ hlt (by rw [bas_len]; omega) ?_ (fun j hj => ?_)
   ·rw [bas_at hlt]
    have := List.getElem_idxOf hlt
    simp [List.getD_eq_getElem?_getD, hlt, this]
   rw [bas_at (by omega)]
   intro e
   have e2 := inj e
   have hj2 : j < ns.length := by omega
   have e3 : ns[j] = x := by simpa [List.getD_eq_getElem?_getD, hj2] using e2
   have e4 := List.not_of_lt_findIdx (xs := ns) (p := (· == x)) (i := j) hj
   simp [e3] at e4
  rw [if_neg hx]
  refine Lib.idxOfS_miss (bas ns) ns.length ⟨x.toArray⟩ (fun j hj => ?_)
  rw [bas_at hj]
  intro e
  exact hx (by rw [← inj e]; simp [hj])
open Go.RowKit
theorem byts_lit (w : World) (l : List UInt8) (hl : l.length ≤ maxLen) : BytS (w.alloc (.cells (u8s l).toArray 5)) (.slice (some ⟨w.heap.size, 0, none⟩) l.length l.length) l := by
 refine .inr ⟨w.heap.size, 0, l.length, rfl, Nat.le_refl _, hl, by simp, fun j hj => ?_⟩
 rw [Nat.zero_add, World.cell?_alloc_at _ _ _ _ rfl]
 simpa using u8s_at l j hj
variable {z : List UInt8}
theorem skip_len (s : List UInt8) : (skipS s).length ≤ s.length := (List.dropWhile_sublist _).length_le
theorem skip_cons {s : List UInt8} {c : UInt8} {t : List UInt8} (h : skipS s = c :: t) : t.length < s.length := by
 have := skip_len s
 rw [h] at this
 simp only [List.length_cons] at this
 omega
theorem hexN_len : ∀ (n x : Nat) (s : List UInt8) (y : Nat) (r : List UInt8), hexN n x s = some (y, r) → r.length + n = s.length
 | 0, x, s, y, r, h => by simp only [hexN, Option.some.injEq, Prod.mk.injEq] at h; rw [h.2]; rfl
 | n + 1, x, [], y, r, h => by simp [hexN] at h
 | n + 1, x, c :: t, y, r, h => by
  simp only [hexN] at h
  split at h
  ·cases h
  have := hexN_len n _ t y r h
  simp only [List.length_cons]; omega
theorem pair_len {x : Nat} {t bs r : List UInt8} (h : pairS x t = some (bs, r)) : r.length < t.length := by
 unfold pairS at h
 split at h
 ·split at h
  ·split at h
   ·split at h
    ·rename_i t3 y t4 hh _
     have := hexN_len _ _ _ _ _ hh
     simp only [Option.some.injEq, Prod.mk.injEq] at h
     rw [← h.2]
     simp only [List.length_cons]; omega
    cases h
   cases h
  cases h
 cases h
theorem esc_len {s b r : List UInt8} {a : Bool} (h : escS z s = some (b, r, a)) : r.length < s.length := by
 cases s with
 | nil => simp [escS] at h
 | cons c t =>
  simp only [escS] at h
  split at h
  ·simp only [Option.some.injEq, Prod.mk.injEq] at h
   rw [← h.2.1]; simp
  split at h
  ·split at h
   ·cases h
   rename_i x t2 hh
   have hl := hexN_len _ _ _ _ _ hh
   split at h
   ·split at h
    ·rename_i hp
     have := pair_len hp
     simp only [Option.some.injEq, Prod.mk.injEq] at h
     rw [← h.2.1]
     simp only [List.length_cons]; omega
    simp only [Option.some.injEq, Prod.mk.injEq] at h
    rw [← h.2.1]
    simp only [List.length_cons]; omega
   simp only [Option.some.injEq, Prod.mk.injEq] at h
   rw [← h.2.1]
   simp only [List.length_cons]; omega
  cases h
theorem qt_len : ∀ (n : Nat) (s u r : List UInt8) (a : Bool), qtN z n s = some (u, r, a) → r.length < s.length
 | 0, s, u, r, a, h => by simp [qtN] at h
 | n + 1, [], u, r, a, h => by simp [qtN] at h
 | n + 1, c :: t, u, r, a, h => by
  simp only [qtN] at h
  split at h
  ·cases h
  split at h
  ·simp only [Option.some.injEq, Prod.mk.injEq] at h
   rw [← h.2.1]; simp
  split at h
  ·split at h
   ·cases h
   rename_i b t2 a1 he
   have h1 := esc_len he
   split at h
   ·cases h
   rename_i u2 r2 a2 hq
   have h2 := qt_len n _ _ _ _ hq
   simp only [Option.some.injEq, Prod.mk.injEq] at h
   rw [← h.2.1]
   simp only [List.length_cons]; omega
  split at h
  ·cases h
  rename_i u2 r2 a2 hq
  have h2 := qt_len n _ _ _ _ hq
  simp only [Option.some.injEq, Prod.mk.injEq] at h
  rw [← h.2.1]
  simp only [List.length_cons]; omega
theorem qtS_len {s u r : List UInt8} {a : Bool} (h : qtS z s = some (u, r, a)) : r.length < s.length := qt_len _ _ _ _ _ h
theorem parseS_nil : (parseS []).2 = 170 := by decide
theorem num_len {s : List UInt8} {f f2 : Fl} {v : J} {r : List UInt8} (h : numS s f = some (v, r, f2)) : r.length < s.length := by
 unfold numS at h
 split at h
 ·cases h
 rename_i h1
 simp only [Option.some.injEq, Prod.mk.injEq] at h
 rw [← h.2.1]
 have h2 : s.takeWhile numB ≠ [] := fun e => h1 (.inl (by rw [e]; exact parseS_nil))
 have h3 := congrArg List.length (List.takeWhile_append_dropWhile (p := numB) (l := s))
 rw [List.length_append] at h3
 have : 0 < (s.takeWhile numB).length := List.length_pos_iff.2 h2
 omega
theorem name_len {ns ns2 : List (List UInt8)} {s s2 : List UInt8} {f f2 : Fl} (h : nameS z ns s f = some (ns2, s2, f2)) : s2.length + 1 < s.length := by
 unfold nameS at h
 split at h
 ·cases h
 rename_i c t hs
 have h0 := skip_cons hs
 split at h
 ·split at h
  ·cases h
  rename_i u r a hq
  have h1 := qtS_len hq
  split at h
  ·cases h
  rename_i c2 r2 hr
  have h2 := skip_cons hr
  split at h
  ·simp only [Option.some.injEq, Prod.mk.injEq] at h
   rw [← h.2.1]; omega
  cases h
 cases h
def memS (z : List UInt8) (obj : Bool) (ns : List (List UInt8)) (s : List UInt8) (f : Fl) : Option (List (List UInt8) × List UInt8 × Fl) := if obj then nameS z ns s f else some (ns, s, f)
theorem mem_len {obj : Bool} {ns ns2 : List (List UInt8)} {s s2 : List UInt8} {f f2 : Fl} (h : memS z obj ns s f = some (ns2, s2, f2)) : s2.length ≤ s.length := by
 unfold memS at h
 split at h
 ·have := name_len h; omega
 simp only [Option.some.injEq, Prod.mk.injEq] at h; rw [h.2.1]; exact Nat.le_refl _
def moreS (z : List UInt8) (n d : Nat) (obj : Bool) (ls : List J) (ns2 : List (List UInt8)) : Option (J × List UInt8 × Fl) → Option (J × List UInt8 × Fl)
 | none => none
 | some (v, s3, f3) => match skipS s3 with
  | [] => none
  | c :: t => if c = endB obj then some (listJ obj (ls ++ [v]) ns2, t, f3) else if c = 44 then itemS z n d obj (ls ++ [v]) ns2 t f3 else none
theorem itemS_succ (n d : Nat) (obj : Bool) (ls : List J) (ns : List (List UInt8)) (s : List UInt8) (f : Fl) :
  itemS z (n + 1) d obj ls ns s f = match memS z obj ns s f with
   | none => none
   | some (ns2, s2, f2) => moreS z n d obj ls ns2 (valS z n d s2 f2) := by
 rw [itemS]
 unfold memS
 split
 ·rename_i h; rw [h]
 ·rename_i ns2 s2 f2 h
  rw [h]
  simp only [moreS]
  rfl
theorem val_len : ∀ (n : Nat), (∀ d s f v r f2, valS z n d s f = some (v, r, f2) → r.length < s.length) ∧ (∀ d obj s f v r f2, inS z n d obj s f = some (v, r, f2) → r.length < s.length) ∧
  (∀ d obj ls ns s f v r f2, itemS z n d obj ls ns s f = some (v, r, f2) → r.length < s.length) := by
 intro n
 induction n with
 | zero => exact ⟨fun d s f v r f2 h => by simp [valS] at h, fun d obj s f v r f2 h => by simp [inS] at h, fun d obj ls ns s f v r f2 h => by simp [itemS] at h⟩
 | succ n ih =>
  obtain ⟨i1, i2, i3⟩ := ih
  refine ⟨fun d s f v r f2 h => ?_, fun d obj s f v r f2 h => ?_, fun d obj ls ns s f v r f2 h => ?_⟩
  ·rw [valS] at h
   split at h
   ·cases h
   rename_i c t hs
   have h0 := skip_cons hs
   have h9 : (c :: t).length ≤ s.length := by rw [← hs]; exact skip_len s
   simp only [List.length_cons] at h9
   split at h
   ·have := i2 _ _ _ _ _ _ _ h; omega
   split at h
   ·have := i2 _ _ _ _ _ _ _ h; omega
   split at h
   ·split at h
    ·cases h
    rename_i hq
    have := qtS_len hq
    simp only [Option.some.injEq, Prod.mk.injEq] at h
    rw [← h.2.1]; omega
   split at h
   ·have := num_len h
    simp only [List.length_cons] at this; omega
   split at h
   ·simp only [Option.some.injEq, Prod.mk.injEq] at h
    rw [← h.2.1]; simp only [List.length_drop, List.length_cons]; omega
   split at h
   ·simp only [Option.some.injEq, Prod.mk.injEq] at h
    rw [← h.2.1]; simp only [List.length_drop, List.length_cons]; omega
   split at h
   ·simp only [Option.some.injEq, Prod.mk.injEq] at h
    rw [← h.2.1]; simp only [List.length_drop, List.length_cons]; omega
   cases h
  ·rw [inS] at h
   split at h
   ·cases h
   rename_i c t hs
   have h0 := skip_cons hs
   have h9 : (c :: t).length ≤ s.length := by rw [← hs]; exact skip_len s
   split at h
   ·simp only [Option.some.injEq, Prod.mk.injEq] at h
    rw [← h.2.1]; exact h0
   have := i3 _ _ _ _ _ _ _ _ _ h; omega
  rw [itemS_succ] at h
  split at h
  ·cases h
  rename_i ns2 s2 f2 hm
  have h1 := mem_len hm
  cases hv : valS z n d s2 f2 with
  | none => rw [hv] at h; simp [moreS] at h
  | some x =>
   obtain ⟨v, s3, f3⟩ := x
   have h2 := i1 _ _ _ _ _ _ hv
   rw [hv] at h
   simp only [moreS] at h
   split at h
   ·cases h
   rename_i c t hs
   have h3 := skip_cons hs
   split at h
   ·simp only [Option.some.injEq, Prod.mk.injEq] at h
    rw [← h.2.1]; omega
   split at h
   ·have := i3 _ _ _ _ _ _ _ _ _ h; omega
   cases h
open Go.RowKit
def OnlyR (R : Nat) (w w' : World) : Prop := Apart (fun k => k = R) w w'
theorem OnlyR.ofBelow {R : Nat} {w w' : World} (h : Below w.heap.size w w') : OnlyR R w w' := Apart.ofBelow h
theorem OnlyR.trans {R : Nat} {a b c : World} (h : OnlyR R a b) (k : OnlyR R b c) : OnlyR R a c := Apart.trans h k (fun _ _ h => h)
theorem OnlyR.set {R : Nat} {w w' : World} (h : OnlyR R w w') (i : Nat) (x : Value) : OnlyR R w (w'.setCell ⟨R, i, none⟩ x) := Apart.trans h (Apart.set (S := fun k => k = R) w' rfl x) (fun _ _ h => h)
theorem OnlyR.refl (R : Nat) (w : World) : OnlyR R w w := Apart.refl _ _
theorem drewN_b (w : World) (n : Nat) : Below w.heap.size w (w.drewN n) := below_drewN (Below.refl _ _) n
theorem skip_at (b : List UInt8) (n : Nat) (h : n < b.length) : skipS (b.drop n) = if blankB (b.getD n 0) then skipS (b.drop (n + 1)) else b.drop n := by
 rw [List.drop_eq_getElem_cons h]
 have e : b[n] = b.getD n 0 := by simp [h]
 rw [e]
 unfold skipS
 rw [List.dropWhile_cons]
open Go.RowKit
theorem hexN_at (b : List UInt8) (m j x : Nat) : hexN (j + 1) x (b.drop m) = match hexV (b.getD m 0) with
  | none => none
  | some d => hexN j (16 * x + d) (b.drop (m + 1)) := by
 rcases Nat.lt_or_ge m b.length with h | h
 ·rw [List.drop_eq_getElem_cons h]
  have e : b[m] = b.getD m 0 := by simp [h]
  rw [e]; rfl
 ·have e : b.getD m 0 = 0 := by simp [List.getElem?_eq_none h]
  rw [e, List.drop_of_length_le h]; rfl
open Go.RowKit
theorem drop_at {b : List UInt8} {n : Nat} (h : n < b.length) : b.drop n = b.getD n 0 :: b.drop (n + 1) := by
 rw [List.drop_eq_getElem_cons h]
 have e : b[n] = b.getD n 0 := by simp [h]
 rw [e]
open Go.RowKit
def qS (z s : List UInt8) : Option (List UInt8 × List UInt8 × Bool) := match s with
 | [] => none
 | c :: t => if c = 34 then qtS z t else none
open Go.RowKit
def kindI (obj : Bool) : Int := if obj then 5 else 4
def jz : List Value := [.int .i64 0, .bool false, .bool false, .string ⟨#[]⟩, .int .i64 0, .string ⟨#[]⟩, .slice none 0 0, .slice none 0 0]
def SepS (g8 : Nat) (nv : Value) (k : Nat) : Prop := g8 + 1 ≤ k ∧ nv.ownBlock ≠ some k
theorem OnlyR.trans' {R : Nat} {S : Nat → Prop} {a b c : World} (h : OnlyR R a b) (k : Apart S b c) (hs : ∀ i, i < a.heap.size → ¬ S i) : OnlyR R a c := Apart.trans h k (fun i hi e => absurd e (hs i hi))
theorem Apart.tset {S : Nat → Prop} {w w' : World} (h : Apart S w w') {a : Addr} (ha : S a.block) (v : Value) : Apart S w (w'.setCell a v) := h.trans (Apart.set (S := S) w' ha v) (fun _ _ h => h)
def set8 (w : World) (g : Nat) (x0 x1 x2 x3 x4 x5 x6 x7 : Value) : World := (((((((w.setCell ⟨g, 0, none⟩ x0).setCell ⟨g, 1, none⟩ x1).setCell ⟨g, 2, none⟩ x2).setCell ⟨g, 3, none⟩ x3).setCell ⟨g, 4, none⟩ x4).setCell ⟨g, 5, none⟩ x5).setCell ⟨g, 6, none⟩ x6).setCell ⟨g, 7, none⟩ x7
theorem set8_apart (w : World) (g : Nat) (x0 x1 x2 x3 x4 x5 x6 x7 : Value) : Apart (fun k => k = g) w (set8 w g x0 x1 x2 x3 x4 x5 x6 x7) :=
 ((((((((Apart.refl (fun k => k = g) w).tset (a := ⟨g, 0, none⟩) rfl _).tset (a := ⟨g, 1, none⟩) rfl _).tset (a := ⟨g, 2, none⟩) rfl _).tset (a := ⟨g, 3, none⟩) rfl _).tset (a := ⟨g, 4, none⟩) rfl _).tset (a := ⟨g, 5, none⟩) rfl _).tset (a := ⟨g, 6, none⟩) rfl _).tset (a := ⟨g, 7, none⟩) rfl _
theorem set8_row {w : World} {g : Nat} {l : List Value} (h : RowAt w g l) (hl : l.length = 8) (x0 x1 x2 x3 x4 x5 x6 x7 : Value) : RowAt (set8 w g x0 x1 x2 x3 x4 x5 x6 x7) g [x0, x1, x2, x3, x4, x5, x6, x7] := by
 have h1 := ((((((((h.set 0 x0 (by omega)).set 1 x1 (by simp; omega)).set 2 x2 (by simp; omega)).set 3 x3 (by simp; omega)).set 4 x4 (by simp; omega)).set 5 x5 (by simp; omega)).set 6 x6 (by simp; omega)).set 7 x7 (by simp; omega))
 match l, hl with
 | [_, _, _, _, _, _, _, _], _ => exact h1
theorem mem_obj (z : List UInt8) (ns : List (List UInt8)) (s : List UInt8) (f : Fl) : memS z true ns s f = match qS z (skipS s) with
  | none => none
  | some (u, r, a) => match skipS r with
   | [] => none
   | c2 :: r2 => if c2 = 58 then some (ns ++ [u], r2, { f with alone := f.alone || a, twice := f.twice || ns.contains u }) else none := by
 unfold memS
 simp only [if_true]
 unfold nameS qS
 cases skipS s with
 | nil => rfl
 | cons c t =>
  simp only
  split
  ·cases qtS z t <;> rfl
  rfl
open Go.RowKit
def ones8 (x0 x1 x2 x3 x4 x5 x6 x7 : Value) : Bool := x0.oneCell' && x1.oneCell' && x2.oneCell' && x3.oneCell' && x4.oneCell' && x5.oneCell' && x6.oneCell' && x7.oneCell'
theorem Tryz.info8j : (Tryz.prog.info? 30).map (·.size) = some 8 := by kernel_rfl
theorem run_store8 {w : World} {g : Nat} {l : List Value} (hr : RowAt w g l) (hl : l.length = 8) (x0 x1 x2 x3 x4 x5 x6 x7 : Value) (h1 : ones8 x0 x1 x2 x3 x4 x5 x6 x7 = true) :
  (storeVar 30 ⟨g, 0, none⟩ (.agg #[x0, x1, x2, x3, x4, x5, x6, x7])).run Tryz.prog w = .ok () (set8 w g x0 x1 x2 x3 x4 x5 x6 x7) := by
 have hone : ∀ v ∈ [x0, x1, x2, x3, x4, x5, x6, x7], v.oneCell' = true := by
  unfold ones8 at h1
  simp only [Bool.and_eq_true] at h1
  intro v hv
  simp only [List.mem_cons, List.not_mem_nil, or_false] at hv
  rcases hv with rfl | rfl | rfl | rfl | rfl | rfl | rfl | rfl <;> simp [h1]
 have hc : ∀ j, j < [x0, x1, x2, x3, x4, x5, x6, x7].length → (w.cell? ⟨g, 0 + 0 + j, none⟩).isSome = true := fun j hj => by
  have hj8 : j < l.length := by simp only [List.length_cons, List.length_nil] at hj; omega
  rw [Nat.zero_add, hr.cell j _ (List.getElem?_eq_getElem hj8)]; rfl
 have hf : ∀ j, j < [x0, x1, x2, x3, x4, x5, x6, x7].length → w.frozen? ⟨g, 0 + 0 + j, none⟩ = false := fun j hj => by
  rw [Nat.zero_add]; exact hr.free j
 have h := run_storeCells_cells (P := Tryz.prog) g 0 [x0, x1, x2, x3, x4, x5, x6, x7] 0 w hc hf hone
 cases hq : Tryz.prog.info? 30 with
 | none => have := Tryz.info8j; rw [hq] at this; cases this
 | some i =>
  have hs : i.size = 8 := by have := Tryz.info8j; rw [hq] at this; simpa using this
  have h2 : (storeCells ⟨g, 0, none⟩ [x0, x1, x2, x3, x4, x5, x6, x7]).run Tryz.prog w = .ok () (set8 w g x0 x1 x2 x3 x4 x5 x6 x7) := h
  simp [storeVar, sizeOf, typeInfo, hq, Value.cells, hs, h2]
theorem wpList_store8 {w : World} {ops : Array Oper} {rest : List Oper} {o : Oper} {a : Act} {Q : Exit → Act → World → Prop} (hgd : o.guard = none) (x y : Operand) (ho : o.op = .store 30 x y) (hd : o.dst = none)
  {g : Nat} {l : List Value} (hr : RowAt w g l) (hl : l.length = 8) (x0 x1 x2 x3 x4 x5 x6 x7 : Value) (hx : a.eval x = .pointer (some ⟨g, 0, none⟩)) (hy : a.eval y = .agg #[x0, x1, x2, x3, x4, x5, x6, x7]) (h1 : ones8 x0 x1 x2 x3 x4 x5 x6 x7 = true)
  (hK : wpList Tryz.prog ops Q rest a (set8 w g x0 x1 x2 x3 x4 x5 x6 x7)) :
  wpList Tryz.prog ops Q (o :: rest) a w := by
 refine wpList_plain hgd fun K hK' => ?_
 have hrun := run_store8 hr hl x0 x1 x2 x3 x4 x5 x6 x7 h1
 unfold Oper.wp
 have hs : (Instr.sureAddr (.pointer (some ⟨g, 0, none⟩))).run Tryz.prog w = .ok ⟨g, 0, none⟩ w := rfl
 simp [execOp, ho, hx, hy, Instr.storeAt, hs, hrun, Oper.upon, Act.put, hd]
 exact hK' _ _ hK
theorem rowj : (Tryz.prog.underlying 30).map TypeDesc.isRow = some true := by kernel_rfl
theorem run_loadVar8 {w : World} {g : Nat} {x0 x1 x2 x3 x4 x5 x6 x7 : Value} (hr : RowAt w g [x0, x1, x2, x3, x4, x5, x6, x7]) :
  (loadVar 30 ⟨g, 0, none⟩).run Tryz.prog w = .ok (.agg #[x0, x1, x2, x3, x4, x5, x6, x7]) w := by
 cases hq : Tryz.prog.underlying 30 with
 | none => have := rowj; rw [hq] at this; cases this
 | some d =>
  have hd : d.isRow = true := by have := rowj; rw [hq, Option.map_some, Option.some.injEq] at this; exact this
  exact run_loadVar_mid (P := Tryz.prog) w g 0 _ [x0, x1, x2, x3, x4, x5, x6, x7] d (fun j v h => by rw [Nat.zero_add]; exact hr.cell j v h) hq hd Tryz.info8j
theorem bodyPost_ret8 {fn : Func} {R : Ending → World → Prop} {a : Act} {w : World} {s g : Nat} {x0 x1 x2 x3 x4 x5 x6 x7 : Value} (hf : fn.results = #[.cell s 30]) (ht : a.tmps.getD s undef = .pointer (some ⟨g, 0, none⟩)) (hd : a.defers = [])
  (hr : RowAt w g [x0, x1, x2, x3, x4, x5, x6, x7]) (hR : R (.returned (.agg #[x0, x1, x2, x3, x4, x5, x6, x7])) w) : bodyPost Tryz.prog fn R .ret a w := by
 refine bodyPost_ret (v := .agg #[x0, x1, x2, x3, x4, x5, x6, x7]) ?_ hd hR
 have hl := run_loadVar8 hr
 unfold results
 rw [hf]
 have ht2 : a.tmps[s]?.getD undef = .pointer (some ⟨g, 0, none⟩) := by rw [← ht, Array.getD_eq_getD_getElem?]
 simp [ht2, asAddr, hl]
theorem stop_ret {P : Program} {f : Func} {Q : Ending → World → Prop} {a : Act} {w : World} (h : Hid (bodyPost P f Q .ret a w)) : bodyPost P f Q .ret a w := h.out
open Go.RowKit
theorem bodyPost_ret8t {fn : Func} {R : Ending → World → Prop} {a : Act} {w : World} {s t g : Nat} {x0 x1 x2 x3 x4 x5 x6 x7 y : Value} (hf : fn.results = #[.cell s 30, .tmp t]) (ht : a.tmps.getD s undef = .pointer (some ⟨g, 0, none⟩)) (hy : a.tmps.getD t undef = y) (hd : a.defers = [])
  (hr : RowAt w g [x0, x1, x2, x3, x4, x5, x6, x7]) (hR : R (.returned (.tuple #[.agg #[x0, x1, x2, x3, x4, x5, x6, x7], y])) w) : bodyPost Tryz.prog fn R .ret a w := by
 refine bodyPost_ret (v := .tuple #[.agg #[x0, x1, x2, x3, x4, x5, x6, x7], y]) ?_ hd hR
 have hl := run_loadVar8 hr
 unfold results
 rw [hf]
 have ht2 : a.tmps[s]?.getD undef = .pointer (some ⟨g, 0, none⟩) := by rw [← ht, Array.getD_eq_getD_getElem?]
 have hy2 : a.tmps[t]?.getD undef = y := by rw [← hy, Array.getD_eq_getD_getElem?]
 simp [ht2, hy2, asAddr, hl]
theorem wpList_load8 {w : World} {ops : Array Oper} {rest : List Oper} {o : Oper} {a : Act} {Q : Exit → Act → World → Prop} (hgd : o.guard = none) (x : Operand) (ho : o.op = .load 30 x)
  {g : Nat} {x0 x1 x2 x3 x4 x5 x6 x7 : Value} (hr : RowAt w g [x0, x1, x2, x3, x4, x5, x6, x7]) (hx : a.eval x = .pointer (some ⟨g, 0, none⟩))
  (hK : wpList Tryz.prog ops Q rest (a.put o.dst (.agg #[x0, x1, x2, x3, x4, x5, x6, x7])) w) :
  wpList Tryz.prog ops Q (o :: rest) a w := by
 refine wpList_plain hgd fun K hK' => ?_
 have hrun := run_loadVar8 hr
 unfold Oper.wp
 have hs : (Instr.sureAddr (.pointer (some ⟨g, 0, none⟩))).run Tryz.prog w = .ok ⟨g, 0, none⟩ w := rfl
 simp [execOp, ho, hx, Instr.loadAt, hs, hrun, Oper.upon]
 exact hK' _ _ hK
open Go.RowKit
def JBlk (w : World) (g : Nat) : Prop := ∃ c fz, w.heap[g]? = some (.cells c 30 fz)
theorem JBlk.new (w : World) (cs : Array Value) : JBlk (w.alloc (.cells cs 30)) w.heap.size := ⟨cs, (0, 0), heap_alloc_new w _⟩
theorem JBlk.set {w : World} {g : Nat} (h : JBlk w g) (i : Nat) (v : Value) : JBlk (w.setCell ⟨g, i, none⟩ v) g := by
 obtain ⟨c, fz, h⟩ := h
 exact ⟨_, fz, Joins.block_setCell h v⟩
theorem JBlk.set8 {w : World} {g : Nat} (h : JBlk w g) (x0 x1 x2 x3 x4 x5 x6 x7 : Value) : JBlk (set8 w g x0 x1 x2 x3 x4 x5 x6 x7) g :=
 ((((((((h.set 0 x0).set 1 x1).set 2 x2).set 3 x3).set 4 x4).set 5 x5).set 6 x6).set 7 x7)
theorem JBlk.heap {w w' : World} {g : Nat} (h : JBlk w g) (ho : Lib.OthersKept 5 none w w') : w'.heap[g]? = w.heap[g]? := by
 obtain ⟨c, fz, h⟩ := h
 rw [h]
 exact ho g _ h (by simp) (fun c2 fz2 e => by injection e with _ e2; exact absurd e2 (by decide))
theorem RowAt.heap {w w' : World} {g : Nat} {l : List Value} (h : RowAt w g l) (e : w'.heap[g]? = w.heap[g]?) : RowAt w' g l :=
 ⟨fun i v hi => (World.cell?_of_block (a := ⟨g, i, none⟩) e).trans (h.cell i v hi), fun i => (World.frozen?_of_block (a := ⟨g, i, none⟩) e).trans (h.free i), by
  have h1 := h.lt
  rw [Array.getElem?_eq_getElem h1] at e
  exact (Array.getElem?_eq_some_iff.1 e).1⟩
theorem RowAt.kept {w w' : World} {g : Nat} {l : List Value} (h : RowAt w g l) (hj : JBlk w g) (ho : Lib.OthersKept 5 none w w') : RowAt w' g l := h.heap (hj.heap ho)
def SlJ (r : JR) : Prop := r.2.1.oneCell' = true ∧ r.2.2.oneCell' = true
theorem JV.slJ {w : World} {S : Nat → Prop} {r : JR} (h : JV w S r) : SlJ r := by
 obtain ⟨p1, c1, p2, c2, h1, h2⟩ := h.slices
 exact ⟨by rw [h1]; rfl, by rw [h2]; rfl⟩
structure Bx (w w' : World) (r : JR) : Prop where
 row : RowAt w' w.heap.size (jcells r)
 blk : JBlk w' w.heap.size
 be : Below w.heap.size w w'
 kept : Lib.OthersKept 5 none w w'
 size : w'.heap.size = w.heap.size + 1
theorem Bx.of (w : World) (r : JR) : Bx w (w.alloc (.cells (jcells r).toArray 30)) r :=
 ⟨RowAt.new w (jcells r).toArray 30, JBlk.new w _, (Below.refl _ _).alloc (Nat.le_refl _) _, (Lib.OthersKept.refl _ _ _).alloc _, by simp⟩
theorem wpList_boxJ {w : World} {ops : Array Oper} {rest : List Oper} {o : Oper} {a : Act} {Q : Exit → Act → World → Prop} (hgd : o.guard = none) (x : Operand) (ho : o.op = .box 30 x) (r : JR) (hx : a.eval x = jval r)
  (hK : ∀ w', Bx w w' r → wpList Tryz.prog ops Q rest (a.put o.dst (.pointer (some ⟨w.heap.size, 0, none⟩))) w') : wpList Tryz.prog ops Q (o :: rest) a w := by
 refine wpList_plain hgd fun K hK' => ?_
 have hrun : (Instr.box 30 (jval r)).run Tryz.prog w = .ok (.pointer (some ⟨w.heap.size, 0, none⟩)) (w.alloc (.cells (jcells r).toArray 30)) := rfl
 unfold Oper.wp
 simp [execOp, ho, hx, hrun, Oper.upon]
 exact hK' _ _ (hK _ (Bx.of w r))
def jzero : JR := (J.zero, .slice none 0 0, .slice none 0 0)
theorem slJ_zero : SlJ jzero := ⟨rfl, rfl⟩
theorem run_allocJ (w : World) : (Instr.alloc 30 true (.tuple #[])).run Tryz.prog w = .ok (.pointer (some ⟨w.heap.size, 0, none⟩)) (w.alloc (.cells (jcells jzero).toArray 30)) := by
 obtain ⟨i0, hi, hz0, hz1, hz2⟩ := info_parts Tryz.info30
 have hz : (zeroValue 30).run Tryz.prog w = .ok (jval jzero) w := by
  unfold zeroValue
  simp [typeInfo, hi, hz0]
  rfl
 unfold Instr.alloc
 simp [hz]
 rfl
theorem wpList_allocJ {w : World} {ops : Array Oper} {rest : List Oper} {o : Oper} {a : Act} {Q : Exit → Act → World → Prop} (hgd : o.guard = none) (ho : o.op = .alloc 30)
  (hK : ∀ w', Bx w w' jzero → wpList Tryz.prog ops Q rest (a.put o.dst (.pointer (some ⟨w.heap.size, 0, none⟩))) w') : wpList Tryz.prog ops Q (o :: rest) a w := by
 refine wpList_plain hgd fun K hK' => ?_
 have hrun := run_allocJ w
 unfold Oper.wp
 simp [execOp, ho, hrun, Oper.upon]
 exact hK' _ _ (hK _ (Bx.of w jzero))
theorem wpList_loadJ {w : World} {ops : Array Oper} {rest : List Oper} {o : Oper} {a : Act} {Q : Exit → Act → World → Prop} (hgd : o.guard = none) (x : Operand) (ho : o.op = .load 30 x)
  {g : Nat} (r : JR) (hr : RowAt w g (jcells r)) (hx : a.eval x = .pointer (some ⟨g, 0, none⟩)) (hK : wpList Tryz.prog ops Q rest (a.put o.dst (jval r)) w) : wpList Tryz.prog ops Q (o :: rest) a w :=
 wpList_load8 hgd x ho hr hx hK
structure Sx (w w' : World) (g : Nat) (r : JR) : Prop where
 row : RowAt w' g (jcells r)
 apart : Apart (fun k => k = g) w w'
 blk : JBlk w g → JBlk w' g
 size : w'.heap.size = w.heap.size
theorem Sx.of {w : World} {g : Nat} {l : List Value} (hr : RowAt w g l) (hl : l.length = 8) (r : JR) : Sx w (set8 w g (.int .i64 r.1.kind) (.bool r.1.b) (.bool r.1.n.neg) (.string ⟨r.1.n.digits.toArray⟩) (.int .i64 r.1.n.exp) (.string ⟨r.1.t.toArray⟩) r.2.1 r.2.2) g r :=
 ⟨set8_row hr hl _ _ _ _ _ _ _ _, set8_apart _ _ _ _ _ _ _ _ _ _, fun h => h.set8 _ _ _ _ _ _ _ _, by unfold set8; simp⟩
theorem wpList_storeJ {w : World} {ops : Array Oper} {rest : List Oper} {o : Oper} {a : Act} {Q : Exit → Act → World → Prop} (hgd : o.guard = none) (x y : Operand) (ho : o.op = .store 30 x y) (hd : o.dst = none)
  {g : Nat} {l : List Value} (hr : RowAt w g l) (hl : l.length = 8) (r : JR) (hs : SlJ r) (hx : a.eval x = .pointer (some ⟨g, 0, none⟩)) (hy : a.eval y = jval r)
  (hK : ∀ w', Sx w w' g r → wpList Tryz.prog ops Q rest a w') : wpList Tryz.prog ops Q (o :: rest) a w :=
 wpList_store8 hgd x y ho hd hr hl _ _ _ _ _ _ _ _ hx hy (by unfold ones8; rw [hs.1, hs.2]; rfl) (hK _ (Sx.of hr hl r))
theorem bodyPost_retJ {fn : Func} {R : Ending → World → Prop} {a : Act} {w : World} {s g : Nat} (r : JR) (hf : fn.results = #[.cell s 30]) (ht : a.tmps.getD s undef = .pointer (some ⟨g, 0, none⟩)) (hd : a.defers = [])
  (hr : RowAt w g (jcells r)) (hR : R (.returned (jval r)) w) : bodyPost Tryz.prog fn R .ret a w := bodyPost_ret8 hf ht hd hr hR
theorem bodyPost_retJt {fn : Func} {R : Ending → World → Prop} {a : Act} {w : World} {s t g : Nat} {y : Value} (r : JR) (hf : fn.results = #[.cell s 30, .tmp t]) (ht : a.tmps.getD s undef = .pointer (some ⟨g, 0, none⟩)) (hy : a.tmps.getD t undef = y) (hd : a.defers = [])
  (hr : RowAt w g (jcells r)) (hR : R (.returned (.tuple #[jval r, y])) w) : bodyPost Tryz.prog fn R .ret a w := bodyPost_ret8t hf ht hy hd hr hR
theorem Sx.below {a w w' : World} {g B : Nat} {r : JR} (h : Sx w w' g r) (hb : Below B a w) (hg : B ≤ g) (hB : B ≤ w.heap.size) : Below B a w' := hb.trans (h.apart.below hB (fun i hi e => by omega))
theorem Bx.below {a w w' : World} {B : Nat} {r : JR} (h : Bx w w' r) (hb : Below B a w) (hB : B ≤ w.heap.size) : Below B a w' := hb.trans (h.be.mono hB)
theorem Sx.kept {a w w' : World} {g : Nat} {r : JR} (h : Sx w w' g r) (ho : Lib.OthersKept 5 none a w) (hg : a.heap.size ≤ g) : Lib.OthersKept 5 none a w' := fun k o hk hn hc => by
 have h1 := ho k o hk hn hc
 have h2 : k < a.heap.size := (Array.getElem?_eq_some_iff.1 hk).1
 have h3 : k < w.heap.size := (Array.getElem?_eq_some_iff.1 h1).1
 rw [h.apart.block k h3 (by omega)]
 exact h1
open Go.RowKit
theorem Dec.ext' {a b : Dec} (h1 : a.neg = b.neg) (h2 : a.digits = b.digits) (h3 : a.exp = b.exp) : a = b := by
 obtain ⟨_, _, _⟩ := a; obtain ⟨_, _, _⟩ := b; simp_all
def sameB (a b : Dec) : Bool := a.neg == b.neg && (a.digits == b.digits && a.exp == b.exp)
theorem sameB_iff (a b : Dec) : sameB a b = true ↔ a = b := by
 simp only [sameB, Bool.and_eq_true, beq_iff_eq]
 exact ⟨fun ⟨h1, h2, h3⟩ => Dec.ext' h1 h2 h3, fun h => by subst h; exact ⟨rfl, rfl, rfl⟩⟩
theorem run_neq_dec (a b : Dec) (w : World) : (binOp .neq 26 (.agg #[.bool a.neg, .string ⟨a.digits.toArray⟩, .int .i64 a.exp]) (.agg #[.bool b.neg, .string ⟨b.digits.toArray⟩, .int .i64 b.exp])).run Tryz.prog w = .ok (.bool (!sameB a b)) w := by
 have := Tryz.underlying26
 have := Tryz.underlying4
 have := Tryz.underlying9
 have := Tryz.underlying3
 go_simp
 unfold sameB
 by_cases h1 : a.neg = b.neg
 ·by_cases h2 : a.digits = b.digits
  ·by_cases h3 : a.exp = b.exp
   ·simp [h1, h2, h3]
   simp [h1, h2, h3]
  simp [h1, h2]
 simp [h1]
open Go.RowKit
theorem exec_load8 {w : World} {a : Act} {o : Oper} (x : Operand) (ho : o.op = .load 30 x) {g off : Nat} (hx : a.eval x = .pointer (some ⟨g, off, none⟩)) (r : JR) (hc : w.rangeAt g off (jcells r)) : (execOp a.eval o).run Tryz.prog w = .ok (.value (jval r)) w := by
 cases hq : Tryz.prog.underlying 30 with
 | none => have := rowj; rw [hq] at this; cases this
 | some d =>
  have hd : d.isRow = true := by have := rowj; rw [hq, Option.map_some, Option.some.injEq] at this; exact this
  have hl := run_loadAt_mid (P := Tryz.prog) w g off _ (jcells r) d hc hq hd Tryz.info8j
  simp [execOp, ho, hx, hl]
  rfl
end Go.Proofs.YtfclfaidmipjpaaGreatDoor
