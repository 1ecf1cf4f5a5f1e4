/- Texts of this claim, joined: JRT. -/
import Derived.Test.YtfclfaidmipjpaaGreatDoorPa01
namespace Go.Proofs.YtfclfaidmipjpaaGreatDoor
set_option maxRecDepth 100000
set_option maxHeartbeats 20000000
open Go.Lib (hid)
open Go.RowKit
/-! ### Nat6 -/
theorem u8s_set (os : List UInt8) (j : Nat) (y : UInt8) : u8s (os.set j y) = (u8s os).set j (.int .u8 (y.toNat : Int)) := by simp [u8s, List.map_set]
theorem BytV.cap {w : World} {B g cap : Nat} {n : Nat} {xs : List UInt8} (h : BytV w B (.slice (some ⟨g, 0, none⟩) n cap) xs) : n = xs.length ∧ xs.length ≤ cap ∧ cap ≤ maxLen ∧ g < w.heap.size ∧ B ≤ g := by
 rcases h.2 with ⟨h1, _⟩ | ⟨g', cap', cur, hv, hg, hh, h1, h2, r⟩
 ·cases h1
 cases hv
 exact ⟨rfl, h1, h2, (Array.getElem?_eq_some_iff.1 hh).1, hg⟩
theorem BytV.cell {w : World} {B g n cap : Nat} {xs : List UInt8} (h : BytV w B (.slice (some ⟨g, 0, none⟩) n cap) xs) (j : Nat) (hj : j < xs.length) :
  w.cell? ⟨g, j, none⟩ = some (.int .u8 ((xs.getD j 0).toNat : Int)) := by
 obtain ⟨rfl, _⟩ := h.cap
 rw [World.ownsRow.cellAt h j (by omega)]; exact u8s_at xs j hj
theorem BytV.frozen {w : World} {B g n cap : Nat} {os : List UInt8} (h : BytV w B (.slice (some ⟨g, 0, none⟩) n cap) os) (j : Nat) : w.frozen? ⟨g, j, none⟩ = false := by
 obtain ⟨rfl, _⟩ := h.cap
 exact World.ownsRow.frozenAt h j
theorem BytV.set {w : World} {B g n cap : Nat} {os : List UInt8} (h : BytV w B (.slice (some ⟨g, 0, none⟩) n cap) os) (j : Nat) (y : UInt8) (yi : Int) (hy : yi = (y.toNat : Int)) :
  BytV (w.setCell ⟨g, j, none⟩ (.int .u8 yi)) B (.slice (some ⟨g, 0, none⟩) n cap) (os.set j y) := by
 subst hy
 obtain ⟨rfl, _⟩ := h.cap
 have := (World.ownsRow.stored h j (.int .u8 (y.toNat : Int))).1
 unfold BytV
 rw [u8s_set, List.length_set]
 exact this
theorem wpList_make_bytes {w : World} {ops : Array Oper} {rest : List Oper} {o : Oper} {a : Act} {Q : Exit → Act → World → Prop}
  (hg : o.guard = none) (l c : Operand) (hop : o.op = Op.makeSlice 22 l c)
  (L C : Int) (n : Nat) (hl : a.eval l = .int .i64 L) (hc : a.eval c = .int .i64 C) (hL : L = (n : Int)) (hC : C = (n : Int)) (b2 : n ≤ 1000000000000)
  (hK : ∀ w', BytV w' w.heap.size (.slice (some ⟨w.heap.size, 0, none⟩) n n) (List.replicate n 0) → Below w.heap.size w w' → wpList Tryz.prog ops Q rest (a.put o.dst (.slice (some ⟨w.heap.size, 0, none⟩) n n)) w') :
  wpList Tryz.prog ops Q (o :: rest) a w := by
 obtain ⟨i0, hi, hz0, hz1, hz2⟩ := info_parts Tryz.info5
 refine wpList_make_full w hg l c 22 hop w.heap.size 5 i0 (.int .u8 0) 1 Tryz.underlying22 hi hz0 hz1 .i64 .i64 L C n hl hc hL hC (by rw [hz2]; omega) (by unfold maxLen; omega) (Nat.le_refl _) ?_
 intro w' h1 h2
 refine hK w' ?_ ((Below.refl _ _).grown h2 (Nat.le_refl _) (fun k hk => by cases hk))
 unfold BytV
 rw [show (madeCells (Value.int IntKind.u8 0).cells (n * 1)).toList = u8s (List.replicate n 0) from ?_] at h1
 ·rw [List.length_replicate]; exact h1
 ·show (madeCells #[Value.int .u8 0] (n * 1)).toList = _
  rw [toList_madeCells_one, Nat.mul_one]; simp [u8s]
theorem BytV.string {w : World} {B g n cap : Nat} {l : List UInt8} (h : BytV w B (.slice (some ⟨g, 0, none⟩) n cap) l) :
  (convert 22 9 (.slice (some ⟨g, 0, none⟩) n cap)).run Tryz.prog w = .ok (.string ⟨l.toArray⟩) w := by
 obtain ⟨rfl, _⟩ := h.cap
 refine run_convert_bytes_back w 22 9 5 ⟨g, 0, none⟩ cap l Tryz.underlying22 Tryz.underlying5 Tryz.underlying9 (fun j hj => ?_)
 have := h.cell j hj
 have e : l.getD j 0 = l[j] := by simp [hj]
 rw [e] at this
 cases j with
 | zero => simpa [Addr.add] using this
 | succ j => simpa [Addr.add] using this
/-! ### Ref2 -/
theorem noughtsR_calls (w : World) (n : Int) (h1 : -1000000 ≤ n) (h2 : n ≤ 1000000) :
  Calls Tryz.prog 110 #[.int .i64 n] w fun e w' => e = .returned (.string ⟨(List.replicate n.toNat (48 : UInt8)).toArray⟩) ∧ Below w.heap.size w w' := by
 obtain ⟨m, hm, hmm⟩ : ∃ m : Nat, max 0 n = (m : Int) ∧ n.toNat = m := ⟨n.toNat, by omega, rfl⟩
 have Hmm := hid hmm
 have hm9 : m ≤ 1000000 := by omega
 clear hmm
 go_enter Tryz.func110, Tryz.ntmps110
 go_wp2_with (at_make; go_must (refine wpList_make_bytes rfl _ _ rfl _ _ m rfl rfl (by omega) (by omega) (by omega) ?_))
 intro w0 hv0 hb0
 clear hm
 go_wp2_with fail
 go_loopg [4] m (fun k i wr => ∃ (j : Nat) (os : List UInt8), k = m - j ∧ j ≤ m ∧ i = .int .i64 j ∧ BytV wr w.heap.size (.slice (some ⟨w.heap.size, 0, none⟩) m m) os ∧ os.length = m ∧ os.take j = List.replicate j 48 ∧ Below w.heap.size w wr)
 case atStart => exact ⟨0, List.replicate m 0, rfl, by omega, rfl, hv0, by simp, by simp, hb0⟩
 case round =>
  obtain ⟨j, os, hk, hj, rfl, hos, hlos, htk, hbel⟩ := hrel
  have Hk := hid hk
  have Hlos := hid hlos
  have Htk := hid htk
  clear hk hlos htk hv0 hb0
  by_cases hlt : j < m
  ·have hlt' : (j : Int) < m := by omega
   have hq1 : j < os.length := by have := Hlos.out; omega
   have c2 := hos.cell j hq1
   have f2 := hos.frozen j
   go_wp2_with fail
   go_roundg (m - (j + 1))
   case measure => have := Hk.out; omega
   refine ⟨j + 1, os.set j 48, rfl, by omega, by go_num, hos.set j 48 48 rfl, by rw [List.length_set]; exact Hlos.out, ?_, hbel.setCell (Nat.le_refl _) _⟩
   rw [take_snoc8 _ _ (by rw [List.length_set]; exact hq1), List.replicate_succ', List.take_set_of_le (Nat.le_refl j), Htk.out]
   simp [hq1]
  obtain rfl : j = m := by omega
  have hconv := hos.string
  have Hf : Hid (os = List.replicate j 48) := by
   show os = _
   rw [← Htk.out, List.take_of_length_le (by rw [Hlos.out]; exact Nat.le_refl _)]
  go_wp2_with fail
  go_ret
  exact ⟨by rw [Hmm.out, ← Hf.out]; rfl, hbel⟩
/-! ### Ref4 -/
theorem textR_a (w : World) (neg : Bool) (c : UInt8) (t : List UInt8) (exp : Int) (hdl : t.length + 1 ≤ 100) (he1 : -1000 ≤ exp) (he2 : exp ≤ 1000) (ht : Tab w) (h1 : 0 ≤ exp) (h2 : (t.length : Int) + 1 + exp ≤ 21) :
  Calls Tryz.prog 74 #[.agg #[.bool neg, .string ⟨(c :: t).toArray⟩, .int .i64 exp]] w fun e w' => e = .returned (.string ⟨(textT ⟨neg, c :: t, exp⟩).toArray⟩) ∧ Below w.heap.size w w' := by
 have hd := DecAt.at w ⟨neg, c :: t, exp⟩ _ rfl
 have hbel : Below w.heap.size w (w.alloc (Obj.cells #[Value.bool neg, Value.string { data := (c :: t).toArray }, Value.int IntKind.i64 exp] 26)) := (Below.refl _ _).alloc (Nat.le_refl _) _
 have hA : textA ⟨neg, c :: t, exp⟩ = (c :: t) ++ List.replicate exp.toNat 48 := by
  simp only [textA, List.length_cons]; rw [if_neg (by omega), if_pos (by omega)]
 have HA := hid hA
 clear hA
 have Ht := hid (ht.alloc (Obj.cells #[Value.bool neg, Value.string { data := (c :: t).toArray }, Value.int IntKind.i64 exp] 26))
 clear ht
 go_enter Tryz.func74, Tryz.ntmps74
 go_upto_region 1 with fail
 simp only at hd
 generalize w.alloc (Obj.cells #[Value.bool neg, Value.string { data := (c :: t).toArray }, Value.int IntKind.i64 exp] 26) = w1 at *
 have H1 := hid hd
 have c0 := hd.c0
 have c1 := hd.c1
 have c2 := hd.c2
 simp only at c0 c1 c2
 clear hd
 have hS : ∀ s : List UInt8, (if neg then 45 :: s else s) = (if neg then [45] else []) ++ s := fun s => by cases neg <;> rfl
 have HS : Hid (textT ⟨neg, c :: t, exp⟩ = (if neg then [45] else []) ++ textA ⟨neg, c :: t, exp⟩) := by
  show textT _ = _; unfold textT; exact hS _
 clear hS
 have hsl : (if neg then [(45 : UInt8)] else []).length ≤ 1 := by cases neg <;> simp
 go_upto_if 10 with fail
 go_cut [3] from 11 to 11 (fun u wc => u = .string ⟨(if neg then [(45 : UInt8)] else []).toArray⟩ ∧ w1 = wc)
 case first =>
  cases neg with
  | true =>
   go_wp2_with fail
   go_meet
   exact ⟨rfl, rfl⟩
  | false =>
   go_wp2_with fail
   go_meet
   exact ⟨rfl, rfl⟩
 case rest =>
  obtain ⟨rfl, rfl⟩ := hcut
  generalize (if neg then [(45 : UInt8)] else []) = S at *
  have hx : (0 : Int) ≤ exp := by omega
  have hp : (t.length : Int) + 1 + exp ≤ 21 := by omega
  go_upto_region 9 with fail
  have hS0 : (fun w' => w'.cell? ⟨w.heap.size, 0, none⟩ = some (.bool neg) ∧ w'.cell? ⟨w.heap.size, 1, none⟩ = some (.string ⟨(c :: t).toArray⟩) ∧ w'.cell? ⟨w.heap.size, 2, none⟩ = some (.int .i64 exp)) w1.drew := ⟨c0, c1, c2⟩
  have hs1 : ¬ 9223372036854775807 < S.length + (t.length + 1) := by omega
  refine wp_region_held_drew (S := (fun w' => w'.cell? ⟨w.heap.size, 0, none⟩ = some (.bool neg) ∧ w'.cell? ⟨w.heap.size, 1, none⟩ = some (.string ⟨(c :: t).toArray⟩) ∧ w'.cell? ⟨w.heap.size, 2, none⟩ = some (.int .i64 exp))) (by kernel_rfl) hS0 (fun hHeld0 => ?_)
  refine held_ta 0 hHeld0 ?_
  refine held_ta 1 hHeld0 ?_
  refine held_ta 2 hHeld0 ?_
  refine held_ta 3 hHeld0 ?_
  refine held_ta 4 hHeld0 ?_
  refine held_ta 5 hHeld0 ?_
  refine held_st 6 rfl (fun K hK => ?_)
  go_simp
  refine (noughtsR_calls _ exp (by omega) (by omega)).mono ?_
  rintro e w2 ⟨rfl, hb2⟩
  dsimp only
  have hd2 := H1.out.drew.under hb2
  have hb3 := hbel.drew.trans (hb2.mono hbel.size)
  clear hb2
  have hrl : (List.replicate (exp).toNat (48 : UInt8)).length ≤ 1000 := by simp; omega
  have Hrl : Hid (∃ L, L = List.replicate (exp).toNat (48 : UInt8)) := ⟨_, rfl⟩
  obtain ⟨L, hL⟩ := Hrl.out
  rw [← hL] at hrl ⊢
  have HL := hid hL
  clear hL Hrl
  have hs2 : ¬ 9223372036854775807 < S.length + (t.length + 1) + L.length := by omega
  refine hK.out _ _ ⟨hd2.c0, hd2.c1, hd2.c2⟩ (fun hHeld1 => ?_)
  clear hK K hHeld0
  refine held_ta 7 hHeld1 ?_
  refine held_ta 8 hHeld1 ?_
  refine wpAnyH_done (by kernel_rfl) ?_ _
  clear hHeld1
  clear hS0
  go_wp2_with fail
  go_ret
  refine ⟨?_, hb3⟩
  rw [HS.out, HA.out, ← HL.out]
  exact congrArg (fun s => Ending.returned (.string s)) (bytes_eq (by simp [ByteArray.data_append]))
theorem textR_b (w : World) (neg : Bool) (c : UInt8) (t : List UInt8) (exp : Int) (hdl : t.length + 1 ≤ 100) (he1 : -1000 ≤ exp) (he2 : exp ≤ 1000) (ht : Tab w) (h1 : exp < 0) (h2 : 0 < (t.length : Int) + 1 + exp) (h3 : (t.length : Int) + 1 + exp ≤ 21) :
  Calls Tryz.prog 74 #[.agg #[.bool neg, .string ⟨(c :: t).toArray⟩, .int .i64 exp]] w fun e w' => e = .returned (.string ⟨(textT ⟨neg, c :: t, exp⟩).toArray⟩) ∧ Below w.heap.size w w' := by
 have hd := DecAt.at w ⟨neg, c :: t, exp⟩ _ rfl
 have hbel : Below w.heap.size w (w.alloc (Obj.cells #[Value.bool neg, Value.string { data := (c :: t).toArray }, Value.int IntKind.i64 exp] 26)) := (Below.refl _ _).alloc (Nat.le_refl _) _
 have hA : textA ⟨neg, c :: t, exp⟩ = (c :: t).take ((t.length : Int) + 1 + exp).toNat ++ 46 :: (c :: t).drop ((t.length : Int) + 1 + exp).toNat := by
  simp only [textA, List.length_cons]; rw [if_neg (by omega), if_neg (by omega), if_pos (by omega)]; rfl
 have HA := hid hA
 clear hA
 have Ht := hid (ht.alloc (Obj.cells #[Value.bool neg, Value.string { data := (c :: t).toArray }, Value.int IntKind.i64 exp] 26))
 clear ht
 go_enter Tryz.func74, Tryz.ntmps74
 go_upto_region 1 with fail
 simp only at hd
 generalize w.alloc (Obj.cells #[Value.bool neg, Value.string { data := (c :: t).toArray }, Value.int IntKind.i64 exp] 26) = w1 at *
 have H1 := hid hd
 have c0 := hd.c0
 have c1 := hd.c1
 have c2 := hd.c2
 simp only at c0 c1 c2
 clear hd
 have hS : ∀ s : List UInt8, (if neg then 45 :: s else s) = (if neg then [45] else []) ++ s := fun s => by cases neg <;> rfl
 have HS : Hid (textT ⟨neg, c :: t, exp⟩ = (if neg then [45] else []) ++ textA ⟨neg, c :: t, exp⟩) := by
  show textT _ = _; unfold textT; exact hS _
 clear hS
 have hsl : (if neg then [(45 : UInt8)] else []).length ≤ 1 := by cases neg <;> simp
 go_upto_if 10 with fail
 go_cut [3] from 11 to 11 (fun u wc => u = .string ⟨(if neg then [(45 : UInt8)] else []).toArray⟩ ∧ w1 = wc)
 case first =>
  cases neg with
  | true =>
   go_wp2_with fail
   go_meet
   exact ⟨rfl, rfl⟩
  | false =>
   go_wp2_with fail
   go_meet
   exact ⟨rfl, rfl⟩
 case rest =>
  obtain ⟨rfl, rfl⟩ := hcut
  generalize (if neg then [(45 : UInt8)] else []) = S at *
  obtain ⟨p, hp⟩ : ∃ p : Nat, (t.length : Int) + 1 + exp = (p : Int) := ⟨((t.length : Int) + 1 + exp).toNat, by omega⟩
  have hx : ¬ (0 : Int) ≤ exp := by omega
  have hp1 : (0 : Int) < (p : Int) := by omega
  have hp2 : (p : Int) ≤ 21 := by omega
  have hp3 : p ≤ t.length := by omega
  have Hp := hid hp
  have hpn : ((t.length : Int) + 1 + exp).toNat = p := by omega
  rw [hpn] at HA
  have hx1 : (⟨(c :: t).toArray⟩ : ByteArray).extract 0 p = ⟨((c :: t).take p).toArray⟩ := by rw [Lib.extract_eq]; simp
  have hx2 : (⟨(c :: t).toArray⟩ : ByteArray).extract p (t.length + 1) = ⟨((c :: t).drop p).toArray⟩ := by rw [Lib.extract_eq]; rw [List.take_of_length_le (by simp)]
  have hl1 : ((c :: t).take p).length ≤ 100 := by simp; omega
  have hl2 : ((c :: t).drop p).length ≤ 100 := by simp; omega
  generalize (c :: t).take p = D1 at *
  generalize (c :: t).drop p = D2 at *
  clear hp hpn h2 h3
  go_upto_region 8 with fail
  rw [Hp.out]
  clear Hp
  go_upto_region 11 with fail
  have hS0 : (fun w' => w'.cell? ⟨w.heap.size, 0, none⟩ = some (.bool neg) ∧ w'.cell? ⟨w.heap.size, 1, none⟩ = some (.string ⟨(c :: t).toArray⟩) ∧ w'.cell? ⟨w.heap.size, 2, none⟩ = some (.int .i64 exp)) w1.drew := ⟨c0, c1, c2⟩
  have hs1 : ¬ 9223372036854775807 < S.length + D1.length := by omega
  have hs2 : ¬ 9223372036854775807 < S.length + D1.length + 1 := by omega
  have hs3 : ¬ 9223372036854775807 < S.length + D1.length + 1 + D2.length := by omega
  have hpI : (0 : Int) ≤ (p : Int) := by omega
  have hpI2 : (p : Int) ≤ (t.length : Int) + 1 := by omega
  refine wp_region_held_drew (S := (fun w' => w'.cell? ⟨w.heap.size, 0, none⟩ = some (.bool neg) ∧ w'.cell? ⟨w.heap.size, 1, none⟩ = some (.string ⟨(c :: t).toArray⟩) ∧ w'.cell? ⟨w.heap.size, 2, none⟩ = some (.int .i64 exp))) (by kernel_rfl) hS0 (fun hHeld0 => ?_)
  refine held_ta 0 hHeld0 ?_
  refine held_ta 1 hHeld0 ?_
  refine held_ta 2 hHeld0 ?_
  refine held_ta 3 hHeld0 ?_
  refine held_ta 4 hHeld0 ?_
  refine held_ta 5 hHeld0 ?_
  refine held_ta 6 hHeld0 ?_
  refine held_ta 7 hHeld0 ?_
  refine held_ta 8 hHeld0 ?_
  refine held_ta 9 hHeld0 ?_
  refine held_ta 10 hHeld0 ?_
  refine held_ta 11 hHeld0 ?_
  refine held_ta 12 hHeld0 ?_
  refine wpAnyH_done (by kernel_rfl) ?_ _
  clear hHeld0
  clear hS0
  go_wp2_with fail
  go_ret
  refine ⟨?_, hbel.drew⟩
  rw [HS.out, HA.out]
  exact congrArg (fun s => Ending.returned (.string s)) (bytes_eq (by simp [ByteArray.data_append]))
theorem textR_c (w : World) (neg : Bool) (c : UInt8) (t : List UInt8) (exp : Int) (hdl : t.length + 1 ≤ 100) (he1 : -1000 ≤ exp) (he2 : exp ≤ 1000) (ht : Tab w) (h1 : exp < 0) (h2 : (t.length : Int) + 1 + exp ≤ 0) (h3 : -5 ≤ (t.length : Int) + 1 + exp) :
  Calls Tryz.prog 74 #[.agg #[.bool neg, .string ⟨(c :: t).toArray⟩, .int .i64 exp]] w fun e w' => e = .returned (.string ⟨(textT ⟨neg, c :: t, exp⟩).toArray⟩) ∧ Below w.heap.size w w' := by
 have hd := DecAt.at w ⟨neg, c :: t, exp⟩ _ rfl
 have hbel : Below w.heap.size w (w.alloc (Obj.cells #[Value.bool neg, Value.string { data := (c :: t).toArray }, Value.int IntKind.i64 exp] 26)) := (Below.refl _ _).alloc (Nat.le_refl _) _
 have hA : textA ⟨neg, c :: t, exp⟩ = 48 :: 46 :: (List.replicate (-((t.length : Int) + 1 + exp)).toNat 48 ++ (c :: t)) := by
  simp only [textA, List.length_cons]; rw [if_neg (by omega), if_neg (by omega), if_neg (by omega), if_pos (by omega)]; rfl
 have HA := hid hA
 clear hA
 have Ht := hid (ht.alloc (Obj.cells #[Value.bool neg, Value.string { data := (c :: t).toArray }, Value.int IntKind.i64 exp] 26))
 clear ht
 go_enter Tryz.func74, Tryz.ntmps74
 go_upto_region 1 with fail
 simp only at hd
 generalize w.alloc (Obj.cells #[Value.bool neg, Value.string { data := (c :: t).toArray }, Value.int IntKind.i64 exp] 26) = w1 at *
 have H1 := hid hd
 have c0 := hd.c0
 have c1 := hd.c1
 have c2 := hd.c2
 simp only at c0 c1 c2
 clear hd
 have hS : ∀ s : List UInt8, (if neg then 45 :: s else s) = (if neg then [45] else []) ++ s := fun s => by cases neg <;> rfl
 have HS : Hid (textT ⟨neg, c :: t, exp⟩ = (if neg then [45] else []) ++ textA ⟨neg, c :: t, exp⟩) := by
  show textT _ = _; unfold textT; exact hS _
 clear hS
 have hsl : (if neg then [(45 : UInt8)] else []).length ≤ 1 := by cases neg <;> simp
 go_upto_if 10 with fail
 go_cut [3] from 11 to 11 (fun u wc => u = .string ⟨(if neg then [(45 : UInt8)] else []).toArray⟩ ∧ w1 = wc)
 case first =>
  cases neg with
  | true =>
   go_wp2_with fail
   go_meet
   exact ⟨rfl, rfl⟩
  | false =>
   go_wp2_with fail
   go_meet
   exact ⟨rfl, rfl⟩
 case rest =>
  obtain ⟨rfl, rfl⟩ := hcut
  generalize (if neg then [(45 : UInt8)] else []) = S at *
  have hx : ¬ (0 : Int) ≤ exp := by omega
  obtain ⟨p, hp⟩ : ∃ p : Int, (t.length : Int) + 1 + exp = p := ⟨_, rfl⟩
  rw [hp] at h2 h3 HA
  have hxp : exp < 0 := by omega
  have Hp := hid hp
  clear hp
  go_upto_region 8 with fail
  rw [Hp.out]
  clear Hp
  go_upto_region 13 with fail
  have hS0 : (fun w' => w'.cell? ⟨w.heap.size, 0, none⟩ = some (.bool neg) ∧ w'.cell? ⟨w.heap.size, 1, none⟩ = some (.string ⟨(c :: t).toArray⟩) ∧ w'.cell? ⟨w.heap.size, 2, none⟩ = some (.int .i64 exp)) w1.drew := ⟨c0, c1, c2⟩
  have hs1 : ¬ 9223372036854775807 < S.length + 2 := by omega
  have hwp : IntKind.i64.wrap (-p) = -p := IntWalk.i64_in _ (by omega)
  refine wp_region_held_drew (S := (fun w' => w'.cell? ⟨w.heap.size, 0, none⟩ = some (.bool neg) ∧ w'.cell? ⟨w.heap.size, 1, none⟩ = some (.string ⟨(c :: t).toArray⟩) ∧ w'.cell? ⟨w.heap.size, 2, none⟩ = some (.int .i64 exp))) (by kernel_rfl) hS0 (fun hHeld0 => ?_)
  refine held_ta 0 hHeld0 ?_
  refine held_ta 1 hHeld0 ?_
  refine held_ta 2 hHeld0 ?_
  refine held_ta 3 hHeld0 ?_
  refine held_ta 6 hHeld0 ?_
  refine held_ta 7 hHeld0 ?_
  refine held_st 4 rfl (fun K hK => ?_)
  go_simp
  refine (noughtsR_calls _ (-p) (by omega) (by omega)).mono ?_
  rintro e w2 ⟨rfl, hb2⟩
  dsimp only
  have hd2 := H1.out.drew.under hb2
  have hb3 := hbel.drew.trans (hb2.mono hbel.size)
  clear hb2
  have hrl : (List.replicate ((-p)).toNat (48 : UInt8)).length ≤ 1000 := by simp; omega
  have Hrl : Hid (∃ L, L = List.replicate ((-p)).toNat (48 : UInt8)) := ⟨_, rfl⟩
  obtain ⟨L, hL⟩ := Hrl.out
  rw [← hL] at hrl ⊢
  have HL := hid hL
  clear hL Hrl
  have hs2 : ¬ 9223372036854775807 < S.length + 2 + L.length := by omega
  have hs3 : ¬ 9223372036854775807 < S.length + 2 + L.length + (t.length + 1) := by omega
  refine hK.out _ _ ⟨hd2.c0, hd2.c1, hd2.c2⟩ (fun hHeld1 => ?_)
  clear hK K hHeld0
  refine held_ta 5 hHeld1 ?_
  refine held_ta 8 hHeld1 ?_
  refine held_ta 9 hHeld1 ?_
  refine wpAnyH_done (by kernel_rfl) ?_ _
  clear hHeld1
  clear hS0 hwp
  go_wp2_with fail
  go_ret
  refine ⟨?_, hb3⟩
  rw [HS.out, HA.out, ← HL.out]
  exact congrArg (fun s => Ending.returned (.string s)) (bytes_eq (by simp [ByteArray.data_append]))
theorem textR_d (w : World) (neg : Bool) (c : UInt8) (t : List UInt8) (exp : Int) (hdl : t.length + 1 ≤ 100) (he1 : -1000 ≤ exp) (he2 : exp ≤ 1000) (ht : Tab w) (h1 : t.length = 0) (h2 : 21 < (t.length : Int) + 1 + exp ∨ (t.length : Int) + 1 + exp < -5) :
  Calls Tryz.prog 74 #[.agg #[.bool neg, .string ⟨(c :: t).toArray⟩, .int .i64 exp]] w fun e w' => e = .returned (.string ⟨(textT ⟨neg, c :: t, exp⟩).toArray⟩) ∧ Below w.heap.size w w' := by
 have hd := DecAt.at w ⟨neg, c :: t, exp⟩ _ rfl
 have hbel : Below w.heap.size w (w.alloc (Obj.cells #[Value.bool neg, Value.string { data := (c :: t).toArray }, Value.int IntKind.i64 exp] 26)) := (Below.refl _ _).alloc (Nat.le_refl _) _
 have hA : textA ⟨neg, c :: t, exp⟩ = [c] ++ 101 :: Lib.itoa ((t.length : Int) + 1 + exp - 1) := by
  simp only [textA, List.length_cons]; rw [if_neg (by omega), if_neg (by omega), if_neg (by omega), if_neg (by omega), if_neg (by omega), List.length_eq_zero_iff.1 h1]; rfl
 have HA := hid hA
 clear hA
 have Ht := hid (ht.alloc (Obj.cells #[Value.bool neg, Value.string { data := (c :: t).toArray }, Value.int IntKind.i64 exp] 26))
 clear ht
 go_enter Tryz.func74, Tryz.ntmps74
 go_upto_region 1 with fail
 simp only at hd
 generalize w.alloc (Obj.cells #[Value.bool neg, Value.string { data := (c :: t).toArray }, Value.int IntKind.i64 exp] 26) = w1 at *
 have H1 := hid hd
 have c0 := hd.c0
 have c1 := hd.c1
 have c2 := hd.c2
 simp only at c0 c1 c2
 clear hd
 have hS : ∀ s : List UInt8, (if neg then 45 :: s else s) = (if neg then [45] else []) ++ s := fun s => by cases neg <;> rfl
 have HS : Hid (textT ⟨neg, c :: t, exp⟩ = (if neg then [45] else []) ++ textA ⟨neg, c :: t, exp⟩) := by
  show textT _ = _; unfold textT; exact hS _
 clear hS
 have hsl : (if neg then [(45 : UInt8)] else []).length ≤ 1 := by cases neg <;> simp
 go_upto_if 10 with fail
 go_cut [3] from 11 to 11 (fun u wc => u = .string ⟨(if neg then [(45 : UInt8)] else []).toArray⟩ ∧ w1 = wc)
 case first =>
  cases neg with
  | true =>
   go_wp2_with fail
   go_meet
   exact ⟨rfl, rfl⟩
  | false =>
   go_wp2_with fail
   go_meet
   exact ⟨rfl, rfl⟩
 case rest =>
  obtain ⟨rfl, rfl⟩ := hcut
  generalize (if neg then [(45 : UInt8)] else []) = S at *
  obtain ⟨p, hp⟩ : ∃ p : Int, (t.length : Int) + 1 + exp = p := ⟨_, rfl⟩
  have hxp : exp < p := by omega
  rw [hp] at h2 HA
  have hp1 : -2000 ≤ p := by omega
  have hp2 : p ≤ 2000 := by omega
  have Hp := hid hp
  clear hp
  have hx1 : (⟨(c :: t).toArray⟩ : ByteArray).extract 0 1 = ⟨[c].toArray⟩ := by rw [Lib.extract_eq]; rfl
  have hn1 : ¬ (0 : Int) < t.length := by omega
  have hxt : t.length ≤ 0 := by omega
  clear h1
  go_upto_region 8 with fail
  rw [Hp.out]
  clear Hp
  have hs1 : ¬ 9223372036854775807 < S.length + 1 := by omega
  have hs2 : ¬ 9223372036854775807 < S.length + 1 + 1 := by omega
  have h2' : (21 < p ∧ 0 ≤ exp) ∨ (21 < p ∧ exp < 0) ∨ (p < -5 ∧ exp < 0) := by omega
  clear h2
  rcases h2' with ⟨h2, hx⟩ | ⟨h2, hx⟩ | ⟨h2, hx⟩
  all_goals
   go_wp2_with fail
   refine (Tryz.strconv_Itoa (p - 1) (by omega) (by omega) _ (by exact Ht.out)).mono ?_
   rintro e w4 ⟨rfl, k, os, hw4⟩
   have hb4 := below_grow w1 k os
   rw [← hw4] at hb4
   have hb4 : Below w1.heap.size w1 w4 := hb4
   have hit := Lib.itoa_length_le (p - 1) (by omega) (by omega)
   have hb3 := hbel.trans (hb4.mono hbel.size)
   clear hb4 hw4 c0 c1 c2 Ht H1
   generalize Lib.itoa (p - 1) = it at *
   have hs5 : ¬ 9223372036854775807 < S.length + 1 + 1 + it.length := by omega
   go_wp2_with fail
   go_ret
   refine ⟨?_, hb3⟩
   rw [HS.out, HA.out]
   exact congrArg (fun s => Ending.returned (.string s)) (bytes_eq (by simp [ByteArray.data_append]))
theorem textR_e (w : World) (neg : Bool) (c : UInt8) (t : List UInt8) (exp : Int) (hdl : t.length + 1 ≤ 100) (he1 : -1000 ≤ exp) (he2 : exp ≤ 1000) (ht : Tab w) (h1 : 0 < t.length) (h2 : 21 < (t.length : Int) + 1 + exp ∨ (t.length : Int) + 1 + exp < -5) :
  Calls Tryz.prog 74 #[.agg #[.bool neg, .string ⟨(c :: t).toArray⟩, .int .i64 exp]] w fun e w' => e = .returned (.string ⟨(textT ⟨neg, c :: t, exp⟩).toArray⟩) ∧ Below w.heap.size w w' := by
 have hd := DecAt.at w ⟨neg, c :: t, exp⟩ _ rfl
 have hbel : Below w.heap.size w (w.alloc (Obj.cells #[Value.bool neg, Value.string { data := (c :: t).toArray }, Value.int IntKind.i64 exp] 26)) := (Below.refl _ _).alloc (Nat.le_refl _) _
 have hA : textA ⟨neg, c :: t, exp⟩ = (c :: 46 :: t) ++ 101 :: Lib.itoa ((t.length : Int) + 1 + exp - 1) := by
  simp only [textA, List.length_cons]; rw [if_neg (by omega), if_neg (by omega), if_neg (by omega), if_neg (by omega), if_pos (by omega)]; rfl
 have HA := hid hA
 clear hA
 have Ht := hid (ht.alloc (Obj.cells #[Value.bool neg, Value.string { data := (c :: t).toArray }, Value.int IntKind.i64 exp] 26))
 clear ht
 go_enter Tryz.func74, Tryz.ntmps74
 go_upto_region 1 with fail
 simp only at hd
 generalize w.alloc (Obj.cells #[Value.bool neg, Value.string { data := (c :: t).toArray }, Value.int IntKind.i64 exp] 26) = w1 at *
 have H1 := hid hd
 have c0 := hd.c0
 have c1 := hd.c1
 have c2 := hd.c2
 simp only at c0 c1 c2
 clear hd
 have hS : ∀ s : List UInt8, (if neg then 45 :: s else s) = (if neg then [45] else []) ++ s := fun s => by cases neg <;> rfl
 have HS : Hid (textT ⟨neg, c :: t, exp⟩ = (if neg then [45] else []) ++ textA ⟨neg, c :: t, exp⟩) := by
  show textT _ = _; unfold textT; exact hS _
 clear hS
 have hsl : (if neg then [(45 : UInt8)] else []).length ≤ 1 := by cases neg <;> simp
 go_upto_if 10 with fail
 go_cut [3] from 11 to 11 (fun u wc => u = .string ⟨(if neg then [(45 : UInt8)] else []).toArray⟩ ∧ w1 = wc)
 case first =>
  cases neg with
  | true =>
   go_wp2_with fail
   go_meet
   exact ⟨rfl, rfl⟩
  | false =>
   go_wp2_with fail
   go_meet
   exact ⟨rfl, rfl⟩
 case rest =>
  obtain ⟨rfl, rfl⟩ := hcut
  generalize (if neg then [(45 : UInt8)] else []) = S at *
  obtain ⟨p, hp⟩ : ∃ p : Int, (t.length : Int) + 1 + exp = p := ⟨_, rfl⟩
  have hxp : exp < p := by omega
  rw [hp] at h2 HA
  have hp1 : -2000 ≤ p := by omega
  have hp2 : p ≤ 2000 := by omega
  have Hp := hid hp
  clear hp
  have hx1 : (⟨(c :: t).toArray⟩ : ByteArray).extract 0 1 = ⟨[c].toArray⟩ := by rw [Lib.extract_eq]; rfl
  have hx2 : (⟨(c :: t).toArray⟩ : ByteArray).extract 1 (t.length + 1) = ⟨t.toArray⟩ := by rw [Lib.extract_eq]; simp
  go_upto_region 8 with fail
  rw [Hp.out]
  clear Hp
  have hs1 : ¬ 9223372036854775807 < S.length + 1 := by omega
  have hs2 : ¬ 9223372036854775807 < S.length + 1 + 1 := by omega
  have hs3 : ¬ 9223372036854775807 < S.length + 1 + 1 + t.length := by omega
  have hs4 : ¬ 9223372036854775807 < S.length + 1 + 1 + t.length + 1 := by omega
  have hn1 : (0 : Int) < t.length := by omega
  have h2' : (21 < p ∧ 0 ≤ exp) ∨ (21 < p ∧ exp < 0) ∨ (p < -5 ∧ exp < 0) := by omega
  clear h2
  rcases h2' with ⟨h2, hx⟩ | ⟨h2, hx⟩ | ⟨h2, hx⟩
  all_goals
   go_wp2_with fail
   refine (Tryz.strconv_Itoa (p - 1) (by omega) (by omega) _ (by exact Ht.out)).mono ?_
   rintro e w4 ⟨rfl, k, os, hw4⟩
   have hb4 := below_grow w1 k os
   rw [← hw4] at hb4
   have hb4 : Below w1.heap.size w1 w4 := hb4
   have hit := Lib.itoa_length_le (p - 1) (by omega) (by omega)
   have hb3 := hbel.trans (hb4.mono hbel.size)
   clear hb4 hw4 c0 c1 c2 Ht H1
   generalize Lib.itoa (p - 1) = it at *
   have hs5 : ¬ 9223372036854775807 < S.length + 1 + 1 + t.length + 1 + it.length := by omega
   go_wp2_with fail
   go_ret
   refine ⟨?_, hb3⟩
   rw [HS.out, HA.out]
   exact congrArg (fun s => Ending.returned (.string s)) (bytes_eq (by simp [ByteArray.data_append]))
theorem textR_calls (w : World) (d : Dec) (hmay : mayB d = true) (ht : Tab w) :
  Calls Tryz.prog 74 #[.agg #[.bool d.neg, .string ⟨d.digits.toArray⟩, .int .i64 d.exp]] w fun e w' => e = .returned (.string ⟨(textT d).toArray⟩) ∧ Below w.heap.size w w' := by
 obtain ⟨hdg, hdl, he1, he2⟩ := may_bounds hmay
 obtain ⟨neg, digits, exp⟩ := d
 cases digits with
 | nil =>
  have h0 := may_nil hmay rfl
  rw [h0]
  have hbel : Below w.heap.size w (w.alloc (Obj.cells #[Value.bool false, Value.string { data := #[] }, Value.int IntKind.i64 0] 26)) := (Below.refl _ _).alloc (Nat.le_refl _) _
  clear h0 hmay
  simp only [Dec.zero]
  go_enter Tryz.func74, Tryz.ntmps74
  go_wp2_with fail
  go_ret
  exact ⟨rfl, hbel⟩
 | cons c t =>
  simp only [List.length_cons] at hdl
  simp only at he1 he2
  clear hmay hdg
  by_cases h1 : 0 ≤ exp ∧ (t.length : Int) + 1 + exp ≤ 21
  ·exact textR_a w neg c t exp hdl he1 he2 ht h1.1 h1.2
  by_cases h2 : 0 < (t.length : Int) + 1 + exp ∧ (t.length : Int) + 1 + exp ≤ 21
  ·exact textR_b w neg c t exp hdl he1 he2 ht (by omega) h2.1 h2.2
  by_cases h3 : (t.length : Int) + 1 + exp ≤ 0 ∧ -5 ≤ (t.length : Int) + 1 + exp
  ·exact textR_c w neg c t exp hdl he1 he2 ht (by omega) h3.1 h3.2
  by_cases h4 : t.length = 0
  ·exact textR_d w neg c t exp hdl he1 he2 ht h4 (by omega)
  exact textR_e w neg c t exp hdl he1 he2 ht (by omega) (by omega)
end Go.Proofs.YtfclfaidmipjpaaGreatDoor
