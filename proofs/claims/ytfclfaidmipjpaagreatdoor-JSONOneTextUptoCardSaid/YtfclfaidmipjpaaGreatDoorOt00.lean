/- Texts of this claim, joined: Reg, JsF, Jr6, Jr12, QuL, QuV, Pbk, Pvd. -/
import Derived.Test.YtfclfaidmipjpaaGreatDoorCo11
namespace Go.Proofs.YtfclfaidmipjpaaGreatDoor
set_option maxRecDepth 100000
set_option maxHeartbeats 20000000
variable {P : Program} {ops : Array Oper} {Q : Exit → Act → World → Prop} {md : Region.Mode} {S : World → Prop}
theorem held_skip {i : Nat} {oi : Oper} {rest : List Oper} {fuel : Nat} {listed : Array Bool} {a : Act} {w : World} (hi : ops.toList.drop i = oi :: rest)
  (hs : Region.noSelect ops = true) (hf : Region.free md ops listed i = true) (hr : (Region.ready md ops listed).contains i = true)
  (hQ : ∀ c a w, Q (.panic c) (a.put oi.dst undef) w → Q (.panic c) a w) (hw : Region.wanted oi (yielded ops a.tmps) = false) (hS : S w)
  (h : wpAnyH P md ops Q S fuel (listed.setIfInBounds i true) (a.put oi.dst undef) w) : wpAnyH P md ops Q S (fuel + 1) listed a w :=
 wpAnyH_take (op_at hi) hs hf hr hQ (.inr ⟨hw, rfl⟩) hS h
variable {z : List UInt8}
theorem qt_fuel : ∀ (n m : Nat) (s : List UInt8), s.length < n → s.length < m → qtN z n s = qtN z m s
 | 0, _, s, h, _ => by omega
 | _ + 1, 0, s, _, h => by omega
 | n + 1, m + 1, [], _, _ => rfl
 | n + 1, m + 1, c :: t, h1, h2 => by
  simp only [List.length_cons] at h1 h2
  simp only [qtN]
  rw [qt_fuel n m t (by omega) (by omega)]
  cases he : escS z t with
  | none => rfl
  | some x =>
   obtain ⟨b, t2, a⟩ := x
   have := esc_len he
   simp only
   rw [qt_fuel n m t2 (by omega) (by omega)]
open Go.RowKit
def qmap (acc : List UInt8) (a : Bool) : Option (List UInt8 × List UInt8 × Bool) → Option (List UInt8 × List UInt8 × Bool)
 | none => none
 | some (u, r, a2) => some (acc ++ u, r, a || a2)
theorem qt_chr {z b : List UInt8} {m : Nat} (h1 : m < b.length) (h2 : ¬ (b.getD m 0).toNat < 32) (h3 : b.getD m 0 ≠ 34) (h4 : b.getD m 0 ≠ 92) : qtS z (b.drop m) = qmap [b.getD m 0] false (qtS z (b.drop (m + 1))) := by
 rw [drop_at h1]
 generalize b.getD m 0 = c at *
 unfold qtS
 simp only [List.length_cons]
 rw [qtN, if_neg h2, if_neg h3, if_neg h4]
 cases qtN z ((b.drop (m + 1)).length + 1) (b.drop (m + 1)) with
 | none => rfl
 | some v => obtain ⟨u, r, a2⟩ := v; simp [qmap]
theorem qt_esc {z b : List UInt8} {m : Nat} (h1 : m < b.length) (h4 : b.getD m 0 = 92) : qtS z (b.drop m) = match escS z (b.drop (m + 1)) with
  | none => none
  | some (u, r, a) => qmap u a (qtS z r) := by
 rw [drop_at h1, h4]
 unfold qtS
 simp only [List.length_cons]
 rw [qtN, if_neg (by decide), if_neg (by decide), if_pos rfl]
 cases he : escS z (b.drop (m + 1)) with
 | none => rfl
 | some v =>
  obtain ⟨u, r, a⟩ := v
  have hl := esc_len he
  simp only
  rw [qt_fuel ((b.drop (m + 1)).length + 1) (r.length + 1) r (by omega) (by omega)]
  cases qtN z (r.length + 1) r with
  | none => rfl
  | some y => obtain ⟨v, r2, a2⟩ := y; rfl
open Go.RowKit
def SameTo (w : World) (a b : J) (e : Ending) (w' : World) : Prop := ∃ bb : Bool, e = .returned (.bool bb) ∧ (bb = true ↔ a = b) ∧ Below w.heap.size w w'
theorem SameTo.no {w W : World} {a b : J} (h : a ≠ b) (hb : Below w.heap.size w W) : SameTo w a b (.returned (.bool false)) W := ⟨false, rfl, ⟨(fun h => by cases h), (fun e => absurd e h)⟩, hb⟩
theorem SameTo.yes {w W : World} {a b : J} (h : a = b) (hb : Below w.heap.size w W) : SameTo w a b (.returned (.bool true)) W := ⟨true, rfl, ⟨(fun _ => h), (fun _ => rfl)⟩, hb⟩
theorem rangeAt_bel {w a b : World} {g o : Nat} {cs : List Value} (h : w.rangeAt g o cs) (h1 : Below w.heap.size w a) (h2 : Below a.heap.size a b) (hg : g < w.heap.size) : b.rangeAt g o cs := fun j v hj => by
 rw [h2.cell (p := ⟨g, o + j, none⟩) (Nat.lt_of_lt_of_le hg h1.size), h1.cell (p := ⟨g, o + j, none⟩) hg]; exact h j v hj
open Go.RowKit
theorem esc_low (n : Nat) (h : n < 32) (t : List UInt8) (z : List UInt8) (hn : quoB (UInt8.ofNat n) = [92, 117, 48, 48, hexD (n / 16), hexD (n % 16)]) : escS z (117 :: 48 :: 48 :: hexD (n / 16) :: hexD (n % 16) :: t) = some ([UInt8.ofNat n], t, false) := by
 match n, h with
 | 0, _ => rfl
 | 1, _ => rfl
 | 2, _ => rfl
 | 3, _ => rfl
 | 4, _ => rfl
 | 5, _ => rfl
 | 6, _ => rfl
 | 7, _ => rfl
 | 8, _ => exact absurd hn (by decide)
 | 9, _ => exact absurd hn (by decide)
 | 10, _ => exact absurd hn (by decide)
 | 11, _ => rfl
 | 12, _ => exact absurd hn (by decide)
 | 13, _ => exact absurd hn (by decide)
 | 14, _ => rfl
 | 15, _ => rfl
 | 16, _ => rfl
 | 17, _ => rfl
 | 18, _ => rfl
 | 19, _ => rfl
 | 20, _ => rfl
 | 21, _ => rfl
 | 22, _ => rfl
 | 23, _ => rfl
 | 24, _ => rfl
 | 25, _ => rfl
 | 26, _ => rfl
 | 27, _ => rfl
 | 28, _ => rfl
 | 29, _ => rfl
 | 30, _ => rfl
 | 31, _ => rfl
 | n + 32, h => omega
theorem qtS_one (z : List UInt8) (c : UInt8) (t : List UInt8) : qtS z (quoB c ++ t) = qmap [c] false (qtS z t) := by
 rcases quo_cases c with ⟨i, hi, _, h3⟩ | ⟨_, ⟨h2, h3⟩ | ⟨h2, h3⟩⟩
 ·have he : escS z (sevenE.getD i 0 :: t) = some ([c], t, false) := by
   have hc : plainS (sevenE.getD i 0) = some c := by
    have h9 : ((List.range 256).all fun n => (List.range 7).all fun i => !decide (quoB (UInt8.ofNat n) = [92, sevenE.getD i 0]) || decide (plainS (sevenE.getD i 0) = some (UInt8.ofNat n))) = true := by decide +kernel
    have h8 := List.all_eq_true.1 (List.all_eq_true.1 h9 c.toNat (List.mem_range.2 c.toNat_lt)) i (List.mem_range.2 hi)
    rw [UInt8.ofNat_toNat] at h8
    simpa [h3] using h8
   unfold escS
   simp only [hc]
  rw [h3]
  have hq := qt_esc (z := z) (b := 92 :: sevenE.getD i 0 :: t) (m := 0) (by simp) rfl
  rw [show (92 :: sevenE.getD i 0 :: t).drop 0 = [92, sevenE.getD i 0] ++ t from rfl, show (92 :: sevenE.getD i 0 :: t).drop (0 + 1) = sevenE.getD i 0 :: t from rfl, he] at hq
  exact hq
 ·have hn : UInt8.ofNat c.toNat = c := UInt8.ofNat_toNat
  have he := esc_low c.toNat h2 t z (by rw [hn]; exact h3)
  rw [hn] at he
  rw [h3]
  have hq := qt_esc (z := z) (b := 92 :: 117 :: 48 :: 48 :: hexD (c.toNat / 16) :: hexD (c.toNat % 16) :: t) (m := 0) (by simp) rfl
  rw [show (92 :: 117 :: 48 :: 48 :: hexD (c.toNat / 16) :: hexD (c.toNat % 16) :: t).drop 0 = [92, 117, 48, 48, hexD (c.toNat / 16), hexD (c.toNat % 16)] ++ t from rfl, show (92 :: 117 :: 48 :: 48 :: hexD (c.toNat / 16) :: hexD (c.toNat % 16) :: t).drop (0 + 1) = 117 :: 48 :: 48 :: hexD (c.toNat / 16) :: hexD (c.toNat % 16) :: t from rfl, he] at hq
  exact hq
 ·have h34 : c ≠ 34 := fun e => by rw [e] at h3; exact absurd h3 (by decide)
  have h92 : c ≠ 92 := fun e => by rw [e] at h3; exact absurd h3 (by decide)
  rw [h3]
  exact qt_chr (z := z) (b := c :: t) (m := 0) (by simp) (by show ¬ c.toNat < 32; omega) h34 h92
theorem qtS_quo (z : List UInt8) (s r : List UInt8) : qtS z (quoS s ++ 34 :: r) = some (s, r, false) := by
 induction s with
 | nil => rfl
 | cons c s ih =>
  have e : quoS (c :: s) ++ 34 :: r = quoB c ++ (quoS s ++ 34 :: r) := by
   show (quoB c ++ quoS s) ++ _ = _
   rw [List.append_assoc]
  rw [e, qtS_one, ih]
  rfl
open Go.RowKit
theorem dec_two {n b0 b1 c2 c3 : Nat} (h1 : b0 / 32 = 6) (h2 : 1 < n) (h3 : b1 / 64 = 2) (h4 : 128 ≤ b0 % 32 * 64 + b1 % 64) : Lib.decodeN n b0 b1 c2 c3 = (b0 % 32 * 64 + b1 % 64, 2) := by
 unfold Lib.decodeN
 rw [if_neg (by omega), if_pos ⟨by omega, by omega, by omega⟩, if_pos (by omega)]
theorem dec_three {n b0 b1 b2 c3 : Nat} (h1 : b0 / 16 = 14) (h2 : 2 < n) (h3 : b1 / 64 = 2) (h4 : b2 / 64 = 2) (h5 : 2048 ≤ b0 % 16 * 4096 + b1 % 64 * 64 + b2 % 64)
  (h6 : b0 % 16 * 4096 + b1 % 64 * 64 + b2 % 64 < 55296 ∨ 57344 ≤ b0 % 16 * 4096 + b1 % 64 * 64 + b2 % 64) : Lib.decodeN n b0 b1 b2 c3 = (b0 % 16 * 4096 + b1 % 64 * 64 + b2 % 64, 3) := by
 unfold Lib.decodeN
 rw [if_neg (by omega), if_neg (by omega), if_pos ⟨by omega, ⟨by omega, by omega⟩, by omega, by omega⟩, if_pos (by omega)]
theorem dec_four {n b0 b1 b2 b3 : Nat} (h1 : b0 / 8 = 30) (h2 : 3 < n) (h3 : b1 / 64 = 2) (h4 : b2 / 64 = 2) (h4b : b3 / 64 = 2) (h5 : 65536 ≤ b0 % 8 * 262144 + b1 % 64 * 4096 + b2 % 64 * 64 + b3 % 64)
  (h6 : b0 % 8 * 262144 + b1 % 64 * 4096 + b2 % 64 * 64 + b3 % 64 ≤ 1114111) : Lib.decodeN n b0 b1 b2 b3 = (b0 % 8 * 262144 + b1 % 64 * 4096 + b2 % 64 * 64 + b3 % 64, 4) := by
 unfold Lib.decodeN
 rw [if_neg (by omega), if_neg (by omega), if_neg (by omega), if_pos ⟨by omega, ⟨by omega, by omega⟩, ⟨by omega, by omega⟩, by omega, by omega⟩, if_pos (by omega)]
theorem getD_head (l r : List UInt8) (k j : Nat) (hj : j < k) (hk : k ≤ l.length) : (l.take k ++ r).getD j 0 = l.getD j 0 := by
 simp only [List.getD_eq_getElem?_getD]
 rw [List.getElem?_append_left (by simp; omega), List.getElem?_take_of_lt hj]
theorem dec_stable (l r : List UInt8) (hne : l ≠ []) (hb : ¬ ((Lib.decodeL l).1 = 65533 ∧ (Lib.decodeL l).2 = 1)) : Lib.decodeL (l.take (Lib.decodeL l).2 ++ r) = Lib.decodeL l := by
 have hle := Lib.decodeL_le l hne
 rw [Lib.decodeL_N l] at hb hle ⊢
 rw [Lib.decodeL_N]
 rcases Lib.decodeN_shape l.length (l.getD 0 0).toNat (l.getD 1 0).toNat (l.getD 2 0).toNat (l.getD 3 0).toNat with ⟨c, e⟩ | ⟨c1, c2, c3, cv, e⟩ | ⟨c1, c2, c3, c4, cv, cs, e⟩ | ⟨c1, c2, c3, c4, c5, cv, cw, e⟩ | e
 ·rw [e] at hle ⊢
  dsimp only at hle ⊢
  rw [getD_head l r 1 0 (by omega) hle]
  unfold Lib.decodeN
  rw [if_pos c]
 ·rw [e] at hle ⊢
  dsimp only at hle ⊢
  rw [getD_head l r 2 0 (by omega) hle, getD_head l r 2 1 (by omega) hle]
  exact dec_two c1 (by simp; omega) c3 cv
 ·rw [e] at hle ⊢
  dsimp only at hle ⊢
  rw [getD_head l r 3 0 (by omega) hle, getD_head l r 3 1 (by omega) hle, getD_head l r 3 2 (by omega) hle]
  exact dec_three c1 (by simp; omega) c3 c4 cv cs
 ·rw [e] at hle ⊢
  dsimp only at hle ⊢
  rw [getD_head l r 4 0 (by omega) hle, getD_head l r 4 1 (by omega) hle, getD_head l r 4 2 (by omega) hle, getD_head l r 4 3 (by omega) hle]
  exact dec_four c1 (by simp; omega) c3 c4 c5 cv cw
 ·rw [e] at hb
  exact absurd ⟨rfl, rfl⟩ hb
theorem quoB_low : ∀ n : Nat, n < 128 → ∀ b ∈ quoB (UInt8.ofNat n), b.toNat < 128 := by
 have h9 : ((List.range 128).all fun n => (quoB (UInt8.ofNat n)).all fun b => decide (b.toNat < 128)) = true := by decide +kernel
 intro n hn b hb
 have h1 := List.all_eq_true.1 (List.all_eq_true.1 h9 n (List.mem_range.2 hn)) b hb
 simpa using h1
theorem valid_quo : ∀ (n : Nat) (l t : List UInt8), l.length ≤ n → Lib.validD l = true → Lib.validD (quoS l ++ t) = Lib.validD t
 | 0, l, t, h, _ => by
  obtain rfl : l = [] := List.length_eq_zero_iff.1 (by omega)
  rfl
 | n + 1, l, t, h, hv => by
  by_cases hne : l = []
  ·subst hne; rfl
  ·have hs := Lib.validD_step l hne
   rw [hv] at hs
   have hb : ¬ ((Lib.decodeL l).1 = 65533 ∧ (Lib.decodeL l).2 = 1) := fun hb => by
    rw [if_pos hb] at hs
    cases hs
   obtain ⟨_, q2, q3, q4, q5⟩ := quo_step l hne hv
   have ih := valid_quo n (l.drop (Lib.decodeL l).2) t (by rw [List.length_drop]; omega) q4
   rw [q5, List.append_assoc, ← ih]
   generalize quoS (l.drop (Lib.decodeL l).2) ++ t = x
   unfold quoR
   by_cases h1 : (Lib.decodeL l).1 < 128
   ·rw [if_pos h1]
    have h2 := Lib.validD_ascii (quoB (UInt8.ofNat (Lib.decodeL l).1)).length (quoB (UInt8.ofNat (Lib.decodeL l).1) ++ x) (by
     rw [List.take_left]
     exact quoB_low _ h1)
    rw [List.drop_left] at h2
    exact h2
   ·rw [if_neg h1, Lib.encode_decode l hne hb]
    have hd := dec_stable l x hne hb
    have hn2 : l.take (Lib.decodeL l).2 ++ x ≠ [] := by
     intro e
     have hl0 : 0 < l.length := List.length_pos_iff.2 hne
     have := congrArg List.length e
     rw [List.length_append, List.length_take, List.length_nil] at this
     omega
    rw [Lib.validD_step _ hn2, hd, if_neg hb]
    congr 1
    have hlen : (l.take (Lib.decodeL l).2).length = (Lib.decodeL l).2 := by rw [List.length_take]; omega
    conv => lhs; rw [show (Lib.decodeL l).2 = (l.take (Lib.decodeL l).2).length from hlen.symm]
    rw [hlen]
    exact List.drop_left' hlen
theorem digS_head {c : UInt8} {t : List UInt8} (h : digsS (c :: t) ≠ []) : digB c = true := by
 unfold digsS at h
 rw [List.takeWhile_cons] at h
 split at h
 ·assumption
 ·exact absurd rfl h
theorem numR_head {s : List UInt8} {r : List UInt8} (h : numR s = some r) : ∃ c t, s = c :: t ∧ (c = 45 ∨ digB c = true) := by
 unfold numR at h
 split at h
 ·cases h
 ·rename_i hn
  have hn1 : digsS (oneS [45] s).2 ≠ [] := fun e => hn (.inl e)
  cases s with
  | nil => exact absurd rfl hn1
  | cons c t =>
   refine ⟨c, t, rfl, ?_⟩
   by_cases hc : c = 45
   ·exact .inl hc
   ·right
    have e : (oneS [45] (c :: t)).2 = c :: t := by
     unfold oneS; simp [hc]
    rw [e] at hn1
    exact digS_head hn1
theorem head_not {c : UInt8} (h : c = 45 ∨ digB c = true) : blankB c = false ∧ c ≠ 123 ∧ c ≠ 91 ∧ c ≠ 34 ∧ c ≠ 93 ∧ c ≠ 125 ∧ c ≠ 44 := by
 have key : ∀ n : Nat, n < 256 → (UInt8.ofNat n = 45 ∨ digB (UInt8.ofNat n) = true) → blankB (UInt8.ofNat n) = false ∧ UInt8.ofNat n ≠ 123 ∧ UInt8.ofNat n ≠ 91 ∧ UInt8.ofNat n ≠ 34 ∧ UInt8.ofNat n ≠ 93 ∧ UInt8.ofNat n ≠ 125 ∧ UInt8.ofNat n ≠ 44 := by decide +kernel
 have := key c.toNat c.toNat_lt
 rw [UInt8.ofNat_toNat] at this
 exact this h
theorem skip_of {c : UInt8} {t : List UInt8} (h : blankB c = false) : skipS (c :: t) = c :: t := by
 unfold skipS; rw [List.dropWhile_cons, h]; rfl
theorem num_text {d : Dec} (h : mayB d = true) (r : List UInt8) (hr : Off r) (f : Fl) : numS (textT d ++ r) f = some (.mk 2 false d [] [] [], r, f) ∧ ∃ c t, textT d = c :: t ∧ (c = 45 ∨ digB c = true) := by
 obtain ⟨hp, hl⟩ := text_back h
 have hn : numR (textT d) = some [] := by
  rcases parse_code (textT d) (by omega) with h1 | h1
  ·exact h1.1
  ·rw [hp] at h1; exact absurd h1.2 (by simp)
 have h2 := off_num (textT d) r hr
 rw [hn, Option.map_some, List.nil_append] at h2
 refine ⟨?_, numR_head hn⟩
 cases hx : numS (textT d ++ r) f with
 | none => exact absurd ⟨r, h2, hr⟩ ((num_none _ _).1 hx)
 | some x =>
  obtain ⟨v, r2, f2⟩ := x
  obtain ⟨g1, g2, g3, g4, g5⟩ := num_some hx
  rw [h2] at g1
  cases g1
  have e : List.takeWhile numB (textT d ++ r) = textT d := List.append_cancel_right g3.symm
  rw [e, hp] at g4 g5
  rw [g4, g5]
  cases f
  simp
theorem off_cons {c : UInt8} {r : List UInt8} (h : numB c = false) : Off (c :: r) := fun c2 t e => by
 simp only [List.cons.injEq] at e; rw [← e.1]; exact h
theorem told_head (v : J) (h : goodJ v = true) : ∃ c t, toldJ v = c :: t ∧ blankB c = false ∧ c ≠ 93 ∧ c ≠ 125 ∧ c ≠ 44 := by
 obtain ⟨k, b, n, t, l, ns⟩ := v
 obtain ⟨h1, h2, h3, h4, h5, h6, h7, h8, h9⟩ := good_head h
 rw [toldJ]
 split
 ·exact ⟨110, _, rfl, by decide⟩
 split
 ·cases b
  ·exact ⟨102, _, rfl, by decide⟩
  ·exact ⟨116, _, rfl, by decide⟩
 split
 ·obtain ⟨c, t, e, hc⟩ := (num_text h7 [] (fun _ _ h => by cases h) Fl.none).2
  rw [textS, if_pos h7, e]
  have := head_not hc
  exact ⟨c, t, rfl, this.1, this.2.2.2.2⟩
 split
 ·exact ⟨34, _, rfl, by decide⟩
 split
 ·exact ⟨123, _, rfl, by decide⟩
 ·exact ⟨91, _, rfl, by decide⟩
theorem told_more (obj : Bool) (x : J) (l : List J) (ms : List (List UInt8)) : toldL obj false (x :: l) ms = 44 :: toldL obj true (x :: l) ms := by
 simp [toldL]
theorem end_not (obj : Bool) : numB (endB obj) = false ∧ blankB (endB obj) = false ∧ endB obj ≠ 44 ∧ (endB obj = 93 ∨ endB obj = 125) := by cases obj <;> decide
theorem deep_mem {d : Nat} {l : List J} {x : J} (h : x ∈ l) : deepJ x + 1 ≤ deepL d l := by
 obtain ⟨i, hi, rfl⟩ := List.getElem_of_mem h
 exact deep_in (List.getElem?_eq_getElem hi)
theorem name_told (z : List UInt8) (ns : List (List UInt8)) (u s : List UInt8) (f : Fl) (hu : u ∉ ns) : nameS z ns (quoT u ++ 58 :: s) f = some (ns ++ [u], s, f) := by
 have e : quoT u ++ 58 :: s = 34 :: (quoS u ++ 34 :: 58 :: s) := by simp [quoT]
 have hc : ns.contains u = false := by simpa using hu
 rw [e, nameS, skip_of (by decide)]
 simp only
 rw [if_pos trivial, qtS_quo]
 simp only
 rw [skip_of (by decide)]
 simp only
 rw [if_pos trivial, hc]
 cases f; simp
mutual
theorem val_told : (v : J) → goodJ v = true → ∀ (z : List UInt8) (n d : Nat) (r : List UInt8) (f : Fl), 3 * (toldJ v ++ r).length + 3 ≤ n → d + deepJ v ≤ 64 → Off r → valS z n d (toldJ v ++ r) f = some (v, r, f)
 | .mk k b nn t l ns, h, z, n, d, r, f, hn, hd, hr => by
  obtain ⟨h1, h2, h3, h4, h5, h6, h7, h8, h9⟩ := good_head h
  obtain ⟨n, rfl⟩ : ∃ m, n = m + 1 := ⟨n - 1, by omega⟩
  have hit := items_told l h8
  rw [deepJ] at hd
  rcases h9 with rfl | rfl | rfl | rfl | rfl | ⟨rfl, hlen, hun⟩
  ·obtain rfl : b = false := h1.resolve_left (by decide)
   obtain rfl : nn = Dec.zero := h2.resolve_left (by decide)
   obtain rfl : t = [] := h3.resolve_left (by decide)
   obtain rfl : l = [] := (h4.resolve_left (by decide)).resolve_left (by decide)
   obtain rfl : ns = [] := h5.resolve_left (by decide)
   have e : toldJ (.mk 0 false Dec.zero [] [] []) = 110 :: [117, 108, 108] := by simp [toldJ, wNul]
   rw [e, valS, List.cons_append, skip_of (by decide)]
   simp only
   rw [if_neg (by decide), if_neg (by decide), if_neg (by decide), if_neg (by decide), if_pos (by rfl)]
   rfl
  ·obtain rfl : nn = Dec.zero := h2.resolve_left (by decide)
   obtain rfl : t = [] := h3.resolve_left (by decide)
   obtain rfl : l = [] := (h4.resolve_left (by decide)).resolve_left (by decide)
   obtain rfl : ns = [] := h5.resolve_left (by decide)
   cases b with
   | true =>
    have e : toldJ (.mk 1 true Dec.zero [] [] []) = 116 :: [114, 117, 101] := by simp [toldJ, boolS]
    rw [e, valS, List.cons_append, skip_of (by decide)]
    simp only
    rw [if_neg (by decide), if_neg (by decide), if_neg (by decide), if_neg (by decide), if_neg (by simp [wNull]), if_pos (by rfl)]
    rfl
   | false =>
    have e : toldJ (.mk 1 false Dec.zero [] [] []) = 102 :: [97, 108, 115, 101] := by simp [toldJ, boolS]
    rw [e, valS, List.cons_append, skip_of (by decide)]
    simp only
    rw [if_neg (by decide), if_neg (by decide), if_neg (by decide), if_neg (by decide), if_neg (by simp [wNull]), if_neg (by simp [wTrue]), if_pos (by rfl)]
    rfl
  ·obtain rfl : b = false := h1.resolve_left (by decide)
   obtain rfl : t = [] := h3.resolve_left (by decide)
   obtain rfl : l = [] := (h4.resolve_left (by decide)).resolve_left (by decide)
   obtain rfl : ns = [] := h5.resolve_left (by decide)
   have e : toldJ (.mk 2 false nn [] [] []) = textT nn := by simp [toldJ, textS, h7]
   obtain ⟨hnum, c, t, ec, hc⟩ := num_text h7 r hr f
   have hh := head_not hc
   rw [e, ec, valS, List.cons_append, skip_of hh.1]
   simp only
   rw [if_neg hh.2.1, if_neg hh.2.2.1, if_neg hh.2.2.2.1, if_pos hc, ← List.cons_append, ← ec]
   exact hnum
  ·obtain rfl : b = false := h1.resolve_left (by decide)
   obtain rfl : nn = Dec.zero := h2.resolve_left (by decide)
   obtain rfl : l = [] := (h4.resolve_left (by decide)).resolve_left (by decide)
   obtain rfl : ns = [] := h5.resolve_left (by decide)
   have e : toldJ (.mk 3 false Dec.zero t [] []) ++ r = 34 :: (quoS t ++ 34 :: r) := by simp [toldJ, quoT]
   rw [e, valS, skip_of (by decide)]
   simp only
   rw [if_neg (by decide), if_neg (by decide), if_pos trivial, qtS_quo]
   cases f; simp
  ·obtain rfl : b = false := h1.resolve_left (by decide)
   obtain rfl : nn = Dec.zero := h2.resolve_left (by decide)
   obtain rfl : t = [] := h3.resolve_left (by decide)
   obtain rfl : ns = [] := h5.resolve_left (by decide)
   have e : toldJ (.mk 4 false Dec.zero [] l []) ++ r = 91 :: (toldL false true l [] ++ 93 :: r) := by simp [toldJ]
   rw [e] at hn
   rw [e, valS, skip_of (by decide)]
   simp only
   have hd1 : decide (64 < d + 1) = false := by
    have := deepL_mono l (deepK 4) 0
    simp [deepL, deepK] at this hd
    simp; omega
   rw [if_neg (by decide), if_pos trivial, hd1, show ({ f with deep := f.deep || false } : Fl) = f by cases f; simp]
   obtain ⟨n, rfl⟩ : ∃ m, n = m + 1 := ⟨n - 1, by simp at hn; omega⟩
   rw [inS]
   cases l with
   | nil =>
    rw [toldL, List.nil_append, skip_of (by decide)]
    simp only
    rw [if_pos (show (93 : UInt8) = endB false from rfl)]
    rfl
   | cons x l =>
    obtain ⟨c, t, ec, hc⟩ := told_head x (by simp [goodL] at h8; exact h8.1)
    have e2 : toldL false true (x :: l) [] = c :: (t ++ toldL false false l []) := by simp [toldL, ec]
    rw [e2, List.cons_append, skip_of hc.1]
    simp only
    rw [if_neg (show ¬ c = endB false from hc.2.1), ← List.cons_append, ← e2]
    have := hit z false n (d + 1) [] [] [] r f (by simp) (by simp at hn ⊢; omega) (fun y hy => by have := deep_mem (d := deepK 4) hy; omega) (by simp) (by simp)
    exact this
  ·obtain rfl : b = false := h1.resolve_left (by decide)
   obtain rfl : nn = Dec.zero := h2.resolve_left (by decide)
   obtain rfl : t = [] := h3.resolve_left (by decide)
   have e : toldJ (.mk 5 false Dec.zero [] l ns) ++ r = 123 :: (toldL true true l ns ++ 125 :: r) := by simp [toldJ]
   rw [e] at hn
   rw [e, valS, skip_of (by decide)]
   simp only
   have hd1 : decide (64 < d + 1) = false := by
    have := deepL_mono l (deepK 5) 0
    simp [deepL, deepK] at this hd
    simp; omega
   rw [if_pos trivial, hd1, show ({ f with deep := f.deep || false } : Fl) = f by cases f; simp]
   obtain ⟨n, rfl⟩ : ∃ m, n = m + 1 := ⟨n - 1, by simp at hn; omega⟩
   rw [inS]
   cases l with
   | nil =>
    obtain rfl : ns = [] := List.length_eq_zero_iff.1 hlen
    rw [toldL, List.nil_append, skip_of (by decide)]
    simp only
    rw [if_pos (show (125 : UInt8) = endB true from rfl)]
    rfl
   | cons x l =>
    have e2 : toldL true true (x :: l) ns = 34 :: (quoS (ns.headD []) ++ (34 :: 58 :: (toldJ x ++ toldL true false l ns.tail))) := by simp [toldL, quoT]
    rw [e2, List.cons_append, skip_of (by decide)]
    simp only
    rw [if_neg (by decide), ← List.cons_append, ← e2]
    have := hit z true n (d + 1) [] [] ns r f (by simp) (by simp at hn ⊢; omega) (fun y hy => by have := deep_mem (d := deepK 5) hy; omega) (fun _ => ⟨hlen, by simpa using unlike_nodup hun⟩) (by simp)
    exact this
theorem items_told : (l : List J) → goodL l = true → ∀ (z : List UInt8) (obj : Bool) (n d : Nat) (ls : List J) (ns ms : List (List UInt8)) (r : List UInt8) (f : Fl), l ≠ [] → 3 * (toldL obj true l ms ++ endB obj :: r).length + 4 ≤ n → (∀ x ∈ l, d + deepJ x ≤ 64) → (obj = true → ms.length = l.length ∧ (ns ++ ms).Nodup) → (obj = false → ms = []) →
  itemS z n d obj ls ns (toldL obj true l ms ++ endB obj :: r) f = some (listJ obj (ls ++ l) (ns ++ ms), r, f)
 | [], _, _, _, _, _, _, _, _, _, _, h, _, _, _, _ => absurd rfl h
 | x :: l, hg, z, obj, n, d, ls, ns, ms, r, f, _, hn, hd, hm, hm0 => by
  obtain ⟨n, rfl⟩ : ∃ m, n = m + 1 := ⟨n - 1, by omega⟩
  have hgx : goodJ x = true ∧ goodL l = true := by simpa [goodL] using hg
  have hmem : ∃ u ms2 s2, (obj = true → ms = u :: ms2) ∧ (obj = false → ms2 = []) ∧ (obj = true → u ∉ ns ∧ ms2.length = l.length ∧ ((ns ++ [u]) ++ ms2).Nodup) ∧ toldL obj true (x :: l) ms ++ endB obj :: r = (if obj then quoT u ++ [58] else []) ++ s2 ∧ s2 = toldJ x ++ (toldL obj false l ms2 ++ endB obj :: r) ∧ ms = (if obj then [u] else []) ++ ms2 := by
   cases obj with
   | false =>
    obtain rfl := hm0 rfl
    exact ⟨[], [], _, by simp, by simp, by simp, by simp [toldL], rfl, by simp⟩
   | true =>
    obtain ⟨hl, hnd⟩ := hm rfl
    cases ms with
    | nil => simp at hl
    | cons u ms2 =>
     refine ⟨u, ms2, _, by simp, by simp, fun _ => ⟨fun hu => ?_, by simpa using hl, by simpa using hnd⟩, by simp [toldL], rfl, by simp⟩
     exact (List.nodup_append.1 hnd).2.2 u hu u (by simp) rfl
  obtain ⟨u, ms2, s2, a1, a2, a3, a4, a5, a6⟩ := hmem
  have hmS : memS z obj ns (toldL obj true (x :: l) ms ++ endB obj :: r) f = some (ns ++ (if obj then [u] else []), s2, f) := by
   rw [a4]
   unfold memS
   cases obj with
   | false => simp
   | true =>
    rw [if_pos rfl, if_pos rfl, List.append_assoc, List.singleton_append]
    exact name_told z ns u s2 f (a3 rfl).1
  have hlen : 3 * s2.length + 4 ≤ n + 1 := by
   rw [a4] at hn
   simp at hn; omega
  have hoff : Off (toldL obj false l ms2 ++ endB obj :: r) := by
   cases l with
   | nil => rw [toldL, List.nil_append]; exact off_cons (end_not obj).1
   | cons y l => rw [told_more, List.cons_append]; exact off_cons (by decide)
  have hval := val_told x hgx.1 z n d (toldL obj false l ms2 ++ endB obj :: r) f (by rw [← a5]; omega) (hd x (by simp)) hoff
  rw [itemS_succ, hmS]
  simp only
  rw [a5, hval]
  simp only [moreS]
  have hx : 3 ≤ (toldJ x ++ (toldL obj false l ms2 ++ endB obj :: r)).length - (toldL obj false l ms2 ++ endB obj :: r).length + 2 := by
   obtain ⟨c, t, e, _⟩ := told_head x hgx.1
   rw [e]; simp; omega
  cases l with
  | nil =>
   rw [toldL, List.nil_append, skip_of (end_not obj).2.1]
   simp only
   rw [if_pos trivial]
   obtain rfl : ms2 = [] := by
    cases obj with
    | false => exact a2 rfl
    | true => exact List.length_eq_zero_iff.1 (a3 rfl).2.1
   rw [a6, List.append_nil]
  | cons y l =>
   rw [told_more, List.cons_append, skip_of (by decide)]
   simp only
   rw [if_neg (fun e => (end_not obj).2.2.1 e.symm), if_pos trivial]
   have := items_told (y :: l) hgx.2 z obj n d (ls ++ [x]) (ns ++ (if obj then [u] else [])) ms2 r f (by simp) (by rw [a5, told_more] at hlen; simp at hlen hx ⊢; omega) (fun v hv => hd v (by simp [hv])) (fun e => by subst e; exact (a3 rfl).2) a2
   rw [this, a6, List.append_assoc, List.append_assoc]
   rfl
end
theorem parse_told (v : J) (h : goodJ v = true) (hd : deepJ v ≤ 64) (hl : (toldJ v).length ≤ 1048576) (hv : Lib.validD (toldJ v) = true) (z : List UInt8) : parseJ z (toldJ v) = (v, 0) := by
 unfold parseJ
 have := val_told v h z (3 * (toldJ v).length + 3) 0 [] Fl.none (by simp) (by omega) (fun _ _ h => by cases h)
 rw [List.append_nil] at this
 rw [if_neg (by omega), if_neg (by rw [hv]; simp), this]
 rfl
theorem numB_low (c : UInt8) (h : numB c = true) : c.toNat < 128 := by
 have key : ∀ n : Nat, n < 256 → numB (UInt8.ofNat n) = true → n < 128 := by decide +kernel
 have := key c.toNat c.toNat_lt
 rw [UInt8.ofNat_toNat] at this
 exact this h
theorem valid_low (a t : List UInt8) (h : ∀ c ∈ a, c.toNat < 128) : Lib.validD (a ++ t) = Lib.validD t := by
 have h2 := Lib.validD_ascii a.length (a ++ t) (by rw [List.take_left]; exact h)
 rw [List.drop_left] at h2
 exact h2
theorem text_low {d : Dec} (h : mayB d = true) : ∀ c ∈ textT d, c.toNat < 128 := by
 obtain ⟨hx, _⟩ := num_text h [] (fun _ _ h => by cases h) Fl.none
 obtain ⟨g1, g2, g3, g4, g5⟩ := num_some hx
 simp only [List.append_nil] at g3
 intro c hc
 have h9 : (textT d).takeWhile numB = textT d := g3.symm
 rw [← h9] at hc
 exact numB_low c (List.all_eq_true.1 (List.all_takeWhile) c hc)
theorem valid_quote (s t : List UInt8) (hv : Lib.validD s = true) : Lib.validD (quoT s ++ t) = Lib.validD t := by
 have e : quoT s ++ t = [34] ++ (quoS s ++ ([34] ++ t)) := by simp [quoT]
 rw [e, valid_low [34] _ (by decide), valid_quo s.length s _ (Nat.le_refl _) hv, valid_low [34] _ (by decide)]
mutual
theorem valid_told : (v : J) → goodJ v = true → ∀ t, Lib.validD (toldJ v ++ t) = Lib.validD t
 | .mk k b n s l ns, h, t => by
  obtain ⟨h1, h2, h3, h4, h5, h6, h7, h8, h9⟩ := good_head h
  have hns : k = 5 → ns.length = l.length ∧ ∀ u ∈ ns, Lib.validD u = true := by
   intro e
   rcases h9 with h9 | h9 | h9 | h9 | h9 | ⟨_, a, b⟩
   iterate 5 omega
   exact ⟨a, fun u hu => (unl_valid ns [] b u hu)⟩
  rw [toldJ]
  split
  ·exact valid_low _ _ (by decide)
  split
  ·cases b <;> exact valid_low _ _ (by decide)
  split
  ·rw [textS, if_pos h7]
   exact valid_low _ _ (text_low h7)
  split
  ·exact valid_quote _ _ h6
  split
  ·rename_i e
   rw [List.append_assoc, List.append_assoc, valid_low [123] _ (by decide), valid_toldL l h8 (decide (k = 5)) true ns _ (fun _ => hns e), valid_low [125] _ (by decide)]
  ·rename_i e
   rw [List.append_assoc, List.append_assoc, valid_low [91] _ (by decide), valid_toldL l h8 (decide (k = 5)) true ns _ (fun e9 => absurd (by simpa using e9) e), valid_low [93] _ (by decide)]
theorem valid_toldL : (l : List J) → goodL l = true → ∀ (obj f : Bool) (ns : List (List UInt8)) (t : List UInt8), (obj = true → ns.length = l.length ∧ ∀ u ∈ ns, Lib.validD u = true) → Lib.validD (toldL obj f l ns ++ t) = Lib.validD t
 | [], _, obj, f, ns, t, _ => by rw [toldL]; rfl
 | x :: l, hg, obj, f, ns, t, hn => by
  have hgx : goodJ x = true ∧ goodL l = true := by simpa [goodL] using hg
  rw [toldL, List.append_assoc, List.append_assoc, List.append_assoc]
  have e1 : ∀ y, Lib.validD ((if f = true then [] else [44]) ++ y) = Lib.validD y := by
   intro y; cases f
   ·exact valid_low [44] _ (by decide)
   ·rfl
  have e2 : ∀ y, Lib.validD ((if obj = true then quoT (ns.headD []) ++ [58] else []) ++ y) = Lib.validD y := by
   intro y
   cases obj with
   | false => rfl
   | true =>
    rw [if_pos rfl, List.append_assoc]
    obtain ⟨hl, hv⟩ := hn rfl
    cases ns with
    | nil => simp at hl
    | cons u ns =>
     rw [List.headD_cons, valid_quote u _ (hv u (by simp)), valid_low [58] _ (by decide)]
  rw [e1, e2, valid_told x hgx.1]
  refine valid_toldL l hgx.2 obj false ns.tail t (fun e => ?_)
  obtain ⟨hl, hv⟩ := hn e
  cases ns with
  | nil => simp at hl
  | cons u ns => exact ⟨by simpa using hl, fun w hw => hv w (List.mem_cons_of_mem _ hw)⟩
end
theorem valid_toldJ (v : J) (h : goodJ v = true) : Lib.validD (toldJ v) = true := by
 have := valid_told v h []
 rw [List.append_nil] at this
 rw [this]; rfl
theorem told_back (v : J) (h : goodJ v = true) (hd : deepJ v ≤ 64) (hl : (toldJ v).length ≤ 1048576) (z : List UInt8) : parseJ z (toldJ v) = (v, 0) := parse_told v h hd hl (valid_toldJ v h) z
end Go.Proofs.YtfclfaidmipjpaaGreatDoor
