/- Texts of this claim, joined: JsG, Jp1, Jp2. -/
import Derived.Test.YtfclfaidmipjpaaGreatDoorCo05
import Derived.Test.YtfclfaidmipjpaaGreatDoorCo06
namespace Go.Proofs.YtfclfaidmipjpaaGreatDoor
set_option maxRecDepth 100000
set_option maxHeartbeats 20000000
open Go.Lib (hid)
inductive Lab where
 | value | behind | name | close
def scS (s : List UInt8) : Option (List UInt8) :=
 if s.take 4 = wNull then some (s.drop 4) else if s.take 4 = wTrue then some (s.drop 4) else if s.take 5 = wFalse then some (s.drop 5)
 else match s with
  | [] => none
  | c :: t => if c = 34 then qlS t else numR (c :: t)
def nv (ob : Bool) : Lab := if ob then .name else .value
def gV (f : Lab → List Bool → Nat → List UInt8 → Nat × Bool) (op : List Bool) (d : Nat) (s : List UInt8) : Nat × Bool :=
 match skipS s with
  | [] => (0, false)
  | c :: t => if c = 91 ∨ c = 123 then
    (match skipS t with
     | [] => f (nv (c == 123)) ((c == 123) :: op) (max d (op.length + 1)) []
     | c2 :: t2 => if c2 = endB (c == 123) then f .close ((c == 123) :: op) (max d (op.length + 1)) (c2 :: t2) else f (nv (c == 123)) ((c == 123) :: op) (max d (op.length + 1)) (c2 :: t2))
   else match scS (c :: t) with
    | none => (0, false)
    | some r => f .behind op d r
def gB (f : Lab → List Bool → Nat → List UInt8 → Nat × Bool) (op : List Bool) (d : Nat) (s : List UInt8) : Nat × Bool :=
 match op with
 | [] => (d, (skipS s).isEmpty)
 | ob :: op => match skipS s with
  | [] => (0, false)
  | c :: t => if c = endB ob then f .close (ob :: op) d (c :: t) else if c = 44 then f (nv ob) (ob :: op) d t else (0, false)
def gN (f : Lab → List Bool → Nat → List UInt8 → Nat × Bool) (op : List Bool) (d : Nat) (s : List UInt8) : Nat × Bool :=
 match skipS s with
  | [] => (0, false)
  | c :: t => if c = 34 then (match qlS t with
    | none => (0, false)
    | some r => match skipS r with
     | [] => (0, false)
     | c2 :: r2 => if c2 = 58 then f .value op d r2 else (0, false))
   else (0, false)
def gC (f : Lab → List Bool → Nat → List UInt8 → Nat × Bool) (op : List Bool) (d : Nat) (s : List UInt8) : Nat × Bool :=
 match s with
 | [] => (0, false)
 | _ :: t => f .behind op.tail d t
def gStep (f : Lab → List Bool → Nat → List UInt8 → Nat × Bool) : Lab → List Bool → Nat → List UInt8 → Nat × Bool
 | .value => gV f
 | .behind => gB f
 | .name => gN f
 | .close => gC f
def gMu : Lab → List UInt8 → Nat
 | .close, s => 2 * s.length
 | _, s => 2 * s.length + 1
theorem take_cons_ne {c : UInt8} {t : List UInt8} {n : Nat} {d : UInt8} {w : List UInt8} (h : (c :: t).take (n + 1) = d :: w) : c = d := by
 rw [List.take_succ_cons] at h; exact (List.cons.inj h).1
theorem frac_len {r r2 : List UInt8} (h : fracR r = some r2) : r2.length ≤ r.length := by
 have h1 : ∀ of : List UInt8, (oneS of r).2.length ≤ r.length := fun of => by
  unfold oneS; split
  ·exact Nat.le_refl _
  split <;> simp
 unfold fracR at h
 split at h
 ·split at h
  ·cases h
  simp only [Option.some.injEq] at h
  subst h
  exact Nat.le_trans (List.dropWhile_sublist _).length_le (h1 _)
 simp only [Option.some.injEq] at h
 subst h; exact Nat.le_refl _
theorem pow_len {r r2 : List UInt8} (h : powR2 r = some r2) : r2.length ≤ r.length := by
 have h1 : ∀ (of x : List UInt8), (oneS of x).2.length ≤ x.length := fun of x => by
  unfold oneS; split
  ·exact Nat.le_refl _
  split <;> simp
 unfold powR2 at h
 split at h
 ·simp only [Option.some.injEq] at h; subst h; exact Nat.le_refl _
 split at h
 ·cases h
 simp only [Option.some.injEq] at h
 subst h
 exact Nat.le_trans (List.dropWhile_sublist _).length_le (Nat.le_trans (h1 _ _) (h1 _ _))
theorem numR_len {s r : List UInt8} (h : numR s = some r) : r.length < s.length := by
 have h1 : (oneS [45] s).2.length ≤ s.length := by
  unfold oneS; split
  ·exact Nat.le_refl _
  split <;> simp
 unfold numR at h
 split at h
 ·cases h
 rename_i hn
 have hd : digsS (oneS [45] s).2 ≠ [] := fun e => hn (.inl e)
 cases hf : fracR (restS (oneS [45] s).2) with
 | none => rw [hf] at h; cases h
 | some x =>
  rw [hf, Option.bind_some] at h
  have h2 := pow_len h
  have h3 := frac_len hf
  have h4 := List.takeWhile_append_dropWhile (p := digB) (l := (oneS [45] s).2)
  have h5 : (digsS (oneS [45] s).2).length + (restS (oneS [45] s).2).length = (oneS [45] s).2.length := by
   unfold digsS restS; rw [← List.length_append, h4]
  have h6 := List.length_pos_iff.2 hd
  omega
theorem qlS_len {s r : List UInt8} (h : qlS s = some r) : r.length < s.length := by
 rw [qlS_qt []] at h
 cases hq : qtS [] s with
 | none => rw [hq] at h; cases h
 | some x =>
  obtain ⟨u, r2, a⟩ := x
  rw [hq] at h
  simp only [Option.map_some, Option.some.injEq] at h
  subst h
  exact qtS_len hq
theorem sc_len {s r : List UInt8} (h : scS s = some r) : r.length < s.length := by
 have hw : ∀ (n : Nat) (w : List UInt8), 0 < w.length → w.length = n → s.take n = w → (s.drop n).length < s.length := fun n w h0 h1 h2 => by
  have h3 := congrArg List.length h2
  rw [List.length_take] at h3
  rw [List.length_drop]; omega
 unfold scS at h
 split at h
 ·rename_i h2; simp only [Option.some.injEq] at h; subst h; exact hw 4 wNull (by decide) rfl h2
 split at h
 ·rename_i h2; simp only [Option.some.injEq] at h; subst h; exact hw 4 wTrue (by decide) rfl h2
 split at h
 ·rename_i h2; simp only [Option.some.injEq] at h; subst h; exact hw 5 wFalse (by decide) rfl h2
 split at h
 ·cases h
 split at h
 ·have := qlS_len h; simp only [List.length_cons]; omega
 exact numR_len h
theorem gMu_nv (ob : Bool) (s : List UInt8) : gMu (nv ob) s = 2 * s.length + 1 := by cases ob <;> rfl
theorem gStep_congr {f g : Lab → List Bool → Nat → List UInt8 → Nat × Bool} {L : Lab} {op : List Bool} {d : Nat} {s : List UInt8} (h : ∀ L2 op2 d2 s2, gMu L2 s2 < gMu L s → f L2 op2 d2 s2 = g L2 op2 d2 s2) : gStep f L op d s = gStep g L op d s := by
 cases L with
 | value =>
  show gV f op d s = gV g op d s
  unfold gV
  cases hs : skipS s with
  | nil => rfl
  | cons c t =>
   have h1 := skip_cons hs
   simp only
   split
   ·cases ht : skipS t with
    | nil => exact h _ _ _ _ (by rw [gMu_nv]; simp only [gMu, List.length_nil]; omega)
    | cons c2 t2 =>
     have h2 := skip_cons ht
     have h3 : (c2 :: t2).length ≤ t.length := by rw [← ht]; exact skip_len t
     simp only
     split
     ·exact h _ _ _ _ (by simp only [gMu]; omega)
     exact h _ _ _ _ (by rw [gMu_nv]; simp only [gMu]; omega)
   cases hc : scS (c :: t) with
   | none => rfl
   | some r =>
    have h2 := sc_len hc
    have h3 : (c :: t).length ≤ s.length := by rw [← hs]; exact skip_len s
    exact h _ _ _ _ (by simp only [gMu]; omega)
 | behind =>
  cases op with
  | nil => rfl
  | cons ob op =>
   show gB f (ob :: op) d s = gB g (ob :: op) d s
   unfold gB
   simp only
   cases hs : skipS s with
   | nil => rfl
   | cons c t =>
    have h1 := skip_cons hs
    have h3 : (c :: t).length ≤ s.length := by rw [← hs]; exact skip_len s
    simp only
    split
    ·exact h _ _ _ _ (by simp only [gMu]; omega)
    split
    ·exact h _ _ _ _ (by rw [gMu_nv]; simp only [gMu]; omega)
    rfl
 | name =>
  show gN f op d s = gN g op d s
  unfold gN
  cases hs : skipS s with
  | nil => rfl
  | cons c t =>
   have h1 := skip_cons hs
   simp only
   split
   ·cases hq : qlS t with
    | none => rfl
    | some r =>
     have h2 := qlS_len hq
     simp only
     cases hr : skipS r with
     | nil => rfl
     | cons c2 r2 =>
      have h3 := skip_cons hr
      simp only
      split
      ·exact h _ _ _ _ (by simp only [gMu]; omega)
      rfl
   rfl
 | close =>
  show gC f op d s = gC g op d s
  unfold gC
  cases s with
  | nil => rfl
  | cons c t => exact h _ _ _ _ (by simp only [gMu, List.length_cons]; omega)
def gram : Nat → Lab → List Bool → Nat → List UInt8 → Nat × Bool
 | 0 => fun _ _ _ _ => (0, false)
 | n + 1 => gStep (gram n)
theorem gram_fuel : ∀ (n m : Nat) (L : Lab) (op : List Bool) (d : Nat) (s : List UInt8), gMu L s < n → gMu L s < m → gram n L op d s = gram m L op d s
 | 0, _, _, _, _, _, h, _ => by omega
 | _ + 1, 0, _, _, _, _, _, h => by omega
 | n + 1, m + 1, L, op, d, s, h1, h2 => gStep_congr (fun L2 op2 d2 s2 h => gram_fuel n m L2 op2 d2 s2 (by omega) (by omega))
def gramG (L : Lab) (op : List Bool) (d : Nat) (s : List UInt8) : Nat × Bool := gram (gMu L s + 1) L op d s
theorem gramG_eq (L : Lab) (op : List Bool) (d : Nat) (s : List UInt8) : gramG L op d s = gStep gramG L op d s :=
 gStep_congr (fun L2 op2 d2 s2 h => gram_fuel _ _ L2 op2 d2 s2 h (Nat.lt_succ_self _))
theorem gramV (op : List Bool) (d : Nat) (s : List UInt8) : gramG .value op d s = gV gramG op d s := gramG_eq _ _ _ _
theorem gramB' (op : List Bool) (d : Nat) (s : List UInt8) : gramG .behind op d s = gB gramG op d s := gramG_eq _ _ _ _
theorem gramN (op : List Bool) (d : Nat) (s : List UInt8) : gramG .name op d s = gN gramG op d s := gramG_eq _ _ _ _
theorem gramC (op : List Bool) (d : Nat) (s : List UInt8) : gramG .close op d s = gC gramG op d s := gramG_eq _ _ _ _
/-! ### what it tells of a text that is read -/
def Tells (x : Option (J × List UInt8 × Fl)) (y : Nat × Bool) (op : List Bool) (dp : Nat) (f : Fl) : Prop :=
 match x with
 | none => y.2 = false
 | some (_, r, f2) => ∃ dm, y = gramG .behind op (max dp dm) r ∧ f2.deep = (f.deep || decide (64 < dm))
def gIn (ob : Bool) (op : List Bool) (dp : Nat) (s : List UInt8) : Nat × Bool :=
 match skipS s with
 | [] => gramG (nv ob) (ob :: op) dp []
 | c :: t => if c = endB ob then gramG .close (ob :: op) dp (c :: t) else gramG (nv ob) (ob :: op) dp (c :: t)
theorem numR_other {c : UInt8} {t : List UInt8} (h1 : c ≠ 45) (h2 : digB c = false) : numR (c :: t) = none := by
 unfold numR
 rw [if_pos]
 left
 have : (oneS [45] (c :: t)).2 = c :: t := by
  unfold oneS
  simp [h1]
 rw [this]
 unfold digsS
 rw [List.takeWhile_cons, h2]; rfl
theorem behind_off {op : List Bool} {dp : Nat} {c : UInt8} {t : List UInt8} (h : numB c = true) : (gramG .behind op dp (c :: t)).2 = false := by
 have hb : blankB c = false := by
  cases hb : blankB c with
  | false => rfl
  | true =>
   unfold blankB at hb
   simp only [Bool.or_eq_true, beq_iff_eq] at hb
   rcases hb with ((rfl | rfl) | rfl) | rfl <;> revert h <;> decide
 have hs : skipS (c :: t) = c :: t := by unfold skipS; rw [List.dropWhile_cons, if_neg (by rw [hb]; decide)]
 rw [gramB']
 cases op with
 | nil => unfold gB; simp only; rw [hs]; rfl
 | cons ob op =>
  unfold gB
  simp only
  rw [hs]
  simp only
  rw [if_neg, if_neg]
  ·rintro rfl; revert h; decide
  rintro rfl; cases ob <;> revert h <;> decide
theorem word_ne {c : UInt8} {t : List UInt8} (h : c = 34 ∨ c = 45 ∨ digB c = true) : (c :: t).take 4 ≠ wNull ∧ (c :: t).take 4 ≠ wTrue ∧ (c :: t).take 5 ≠ wFalse := by
 refine ⟨fun e => ?_, fun e => ?_, fun e => ?_⟩ <;>
 ·have := take_cons_ne e
  subst this
  revert h; decide
theorem Tells.more {x : Option (J × List UInt8 × Fl)} {y : Nat × Bool} {op : List Bool} {dp m : Nat} {f f0 : Fl} (h : Tells x y op (max dp m) f) (hf : f.deep = (f0.deep || decide (64 < m))) : Tells x y op dp f0 := by
 cases x with
 | none => exact h
 | some x =>
  obtain ⟨v, r, f2⟩ := x
  obtain ⟨dm, h1, h2⟩ := h
  refine ⟨max m dm, ?_, ?_⟩
  ·rw [h1, Nat.max_assoc]
  rw [h2, hf, Bool.or_assoc]
  congr 1
  rw [Bool.eq_iff_iff]
  simp only [Bool.or_eq_true, decide_eq_true_eq]; omega
theorem scS_cons (c : UInt8) (t : List UInt8) : scS (c :: t) = if (c :: t).take 4 = wNull then some ((c :: t).drop 4) else if (c :: t).take 4 = wTrue then some ((c :: t).drop 4) else if (c :: t).take 5 = wFalse then some ((c :: t).drop 5)
 else if c = 34 then qlS t else numR (c :: t) := rfl
theorem gram_val (z : List UInt8) : ∀ (n : Nat),
  (∀ op dp s f, 3 * s.length + 3 ≤ n → Tells (valS z n op.length s f) (gramG .value op dp s) op dp f) ∧
  (∀ ob op dp s f, 3 * s.length + 5 ≤ n → Tells (inS z n (op.length + 1) ob s f) (gIn ob op dp s) op dp f) ∧
  (∀ ob op dp ls ns s f, 3 * s.length + 4 ≤ n → Tells (itemS z n (op.length + 1) ob ls ns s f) (gramG (nv ob) (ob :: op) dp s) op dp f)
 | 0 => ⟨fun _ _ _ _ h => by omega, fun _ _ _ _ _ h => by omega, fun _ _ _ _ _ _ _ h => by omega⟩
 | n + 1 => by
  obtain ⟨ihv, ihi, iht⟩ := gram_val z n
  refine ⟨fun op dp s f hn => ?_, fun ob op dp s f hn => ?_, fun ob op dp ls ns s f hn => ?_⟩
  ·rw [gramV, valS]
   unfold gV
   cases hs : skipS s with
   | nil => rfl
   | cons c t =>
    have h1 := skip_cons hs
    simp only
    by_cases e1 : c = 123
    ·subst e1
     have h2 := ihi true op (max dp (op.length + 1)) t { f with deep := f.deep || decide (64 < op.length + 1) } (by omega)
     exact Tells.more h2 rfl
    by_cases e2 : c = 91
    ·subst e2
     have h2 := ihi false op (max dp (op.length + 1)) t { f with deep := f.deep || decide (64 < op.length + 1) } (by omega)
     exact Tells.more h2 rfl
    rw [if_neg e1, if_neg e2, if_neg (show ¬ (c = 91 ∨ c = 123) from fun h => h.elim e2 e1)]
    by_cases e3 : c = 34
    ·obtain ⟨w1, w2, w3⟩ := word_ne (t := t) (.inl e3)
     rw [if_pos e3]
     rw [scS_cons]
     rw [if_neg w1, if_neg w2, if_neg w3, if_pos e3, qlS_qt z]
     cases hq : qtS z t with
     | none => rfl
     | some x =>
      obtain ⟨u, r, a⟩ := x
      exact ⟨0, by simp, by simp⟩
    rw [if_neg e3]
    by_cases e4 : c = 45 ∨ digB c = true
    ·obtain ⟨w1, w2, w3⟩ := word_ne (t := t) (.inr e4)
     rw [if_pos e4]
     rw [scS_cons]
     rw [if_neg w1, if_neg w2, if_neg w3, if_neg e3]
     cases hnm : numS (c :: t) f with
     | none =>
      have h2 := (num_none _ _).1 hnm
      cases hr : numR (c :: t) with
      | none => rfl
      | some r =>
       have h3 : ¬ Off r := fun h => h2 ⟨r, hr, h⟩
       cases r with
       | nil => exact absurd (fun c t e => by cases e) h3
       | cons c2 t2 =>
        have h4 : numB c2 = true := by
         cases h5 : numB c2 with
         | true => rfl
         | false => exact absurd (fun c t e => by cases e; exact h5) h3
        exact behind_off h4
     | some x =>
      obtain ⟨v, r, f2⟩ := x
      obtain ⟨h2, _, _, _, h3⟩ := num_some hnm
      rw [h2]
      exact ⟨0, by simp, by rw [h3]; simp⟩
    rw [if_neg e4]
    by_cases w1 : (c :: t).take 4 = wNull
    ·rw [if_pos w1]
     rw [scS_cons]
     rw [if_pos w1]
     exact ⟨0, by simp, by simp⟩
    rw [if_neg w1]
    by_cases w2 : (c :: t).take 4 = wTrue
    ·rw [if_pos w2]
     rw [scS_cons]
     rw [if_neg w1, if_pos w2]
     exact ⟨0, by simp, by simp⟩
    rw [if_neg w2]
    by_cases w3 : (c :: t).take 5 = wFalse
    ·rw [if_pos w3]
     rw [scS_cons]
     rw [if_neg w1, if_neg w2, if_pos w3]
     exact ⟨0, by simp, by simp⟩
    rw [if_neg w3]
    rw [scS_cons]
    rw [if_neg w1, if_neg w2, if_neg w3, if_neg e3, numR_other (fun h => e4 (.inl h)) (by simpa using fun h => e4 (.inr h))]
    rfl
  ·rw [inS]
   unfold gIn
   cases hs : skipS s with
   | nil =>
    have h2 := iht ob op dp [] [] [] f (by simp; omega)
    have h3 : itemS z n (op.length + 1) ob [] [] [] f = none := by
     cases n with
     | zero => rfl
     | succ n =>
      rw [itemS_succ]
      cases ob with
      | true => rfl
      | false =>
       have e : valS z n (op.length + 1) [] f = none := by cases n <;> rfl
       show moreS z n _ false _ _ (valS z n _ [] f) = none
       rw [e]; rfl
    rw [h3] at h2
    exact h2
   | cons c t =>
    have h1 := skip_cons hs
    have h3 : (c :: t).length ≤ s.length := by rw [← hs]; exact skip_len s
    simp only
    by_cases e : c = endB ob
    ·rw [if_pos e, if_pos e, gramC]
     unfold gC
     exact ⟨0, by simp, by simp⟩
    rw [if_neg e, if_neg e]
    exact iht ob op dp [] [] (c :: t) f (by omega)
  rw [itemS_succ]
  have hv : ∀ (ns2 : List (List UInt8)) (s2 : List UInt8) (f2 : Fl), s2.length ≤ s.length → f2.deep = f.deep → Tells (moreS z n (op.length + 1) ob ls ns2 (valS z n (op.length + 1) s2 f2)) (gramG .value (ob :: op) dp s2) op dp f := by
   intro ns2 s2 f2 hl hf
   have h2 := ihv (ob :: op) dp s2 f2 (by omega)
   rw [List.length_cons] at h2
   cases hq : valS z n (op.length + 1) s2 f2 with
   | none => rw [hq] at h2; exact h2
   | some x =>
    obtain ⟨v, s3, f3⟩ := x
    have hlen := (val_len (z := z) n).1 _ _ _ _ _ _ hq
    rw [hq] at h2
    obtain ⟨dm, h3, h4⟩ := h2
    unfold moreS
    simp only
    rw [h3, gramB']
    unfold gB
    simp only
    cases hs : skipS s3 with
    | nil => rfl
    | cons c t =>
     have h5 := skip_cons hs
     simp only
     by_cases e : c = endB ob
     ·rw [if_pos e, if_pos e, gramC]
      unfold gC
      exact ⟨dm, rfl, by rw [h4, hf]⟩
     rw [if_neg e, if_neg e]
     by_cases e2 : c = 44
     ·rw [if_pos e2, if_pos e2]
      exact Tells.more (iht ob op (max dp dm) (ls ++ [v]) ns2 t f3 (by omega)) (by rw [h4, hf])
     rw [if_neg e2, if_neg e2]
     rfl
  cases ob with
  | false => exact hv ns s f (Nat.le_refl _) rfl
  | true =>
   show Tells (match nameS z ns s f with | none => none | some (ns2, s2, f2) => moreS z n (op.length + 1) true ls ns2 (valS z n (op.length + 1) s2 f2)) (gramG .name (true :: op) dp s) op dp f
   rw [gramN]
   unfold gN nameS
   cases hs : skipS s with
   | nil => rfl
   | cons c t =>
    have h1 := skip_cons hs
    simp only
    by_cases e : c = 34
    ·rw [if_pos e, if_pos e, qlS_qt z]
     cases hq : qtS z t with
     | none => rfl
     | some x =>
      obtain ⟨u, r, a⟩ := x
      have h2 := qtS_len hq
      simp only [Option.map_some]
      cases hr : skipS r with
      | nil => rfl
      | cons c2 r2 =>
       have h3 := skip_cons hr
       simp only
       by_cases e2 : c2 = 58
       ·rw [if_pos e2, if_pos e2]
        exact hv _ r2 _ (by omega) rfl
       rw [if_neg e2, if_neg e2]
       rfl
    rw [if_neg e, if_neg e]
    rfl
theorem gram_whole (z b : List UInt8) : (valS z (3 * b.length + 3) 0 b Fl.none = none → (gramG .value [] 0 b).2 = false) ∧
  (∀ v r f, valS z (3 * b.length + 3) 0 b Fl.none = some (v, r, f) → gramG .value [] 0 b = ((gramG .value [] 0 b).1, (skipS r).isEmpty) ∧ f.deep = decide (64 < (gramG .value [] 0 b).1)) := by
 have h := (gram_val z (3 * b.length + 3)).1 [] 0 b Fl.none (Nat.le_refl _)
 rw [List.length_nil] at h
 refine ⟨fun h0 => ?_, fun v r f h0 => ?_⟩
 ·rw [h0] at h; exact h
 ·rw [h0] at h
  obtain ⟨dm, h1, h2⟩ := h
  rw [h1, gramB']
  unfold gB
  refine ⟨rfl, ?_⟩
  rw [h2]
  simp [Fl.none]
open Go.RowKit
theorem blank_calls (w : World) (c : UInt8) :
  Calls Tryz.prog 112 #[.int .u8 (c.toNat : Int)] w fun e w' => e = .returned (.bool (blankB c)) ∧ w = w' := by
 by_cases e32 : c.toNat = 32
 ·have h32 : ((c.toNat : Int) == 32) = true := by rw [beq_iff_eq]; omega
  have HB : Hid (blankB c = true) := hid (by have : c = 32 := UInt8.toNat_inj.1 (by rw [e32]; rfl); subst this; decide)
  clear e32
  go_enter Tryz.func112, Tryz.ntmps112
  go_wp2
  go_ret
  exact ⟨by rw [HB.out]; try rfl, rfl⟩
 have h32 : ((c.toNat : Int) == 32) = false := by rw [beq_eq_false_iff_ne]; omega
 by_cases e9 : c.toNat = 9
 ·have h9 : ((c.toNat : Int) == 9) = true := by rw [beq_iff_eq]; omega
  have HB : Hid (blankB c = true) := hid (by have : c = 9 := UInt8.toNat_inj.1 (by rw [e9]; rfl); subst this; decide)
  clear e32 e9
  go_enter Tryz.func112, Tryz.ntmps112
  go_wp2
  go_ret
  exact ⟨by rw [HB.out]; try rfl, rfl⟩
 have h9 : ((c.toNat : Int) == 9) = false := by rw [beq_eq_false_iff_ne]; omega
 by_cases e10 : c.toNat = 10
 ·have h10 : ((c.toNat : Int) == 10) = true := by rw [beq_iff_eq]; omega
  have HB : Hid (blankB c = true) := hid (by have : c = 10 := UInt8.toNat_inj.1 (by rw [e10]; rfl); subst this; decide)
  clear e32 e9 e10
  go_enter Tryz.func112, Tryz.ntmps112
  go_wp2
  go_ret
  exact ⟨by rw [HB.out]; try rfl, rfl⟩
 have h10 : ((c.toNat : Int) == 10) = false := by rw [beq_eq_false_iff_ne]; omega
 by_cases e13 : c.toNat = 13
 ·have h13 : ((c.toNat : Int) == 13) = true := by rw [beq_iff_eq]; omega
  have HB : Hid (blankB c = true) := hid (by have : c = 13 := UInt8.toNat_inj.1 (by rw [e13]; rfl); subst this; decide)
  clear e32 e9 e10 e13
  go_enter Tryz.func112, Tryz.ntmps112
  go_wp2
  go_ret
  exact ⟨by rw [HB.out]; try rfl, rfl⟩
 have h13 : ((c.toNat : Int) == 13) = false := by rw [beq_eq_false_iff_ne]; omega
 have HB : Hid (blankB c = false) := hid (by
  unfold blankB
  simp only [Bool.or_eq_false_iff, beq_eq_false_iff_ne]
  refine ⟨⟨⟨?_, ?_⟩, ?_⟩, ?_⟩ <;> (intro e; subst e; simp at e32 e9 e10 e13))
 clear e32 e9 e10 e13
 go_enter Tryz.func112, Tryz.ntmps112
 go_wp2
 go_ret
 exact ⟨by rw [HB.out]; try rfl, rfl⟩
theorem skip_calls (w : World) (l : List UInt8) :
  Calls Tryz.prog 77 #[.string ⟨l.toArray⟩] w fun e w' => e = .returned (.string ⟨(skipS l).toArray⟩) ∧ w = w' := by
 go_enter Tryz.func77, Tryz.ntmps77
 go_wp2_with fail
 go_loopg [0] l.length (fun k s0 wr => ∃ r : List UInt8, k = r.length ∧ r.length ≤ l.length ∧ s0 = .string ⟨r.toArray⟩ ∧ skipS l = skipS r ∧ w = wr)
 case atStart => exact ⟨l, rfl, Nat.le_refl _, rfl, rfl, rfl⟩
 case round =>
  obtain ⟨r, hk, hr, rfl, hv, rfl⟩ := hrel
  have Hk := hid hk
  have HV := hid hv
  clear hk hv
  by_cases h0 : r.length = 0
  ·obtain rfl : r = [] := List.length_eq_zero_iff.1 h0
   have HF : Hid (skipS l = []) := hid (by rw [HV.out]; rfl)
   clear h0
   go_wp2_with fail
   go_ret
   exact ⟨by rw [HF.out]; try rfl, rfl⟩
  have hlt : 0 < r.length := by omega
  have hne : r.isEmpty = false := by cases r with | nil => exact absurd rfl h0 | cons => rfl
  have h9 : (0 : Int) < (r.length : Int) := by omega
  have h1 : (1 : Int) ≤ (r.length : Int) := by omega
  have hij := byte_at r 0 hlt
  have hext : (⟨r.toArray⟩ : ByteArray).extract 1 r.length = ⟨r.tail.toArray⟩ := by rw [Lib.extract_eq]; rw [List.take_of_length_le (by simp), List.drop_one]
  have hsk := skip_at r 0 hlt
  rw [List.drop_zero, Nat.zero_add, List.drop_one] at hsk
  have HSK := hid hsk
  have HL : Hid (r.tail.length = r.length - 1) := hid (by simp)
  have HLT := hid hlt
  clear h0 hsk
  generalize r.getD 0 0 = c at *
  cases hb : blankB c with
  | true =>
   have HB : Hid (skipS l = skipS r.tail) := hid (by rw [HV.out, HSK.out, if_pos hb])
   have HBB := hid hb
   clear hb
   go_wp2_with fail
   refine (blank_calls w c).mono ?_
   rintro e w1 ⟨rfl, rfl⟩
   rw [HBB.out]
   go_wp2_with fail
   go_roundg r.tail.length
   case measure => have := Hk.out; have := HL.out; have := HLT.out; omega
   exact ⟨_, rfl, by have := HL.out; omega, rfl, HB.out, rfl⟩
  | false =>
   have HB : Hid (skipS l = r) := hid (by rw [HV.out, HSK.out, if_neg (by rw [hb]; decide)])
   have HBB := hid hb
   clear hb
   go_wp2_with fail
   refine (blank_calls w c).mono ?_
   rintro e w1 ⟨rfl, rfl⟩
   rw [HBB.out]
   go_wp2_with fail
   go_ret
   exact ⟨by rw [HB.out]; try rfl, rfl⟩
theorem digits_calls (w : World) (r : List UInt8) (hr : r.length ≤ 1000000000) :
  Calls Tryz.prog 120 #[.string ⟨r.toArray⟩] w fun e w' => e = .returned (.int .i64 ((digsS r).length : Int)) ∧ w = w' := by
 go_enter Tryz.func120, Tryz.ntmps120
 go_wp2_with fail
 go_loopg [3] r.length (fun k i wr => ∃ j : Nat, k = r.length - j ∧ j ≤ r.length ∧ i = .int .i64 j ∧ digAll (r.take j) = true ∧ w = wr)
 case atStart => exact ⟨0, rfl, by omega, rfl, rfl, rfl⟩
 case round =>
  obtain ⟨j, hk, hj, rfl, hd, rfl⟩ := hrel
  have Hk := hid hk
  have Hd := hid hd
  clear hk hd
  by_cases hlt : j < r.length
  ·have hlt' : (j : Int) < r.length := by omega
   have hij : (⟨r.toArray⟩ : ByteArray)[j]'(by simpa [ByteArray.size] using hlt) = r.getD j 0 := by
    show r.toArray[j]'(by simpa using hlt) = _
    simp [hlt]
   have hts := take_snoc8 r j hlt
   have Hts := hid hts
   clear hts
   cases hb : digB (r.getD j 0) with
   | true =>
    obtain ⟨d1, d2⟩ := (digB_iff _).1 hb
    have Hb := hid hb
    clear hb
    generalize r.getD j 0 = c at *
    have d3 : (48 : Int) ≤ (c.toNat : Int) := by omega
    have d4 : (c.toNat : Int) ≤ 57 := by omega
    go_wp2_with fail
    go_roundg (r.length - (j + 1))
    case measure => have := Hk.out; omega
    have h1 := Hd.out
    refine ⟨j + 1, rfl, by omega, by go_num, ?_, rfl⟩
    rw [Hts.out]
    simp only [digAll, List.all_append] at h1 ⊢
    rw [h1]; simp [Hb.out]
   | false =>
    have hfin := digs_at r j Hd.out (by omega) (.inr hb)
    have Hfin : Hid ((digsS r).length = j) := hid (by rw [hfin.1, List.length_take]; omega)
    have hcs : (r.getD j 0).toNat < 48 ∨ 57 < (r.getD j 0).toNat := by
     rcases Nat.lt_or_ge (r.getD j 0).toNat 48 with h9 | h9
     ·exact .inl h9
     rcases Nat.lt_or_ge 57 (r.getD j 0).toNat with h8 | h8
     ·exact .inr h8
     rw [(digB_iff _).2 ⟨h9, h8⟩] at hb; cases hb
    clear hb hfin
    generalize r.getD j 0 = c at *
    rcases hcs with d1 | d1
    ·have d3 : decide ((48 : Int) ≤ (c.toNat : Int)) = false := by rw [decide_eq_false_iff_not]; omega
     go_wp2_with fail
     go_ret
     exact ⟨by rw [Hfin.out]; try rfl, rfl⟩
    have d3 : (48 : Int) ≤ (c.toNat : Int) := by omega
    have d4 : decide ((c.toNat : Int) ≤ 57) = false := by rw [decide_eq_false_iff_not]; omega
    go_wp2_with fail
    go_ret
    exact ⟨by rw [Hfin.out]; try rfl, rfl⟩
  obtain rfl : j = r.length := by omega
  have hfin := digs_at r r.length Hd.out (by omega) (.inl rfl)
  have Hfin : Hid ((digsS r).length = r.length) := hid (by rw [hfin.1, List.take_length])
  have hlt' : decide ((r.length : Int) < (r.length : Int)) = false := by simp
  clear hfin
  go_wp2_with fail
  go_ret
  exact ⟨by rw [Hfin.out]; try rfl, rfl⟩
open Go.RowKit
theorem pre_one (l : List UInt8) (c : UInt8) : Lib.hasPrefix l [c] = (l.head? == some c) := by
 unfold Lib.hasPrefix
 cases l with
 | nil => rfl
 | cons d t =>
  simp only [List.isPrefixOf, List.head?_cons, Bool.and_true]
  rw [Bool.eq_iff_iff]
  simp only [beq_iff_eq, Option.some.injEq]
  exact eq_comm
theorem oneS_cons' (of : List UInt8) (c : UInt8) (t : List UInt8) : oneS of (c :: t) = if of.contains c then (c, t) else (0, c :: t) := rfl
theorem one_drop (of l : List UInt8) : ∃ a : Nat, a ≤ 1 ∧ a ≤ l.length ∧ (oneS of l).2 = l.drop a ∧ ((a = 1 ∧ ∃ c, l.head? = some c ∧ of.contains c = true ∧ (oneS of l).1 = c) ∨ (a = 0 ∧ (oneS of l).1 = 0 ∧ ∀ c, l.head? = some c → of.contains c = false)) := by
 cases l with
 | nil => exact ⟨0, Nat.zero_le _, Nat.le_refl _, rfl, .inr ⟨rfl, rfl, fun c h => by cases h⟩⟩
 | cons c t =>
  by_cases h : of.contains c = true
  ·exact ⟨1, Nat.le_refl _, by simp, by rw [oneS_cons', if_pos h]; rfl, .inl ⟨rfl, c, rfl, h, by rw [oneS_cons', if_pos h]⟩⟩
  refine ⟨0, Nat.zero_le _, Nat.zero_le _, by rw [oneS_cons', if_neg h]; rfl, .inr ⟨rfl, by rw [oneS_cons', if_neg h], fun d hd => ?_⟩⟩
  simp only [List.head?_cons, Option.some.injEq] at hd
  subst hd
  simpa using h
theorem digs_le (r : List UInt8) : (digsS r).length ≤ r.length := (List.takeWhile_sublist _).length_le
theorem rest_drop (r : List UInt8) : restS r = r.drop (digsS r).length := by
 have h := List.takeWhile_append_dropWhile (p := digB) (l := r)
 unfold restS digsS
 conv => rhs; rw [← h]
 rw [List.drop_left']
 rw [h]
def NumP (w : World) (l : List UInt8) (e : Ending) (w' : World) : Prop :=
 w = w' ∧ ∃ n : Nat, e = .returned (.int .i64 (n : Int)) ∧ ((n = 0 ∧ numR l = none) ∨ (0 < n ∧ n ≤ l.length ∧ numR l = some (l.drop n)))
theorem numR_at {l : List UInt8} {a : Nat} (ha : (oneS [45] l).2 = l.drop a) : numR l = if digsS (l.drop a) = [] ∨ ((digsS (l.drop a)).getD 0 0 = 48 ∧ 1 < (digsS (l.drop a)).length) then none else (fracR (l.drop (a + (digsS (l.drop a)).length))).bind powR2 := by
 unfold numR
 rw [ha, rest_drop, List.drop_drop]
end Go.Proofs.YtfclfaidmipjpaaGreatDoor
