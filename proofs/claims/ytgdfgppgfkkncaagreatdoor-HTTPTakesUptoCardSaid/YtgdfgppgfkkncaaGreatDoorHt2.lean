/- The walks of first and header. -/
import Derived.Test.YtgdfgppgfkkncaaGreatDoorHt1
import Derived.ScopeJumps
namespace Go.Proofs.YtgdfgppgfkkncaaGreatDoor
open Go.RowKit

/-- A scope whose gotos lead on, to one label behind them: what stands behind the label is walked where the goto stands. -/
theorem wp_scope_on {P : Program} {c rest : Code} {Q : Exit → Act → World → Prop} {a : Act} {w : World} (l : Nat) (hf : findLabel c l = some rest) (hq : ∀ l' a w, Q (.goto l') a w → False)
    (first : ∀ Qj : Exit → Act → World → Prop, (∀ a w, rest.wp P Q a w → Qj (.goto l) a w) → (∀ a w, Q .ret a w → Qj .ret a w) → c.wp P Qj a w) : (Code.scope c).wp P Q a w := by
  refine wp_scope_jumps l (fun a w => rest.wp P Q a w) (fun _ _ => 0) hf (first (Exit.jump l (fun a w => rest.wp P Q a w) Q) (fun a w h => ⟨rfl, h⟩) (fun a w h => h)) (fun a w h => Code.wp_mono (fun e a w h => ?_) h)
  cases e with
  | goto l' => exact (hq _ _ _ h).elim
  | _ => exact h

theorem split_len {sub : List UInt8} (hs : sub ≠ []) : ∀ (n : Nat) (s : List UInt8), s.length ≤ n → (Lib.split s sub).length = Lib.count s sub + 1 := by
  intro n
  induction n with
  | zero =>
    intro s h
    obtain rfl : s = [] := by simpa using h
    rcases Lib.index_spec [] sub with ⟨h1, _⟩ | ⟨i, h1, h2, h3, _⟩
    · rw [split_miss h1, Lib.count_miss h1]; rfl
    · exfalso
      rcases Lib.occAt_room h3 with h4 | h4
      · have := List.length_pos_iff.2 hs
        have h5 : i + sub.length ≤ 0 := h4
        omega
      · exact hs h4
  | succ n ih =>
    intro s h
    rcases Lib.index_spec s sub with ⟨h1, _⟩ | ⟨i, h1, h2, h3, _⟩
    · rw [split_miss h1, Lib.count_miss h1]; rfl
    · have hp := List.length_pos_iff.2 hs
      rcases Lib.occAt_room h3 with h4 | h4
      · rw [split_hit hs h1, Lib.count_hit hs h1, List.length_cons, ih _ (by rw [List.length_drop]; omega)]
        omega
      · exact absurd h4 hs
/-- The cells of a row of texts. -/
def strs (ps : List (List UInt8)) : List Value := ps.map (fun p => Value.string ⟨p.toArray⟩)
theorem split_calls (w : World) (he : Env w) (l sep : List UInt8) (hl : l.length < 4294967281) (hs : sep ≠ []) :
    Calls Tryz.prog 39 #[.string ⟨l.toArray⟩, .string ⟨sep.toArray⟩] w fun e w' =>
      e = .returned (.slice (some ⟨w.heap.size, 0, none⟩) (Lib.split l sep).length (Lib.split l sep).length) ∧ w' = w.alloc (.cells (strs (Lib.split l sep)).toArray 9) := by
  obtain ⟨m, hm⟩ := he.maxLen
  have h := Tryz.strings_Split ⟨l.toArray⟩ ⟨sep.toArray⟩ m w (by simpa [ByteArray.size] using hl) hm (by have := List.length_pos_iff.2 hs; simp [ByteArray.size]; omega)
  have e1 : Lib.countB ⟨l.toArray⟩ ⟨sep.toArray⟩ + 1 = (Lib.split l sep).length := (split_len hs _ l (Nat.le_refl _)).symm
  have e2 : (Lib.splitB ⟨sep.toArray⟩ 0 (Lib.countB ⟨l.toArray⟩ ⟨sep.toArray⟩) ⟨l.toArray⟩).map Value.string = strs (Lib.split l sep) := by
    have h3 := Lib.splitB_data ⟨sep.toArray⟩ 0 (Lib.countB ⟨l.toArray⟩ ⟨sep.toArray⟩) ⟨l.toArray⟩
    unfold strs
    have h4 : Lib.split l sep = (Lib.splitB ⟨sep.toArray⟩ 0 (Lib.countB ⟨l.toArray⟩ ⟨sep.toArray⟩) ⟨l.toArray⟩).map (·.data.toList) := h3.symm
    rw [h4, List.map_map]
    rfl
  rw [e1, e2] at h
  exact h
theorem cut1_nil_split (a : UInt8) (l : List UInt8) : Lib.split l [a] = cut1 a [] l := split_cut1 a _ l (Nat.le_refl _)
/-- 'before, after, found := strings.Cut(s, one byte)'. -/
theorem index_takeWhile (a : UInt8) : ∀ (l : List UInt8), Lib.index l [a] = (if (l.takeWhile (fun c => !(c == a))).length = l.length then -1 else ((l.takeWhile (fun c => !(c == a))).length : Int)) := by
  intro l
  induction l with
  | nil => rfl
  | cons c r ih =>
    unfold Lib.index
    by_cases h : c = a
    · subst h
      simp [List.isPrefixOf]
    · have h1 : ([a].isPrefixOf (c :: r)) = false := by simp [List.isPrefixOf]; exact fun e => h e.symm
      have h2 : (c :: r).takeWhile (fun c => !(c == a)) = c :: r.takeWhile (fun c => !(c == a)) := by rw [List.takeWhile_cons, if_pos (by simp [h])]
      rw [h1, h2, ih]
      simp only [Bool.false_eq_true, if_false, List.length_cons]
      by_cases h3 : (r.takeWhile (fun c => !(c == a))).length = r.length
      · simp only [h3, if_true]; rfl
      · have h4 : ¬ (r.takeWhile (fun c => !(c == a))).length + 1 = r.length + 1 := by omega
        have h5 : ¬ ((((r.takeWhile (fun c => !(c == a))).length : Int)) == -1) = true := by rw [beq_iff_eq]; omega
        rw [if_neg h3, if_neg h4, if_neg h5]
        simp
theorem takeWhile_take (p : UInt8 → Bool) (l : List UInt8) : l.take (l.takeWhile p).length = l.takeWhile p := by
  induction l with
  | nil => rfl
  | cons c r ih =>
    rw [List.takeWhile_cons]
    by_cases h : p c = true
    · rw [if_pos h]; simp [ih]
    · rw [if_neg h]; rfl
theorem takeWhile_len (p : UInt8 → Bool) (l : List UInt8) : (l.takeWhile p).length ≤ l.length := (List.takeWhile_sublist p).length_le
/-- The two sides of a byte. -/
def sideS (a : UInt8) (l : List UInt8) : List UInt8 × List UInt8 × Bool := match l.drop (l.takeWhile (fun c => !(c == a))).length with
  | [] => (l, [], false)
  | _ :: r => (l.takeWhile (fun c => !(c == a)), r, true)
theorem cut_side (a : UInt8) (l : List UInt8) : Lib.cut l [a] = sideS a l := by
  have hl := takeWhile_len (fun c => !(c == a)) l
  unfold Lib.cut sideS
  rw [index_takeWhile]
  by_cases h : (l.takeWhile (fun c => !(c == a))).length = l.length
  · rw [if_pos h, h, List.drop_length]; rfl
  · rw [if_neg h, if_pos (by omega)]
    have h2 : 0 < (l.drop (l.takeWhile (fun c => !(c == a))).length).length := by rw [List.length_drop]; omega
    cases hd : l.drop (l.takeWhile (fun c => !(c == a))).length with
    | nil => rw [hd] at h2; simp at h2
    | cons c r =>
      simp only [Int.toNat_natCast, takeWhile_take]
      have : l.drop ((l.takeWhile (fun c => !(c == a))).length + 1) = r := by
        rw [← List.drop_drop, hd]; rfl
      show (_, l.drop ((l.takeWhile (fun c => !(c == a))).length + 1), true) = _
      rw [this]
theorem side_len (a : UInt8) (l : List UInt8) : (sideS a l).1.length ≤ l.length ∧ (sideS a l).2.1.length ≤ l.length := by
  have hl := takeWhile_len (fun c => !(c == a)) l
  unfold sideS
  have h2 : (l.drop (l.takeWhile (fun c => !(c == a))).length).length ≤ l.length := by rw [List.length_drop]; omega
  split
  · exact ⟨Nat.le_refl _, Nat.zero_le _⟩
  · rename_i h; rw [h] at h2; simp only [List.length_cons] at h2; exact ⟨hl, by show _ ≤ l.length; simp only; omega⟩
theorem cut_calls (w : World) (he : Env w) (l : List UInt8) (a : UInt8) (hl : l.length < 4294967281) :
    Calls Tryz.prog 68 #[.string ⟨l.toArray⟩, .string ⟨#[a]⟩] w fun e w' =>
      e = .returned (.tuple #[.string ⟨(sideS a l).1.toArray⟩, .string ⟨(sideS a l).2.1.toArray⟩, .bool (sideS a l).2.2]) ∧ Below w.heap.size w w' := by
  obtain ⟨m, hm⟩ := he.maxLen
  refine (Tryz.strings_Cut ⟨l.toArray⟩ ⟨#[a]⟩ m w (by simpa [ByteArray.size] using hl) hm).mono ?_
  rintro e w' ⟨rfl, n, rfl⟩
  rw [show (⟨l.toArray⟩ : ByteArray).data.toList = l from rfl, show (⟨#[a]⟩ : ByteArray).data.toList = [a] from rfl, cut_side]
  exact ⟨rfl, below_drewN (Below.refl _ _) n⟩
theorem pathS_side (u : List UInt8) : pathS u = ((sideS 63 u).1, (sideS 63 u).2.1) := by
  unfold pathS sideS
  split <;> rename_i h <;> rw [h]

/-! first -/

theorem cut1_len (a : UInt8) : ∀ (s acc : List UInt8), ∀ p ∈ cut1 a acc s, p.length ≤ acc.length + s.length := by
  intro s
  induction s with
  | nil => intro acc p hp; simp [cut1] at hp; rw [hp]; simp
  | cons c r ih =>
    intro acc p hp
    rw [cut1_cons] at hp
    split at hp
    · rcases List.mem_cons.1 hp with rfl | hp
      · simp
      · have := ih [] p hp; simp at this ⊢; omega
    · have := ih (acc ++ [c]) p hp; simp at this ⊢; omega
theorem slash_head (u : List UInt8) : Lib.hasPrefix u [47] = decide (u.head? = some 47) := by
  cases u with
  | nil => rfl
  | cons c r =>
    simp only [Lib.hasPrefix, List.isPrefixOf, Bool.and_true, List.head?_cons, Option.some.injEq]
    rw [Bool.eq_iff_iff, beq_iff_eq, decide_eq_true_eq]
    exact ⟨fun h => h.symm, fun h => h.symm⟩
theorem trimPrefix_len (v p : List UInt8) : (Lib.trimPrefix v p).length ≤ v.length := by unfold Lib.trimPrefix; split <;> simp
/-- What first answers, out of the pieces. -/
def firstP (m u v : List UInt8) : (List UInt8 × List UInt8 × List UInt8) × Int :=
  if 1 ≤ m.length ∧ m.length ≤ 16 ∧ m.all upB = true ∧ u.head? = some 47 ∧ u.all adB = true ∧ versB v = true then
    if v = [72, 84, 84, 80, 47, 49, 46, 49] then ((m, (pathS u).1, (pathS u).2), 0) else (([], [], []), 383)
  else (([], [], []), 380)
theorem firstP_no {m u v : List UInt8} (h : ¬ (1 ≤ m.length ∧ m.length ≤ 16 ∧ m.all upB = true ∧ u.head? = some 47 ∧ u.all adB = true ∧ versB v = true)) : firstP m u v = (([], [], []), 380) := by unfold firstP; rw [if_neg h]
/-- The three bytes behind HTTP/. -/
def vers3 (r : List UInt8) : Bool := match r with | [a, d, b] => dgB a && (d == 46) && dgB b | _ => false
theorem vers_prefix (v : List UInt8) : versB v = (Lib.hasPrefix v [72, 84, 84, 80, 47] && vers3 (Lib.trimPrefix v [72, 84, 84, 80, 47])) := by
  cases hp : Lib.hasPrefix v [72, 84, 84, 80, 47] with
  | false =>
    rw [Bool.false_and, Bool.eq_false_iff]
    intro h
    unfold versB at h
    split at h
    · simp [Lib.hasPrefix, List.isPrefixOf] at hp
    · cases h
  | true =>
    rw [Bool.true_and]
    unfold Lib.trimPrefix
    rw [if_pos hp]
    have hx : ∃ r, v = [72, 84, 84, 80, 47] ++ r := by
      have := List.isPrefixOf_iff_prefix.1 hp
      obtain ⟨r, hr⟩ := this
      exact ⟨r, hr.symm⟩
    obtain ⟨r, rfl⟩ := hx
    show versB (72 :: 84 :: 84 :: 80 :: 47 :: r) = vers3 r
    unfold versB vers3
    split
    · rename_i a b h
      simp only [List.cons.injEq, true_and] at h
      subst h
      simp
    · rename_i h
      split
      · rename_i a d b
        by_cases hd : d = 46
        · subst hd; exact absurd rfl (h a b)
        · simp [hd]
      · rfl

set_option maxHeartbeats 1000000 in
set_option maxRecDepth 100000 in
theorem first_calls (w : World) (he : Env w) (s : List UInt8) (hs : s.length ≤ 1000000000) :
    Calls Tryz.prog 40 #[.string ⟨s.toArray⟩] w fun e w' =>
      e = .returned (.tuple #[.agg #[.string ⟨(firstS s).1.1.toArray⟩, .string ⟨(firstS s).1.2.1.toArray⟩, .string ⟨(firstS s).1.2.2.toArray⟩, .slice none 0 0, .slice none 0 0, .bool false], .int .i64 (firstS s).2]) ∧ Below w.heap.size w w' := by
  have hbel : Below w.heap.size w (w.alloc (Obj.cells #[Value.string { data := #[] }, Value.string { data := #[] }, Value.string { data := #[] }, Value.slice none 0 0, Value.slice none 0 0, Value.bool false] 40)) := (Below.refl _ _).alloc (Nat.le_refl _) _
  have hz : ∀ i v, (#[Value.string ⟨#[]⟩, Value.string ⟨#[]⟩, Value.string ⟨#[]⟩, Value.slice none 0 0, Value.slice none 0 0, Value.bool false] : Array Value)[i]? = some v → (w.alloc (Obj.cells #[Value.string { data := #[] }, Value.string { data := #[] }, Value.string { data := #[] }, Value.slice none 0 0, Value.slice none 0 0, Value.bool false] 40)).cell? ⟨w.heap.size, i, none⟩ = some v := fun i v h => by rw [World.cell?_alloc_at _ _ _ _ rfl]; exact h
  have hzf : ∀ i, (w.alloc (Obj.cells #[Value.string { data := #[] }, Value.string { data := #[] }, Value.string { data := #[] }, Value.slice none 0 0, Value.slice none 0 0, Value.bool false] 40)).frozen? ⟨w.heap.size, i, none⟩ = false := fun i => by simp
  have hlt : w.heap.size < (w.alloc (Obj.cells #[Value.string { data := #[] }, Value.string { data := #[] }, Value.string { data := #[] }, Value.slice none 0 0, Value.slice none 0 0, Value.bool false] 40)).heap.size := by simp
  have He0 := Lib.hid he
  have He1 := Lib.hid (he.below hbel)
  have Hz := Lib.hid hz
  have Hzf := Lib.hid hzf
  clear he hz hzf
  go_enter Tryz.func40, Tryz.ntmps40
  go_wp2_with fail
  generalize w.alloc (Obj.cells #[Value.string { data := #[] }, Value.string { data := #[] }, Value.string { data := #[] }, Value.slice none 0 0, Value.slice none 0 0, Value.bool false] 40) = w1 at *
  refine wp_scope_on 0 rfl (fun _ _ _ h => h) (fun Qj hgo hret => ?_)
  have Hgo := Lib.hid hgo
  have Hret := Lib.hid hret
  clear hgo hret
  go_wp2_with fail
  refine (split_calls w1 He1.out s [32] (by omega) (by simp)).mono ?_
  rintro e w2 ⟨rfl, hw2⟩
  rw [cut1_nil_split] at hw2 ⊢
  have HF : Hid (firstS s = match cut1 32 [] s with | [m, u, v] => firstP m u v | _ => (([], [], []), 380)) := rfl
  have hpl : ∀ p ∈ cut1 32 [] s, p.length ≤ s.length := fun p hp => by have := cut1_len 32 s [] p hp; simpa using this
  generalize cut1 32 [] s = ps at *
  have hb2 : Below w1.heap.size w1 w2 := by rw [hw2]; exact (Below.refl _ _).alloc (Nat.le_refl _) _
  have HZ1 := Hz
  have Hzf1 := Hzf
  have hbel1 := hbel
  have hlt1 := hlt
  clear Hz Hzf hbel hlt
  have HZ2 : Hid (∀ i v, (#[Value.string ⟨#[]⟩, Value.string ⟨#[]⟩, Value.string ⟨#[]⟩, Value.slice none 0 0, Value.slice none 0 0, Value.bool false] : Array Value)[i]? = some v → w2.cell? ⟨w.heap.size, i, none⟩ = some v) := fun i v h => (hb2.cell (p := ⟨w.heap.size, i, none⟩) hlt1).trans (HZ1.out i v h)
  have He2 := Lib.hid (He1.out.below hb2)
  have hbel2 := hbel1.trans (hb2.mono hbel1.size)
  have Hzf2 : Hid (∀ i, w2.frozen? ⟨w.heap.size, i, none⟩ = false) := fun i => (hb2.frozen (p := ⟨w.heap.size, i, none⟩) hlt1).trans (Hzf1.out i)
  have hlt2 : w.heap.size < w2.heap.size := Nat.lt_of_lt_of_le hlt1 hb2.size
  clear HZ1 He1 Hzf1
  by_cases h3 : ps.length = 3
  ·
    obtain ⟨m, u, v, rfl⟩ : ∃ m u v, ps = [m, u, v] := by
      match ps, h3 with
      | [m, u, v], _ => exact ⟨m, u, v, rfl⟩
    clear h3
    have lm := hpl m (by simp)
    have lu := hpl u (by simp)
    have lv := hpl v (by simp)
    have HK2 : Hid (∀ i x, (#[Value.string ⟨m.toArray⟩, Value.string ⟨u.toArray⟩, Value.string ⟨v.toArray⟩] : Array Value)[i]? = some x → w2.cell? ⟨w1.heap.size, i, none⟩ = some x) := fun i x h => by rw [hw2, World.cell?_alloc_at _ _ _ _ rfl]; exact h
    have hk2 : w1.heap.size < w2.heap.size := by rw [hw2]; simp
    have HF2 : Hid (firstS s = firstP m u v) := HF.out
    clear hpl hw2 HF
    have HF := HF2
    clear HF2
    simp only [List.length_cons, List.length_nil, Nat.zero_add, Nat.reduceAdd]
    have k0 : w2.cell? ⟨w1.heap.size, 0, none⟩ = some (.string ⟨m.toArray⟩) := HK2.out 0 _ rfl
    have k1 : w2.cell? ⟨w1.heap.size, 1, none⟩ = some (.string ⟨u.toArray⟩) := HK2.out 1 _ rfl
    have k2 : w2.cell? ⟨w1.heap.size, 2, none⟩ = some (.string ⟨v.toArray⟩) := HK2.out 2 _ rfl
    by_cases hm1 : 1 ≤ m.length
    ·
      by_cases hm2 : m.length ≤ 16
      ·
        go_wp2_with fail
        refine (only_calls 64 upB tells_upper _ m (by unfold maxLen; omega)).mono ?_
        rintro e w3 ⟨rfl, hb3⟩
        clear k0 k1 k2
        have HZ3 : Hid (∀ i v, (#[Value.string ⟨#[]⟩, Value.string ⟨#[]⟩, Value.string ⟨#[]⟩, Value.slice none 0 0, Value.slice none 0 0, Value.bool false] : Array Value)[i]? = some v → w3.cell? ⟨w.heap.size, i, none⟩ = some v) := fun i v h => (hb3.cell (p := ⟨w.heap.size, i, none⟩) hlt2).trans (HZ2.out i v h)
        have He3 := Lib.hid (He2.out.below hb3)
        have hbel3 := hbel2.trans (hb3.mono hbel2.size)
        have Hzf3 : Hid (∀ i, w3.frozen? ⟨w.heap.size, i, none⟩ = false) := fun i => (hb3.frozen (p := ⟨w.heap.size, i, none⟩) hlt2).trans (Hzf2.out i)
        have hlt3 : w.heap.size < w3.heap.size := Nat.lt_of_lt_of_le hlt2 hb3.size
        clear HZ2 He2 Hzf2
        have HK3 : Hid (∀ i x, (#[Value.string ⟨m.toArray⟩, Value.string ⟨u.toArray⟩, Value.string ⟨v.toArray⟩] : Array Value)[i]? = some x → w3.cell? ⟨w1.heap.size, i, none⟩ = some x) := fun i x h => (hb3.cell (p := ⟨w1.heap.size, i, none⟩) hk2).trans (HK2.out i x h)
        have hk3 : w1.heap.size < w3.heap.size := Nat.lt_of_lt_of_le hk2 hb3.size
        clear HK2 hb3
        have k0 : w3.cell? ⟨w1.heap.size, 0, none⟩ = some (.string ⟨m.toArray⟩) := HK3.out 0 _ rfl
        have k1 : w3.cell? ⟨w1.heap.size, 1, none⟩ = some (.string ⟨u.toArray⟩) := HK3.out 1 _ rfl
        have k2 : w3.cell? ⟨w1.heap.size, 2, none⟩ = some (.string ⟨v.toArray⟩) := HK3.out 2 _ rfl
        cases hu : m.all upB with
        | false =>
          have Hu := Lib.hid hu
          clear hu
          clear HK3
          have hfx : firstS s = (([], [], []), 380) := by rw [HF.out]; exact firstP_no (fun h => by rw [Hu.out] at h; exact Bool.false_ne_true h.2.2.1)
          have HFX := Lib.hid hfx
          clear hfx
          go_wp2_with fail
          go_step3
          refine Hgo.out _ _ ?_
          have c0 : w3.cell? ⟨w.heap.size, 0, none⟩ = some (.string ⟨#[]⟩) := HZ3.out 0 _ rfl
          have c1 : w3.cell? ⟨w.heap.size, 1, none⟩ = some (.string ⟨#[]⟩) := HZ3.out 1 _ rfl
          have c2 : w3.cell? ⟨w.heap.size, 2, none⟩ = some (.string ⟨#[]⟩) := HZ3.out 2 _ rfl
          have c3 : w3.cell? ⟨w.heap.size, 3, none⟩ = some (.slice none 0 0) := HZ3.out 3 _ rfl
          have c4 : w3.cell? ⟨w.heap.size, 4, none⟩ = some (.slice none 0 0) := HZ3.out 4 _ rfl
          have c5 : w3.cell? ⟨w.heap.size, 5, none⟩ = some (.bool false) := HZ3.out 5 _ rfl
          have f0 := Hzf3.out 0
          have f1 := Hzf3.out 1
          have f2 := Hzf3.out 2
          have f3 := Hzf3.out 3
          have f4 := Hzf3.out 4
          have f5 := Hzf3.out 5
          clear HZ3 Hzf3 He3 Hgo Hret
          go_wp2_with fail
          refine bodyPost_ret (v := .tuple #[.agg #[.string ⟨#[]⟩, .string ⟨#[]⟩, .string ⟨#[]⟩, .slice none 0 0, .slice none 0 0, .bool false], .int .i64 380]) (by simp [results, Tryz.results40, go_sem, c0, c1, c2, c3, c4, c5]) rfl ?_
          rw [HFX.out]
          exact ⟨rfl, by go_grown⟩
        | true =>
          have Hu := Lib.hid hu
          clear hu
          go_wp2_with fail
          refine (same (Tryz.strings_HasPrefix ⟨u.toArray⟩ ⟨#[47]⟩ _)).mono ?_
          rintro e w4 ⟨rfl, rfl⟩
          rw [show Lib.hasPrefix (⟨u.toArray⟩ : ByteArray).data.toList (⟨#[47]⟩ : ByteArray).data.toList = decide (u.head? = some 47) from slash_head u]
          by_cases hh : u.head? = some 47
          · rw [decide_eq_true hh]
            have Hh := Lib.hid hh
            clear hh
            go_wp2_with fail
            refine (only_calls 66 adB tells_addr _ u (by unfold maxLen; omega)).mono ?_
            rintro e w4 ⟨rfl, hb4⟩
            clear k0 k1 k2
            have HZ4 : Hid (∀ i v, (#[Value.string ⟨#[]⟩, Value.string ⟨#[]⟩, Value.string ⟨#[]⟩, Value.slice none 0 0, Value.slice none 0 0, Value.bool false] : Array Value)[i]? = some v → w4.cell? ⟨w.heap.size, i, none⟩ = some v) := fun i v h => (hb4.cell (p := ⟨w.heap.size, i, none⟩) hlt3).trans (HZ3.out i v h)
            have He4 := Lib.hid (He3.out.below hb4)
            have hbel4 := hbel3.trans (hb4.mono hbel3.size)
            have Hzf4 : Hid (∀ i, w4.frozen? ⟨w.heap.size, i, none⟩ = false) := fun i => (hb4.frozen (p := ⟨w.heap.size, i, none⟩) hlt3).trans (Hzf3.out i)
            have hlt4 : w.heap.size < w4.heap.size := Nat.lt_of_lt_of_le hlt3 hb4.size
            clear HZ3 He3 Hzf3
            have HK4 : Hid (∀ i x, (#[Value.string ⟨m.toArray⟩, Value.string ⟨u.toArray⟩, Value.string ⟨v.toArray⟩] : Array Value)[i]? = some x → w4.cell? ⟨w1.heap.size, i, none⟩ = some x) := fun i x h => (hb4.cell (p := ⟨w1.heap.size, i, none⟩) hk3).trans (HK3.out i x h)
            have hk4 : w1.heap.size < w4.heap.size := Nat.lt_of_lt_of_le hk3 hb4.size
            clear HK3 hb4
            have k0 : w4.cell? ⟨w1.heap.size, 0, none⟩ = some (.string ⟨m.toArray⟩) := HK4.out 0 _ rfl
            have k1 : w4.cell? ⟨w1.heap.size, 1, none⟩ = some (.string ⟨u.toArray⟩) := HK4.out 1 _ rfl
            have k2 : w4.cell? ⟨w1.heap.size, 2, none⟩ = some (.string ⟨v.toArray⟩) := HK4.out 2 _ rfl
            cases ha : u.all adB with
            | false =>
              have Ha := Lib.hid ha
              clear ha
              clear HK4
              have hfx : firstS s = (([], [], []), 380) := by rw [HF.out]; exact firstP_no (fun h => by rw [Ha.out] at h; exact Bool.false_ne_true h.2.2.2.2.1)
              have HFX := Lib.hid hfx
              clear hfx
              go_wp2_with fail
              go_step3
              refine Hgo.out _ _ ?_
              have c0 : w4.cell? ⟨w.heap.size, 0, none⟩ = some (.string ⟨#[]⟩) := HZ4.out 0 _ rfl
              have c1 : w4.cell? ⟨w.heap.size, 1, none⟩ = some (.string ⟨#[]⟩) := HZ4.out 1 _ rfl
              have c2 : w4.cell? ⟨w.heap.size, 2, none⟩ = some (.string ⟨#[]⟩) := HZ4.out 2 _ rfl
              have c3 : w4.cell? ⟨w.heap.size, 3, none⟩ = some (.slice none 0 0) := HZ4.out 3 _ rfl
              have c4 : w4.cell? ⟨w.heap.size, 4, none⟩ = some (.slice none 0 0) := HZ4.out 4 _ rfl
              have c5 : w4.cell? ⟨w.heap.size, 5, none⟩ = some (.bool false) := HZ4.out 5 _ rfl
              have f0 := Hzf4.out 0
              have f1 := Hzf4.out 1
              have f2 := Hzf4.out 2
              have f3 := Hzf4.out 3
              have f4 := Hzf4.out 4
              have f5 := Hzf4.out 5
              clear HZ4 Hzf4 He4 Hgo Hret
              go_wp2_with fail
              refine bodyPost_ret (v := .tuple #[.agg #[.string ⟨#[]⟩, .string ⟨#[]⟩, .string ⟨#[]⟩, .slice none 0 0, .slice none 0 0, .bool false], .int .i64 380]) (by simp [results, Tryz.results40, go_sem, c0, c1, c2, c3, c4, c5]) rfl ?_
              rw [HFX.out]
              exact ⟨rfl, by go_grown⟩
            | true =>
              have Ha := Lib.hid ha
              clear ha
              go_wp2_with fail
              refine (same (Tryz.strings_CutPrefix ⟨v.toArray⟩ ⟨#[72, 84, 84, 80, 47]⟩ _)).mono ?_
              rintro e w5 ⟨rfl, rfl⟩
              rw [show (⟨v.toArray⟩ : ByteArray).data.toList = v from rfl, show (⟨#[72, 84, 84, 80, 47]⟩ : ByteArray).data.toList = [72, 84, 84, 80, 47] from rfl]
              have HV : Hid (versB v = (Lib.hasPrefix v [72, 84, 84, 80, 47] && vers3 (Lib.trimPrefix v [72, 84, 84, 80, 47]))) := vers_prefix v
              have lr := trimPrefix_len v [72, 84, 84, 80, 47]
              generalize Lib.trimPrefix v [72, 84, 84, 80, 47] = r at *
              cases hp : Lib.hasPrefix v [72, 84, 84, 80, 47] with
              | false =>
                have HV2 : Hid (versB v = false) := by show versB v = false; rw [HV.out, hp]; rfl
                clear HV hp
                clear HK4
                have hfx : firstS s = (([], [], []), 380) := by rw [HF.out]; exact firstP_no (fun h => by rw [HV2.out] at h; exact Bool.false_ne_true h.2.2.2.2.2)
                have HFX := Lib.hid hfx
                clear hfx
                go_wp2_with fail
                go_step3
                refine Hgo.out _ _ ?_
                have c0 : w4.cell? ⟨w.heap.size, 0, none⟩ = some (.string ⟨#[]⟩) := HZ4.out 0 _ rfl
                have c1 : w4.cell? ⟨w.heap.size, 1, none⟩ = some (.string ⟨#[]⟩) := HZ4.out 1 _ rfl
                have c2 : w4.cell? ⟨w.heap.size, 2, none⟩ = some (.string ⟨#[]⟩) := HZ4.out 2 _ rfl
                have c3 : w4.cell? ⟨w.heap.size, 3, none⟩ = some (.slice none 0 0) := HZ4.out 3 _ rfl
                have c4 : w4.cell? ⟨w.heap.size, 4, none⟩ = some (.slice none 0 0) := HZ4.out 4 _ rfl
                have c5 : w4.cell? ⟨w.heap.size, 5, none⟩ = some (.bool false) := HZ4.out 5 _ rfl
                have f0 := Hzf4.out 0
                have f1 := Hzf4.out 1
                have f2 := Hzf4.out 2
                have f3 := Hzf4.out 3
                have f4 := Hzf4.out 4
                have f5 := Hzf4.out 5
                clear HZ4 Hzf4 He4 Hgo Hret
                go_wp2_with fail
                refine bodyPost_ret (v := .tuple #[.agg #[.string ⟨#[]⟩, .string ⟨#[]⟩, .string ⟨#[]⟩, .slice none 0 0, .slice none 0 0, .bool false], .int .i64 380]) (by simp [results, Tryz.results40, go_sem, c0, c1, c2, c3, c4, c5]) rfl ?_
                rw [HFX.out]
                exact ⟨rfl, by go_grown⟩
              | true =>
                have HV2 : Hid (versB v = vers3 r) := by show versB v = _; rw [HV.out, hp]; rfl
                clear HV hp
                by_cases hr3 : r.length = 3
                ·
                  obtain ⟨a, d, b, rfl⟩ : ∃ a d b, r = [a, d, b] := by
                    match r, hr3 with
                    | [a, d, b], _ => exact ⟨a, d, b, rfl⟩
                  clear hr3
                  have HV : Hid (versB v = (dgB a && (d == 46) && dgB b)) := HV2.out
                  clear HV2
                  have x0 := byte_at [a, d, b] 0 (by simp)
                  have x1 := byte_at [a, d, b] 1 (by simp)
                  have x2 := byte_at [a, d, b] 2 (by simp)
                  simp only [List.getD_cons_zero, List.getD_cons_succ] at x0 x1 x2
                  go_wp2_with fail
                  refine (digit_calls _ a).mono ?_
                  rintro e w5 ⟨rfl, rfl⟩
                  cases hda : dgB a with
                  | false =>
                    have HV2 : Hid (versB v = false) := by show versB v = false; rw [HV.out, hda]; rfl
                    clear HV hda x0 x1 x2
                    clear HK4
                    have hfx : firstS s = (([], [], []), 380) := by rw [HF.out]; exact firstP_no (fun h => by rw [HV2.out] at h; exact Bool.false_ne_true h.2.2.2.2.2)
                    have HFX := Lib.hid hfx
                    clear hfx
                    go_wp2_with fail
                    go_step3
                    refine Hgo.out _ _ ?_
                    have c0 : w4.cell? ⟨w.heap.size, 0, none⟩ = some (.string ⟨#[]⟩) := HZ4.out 0 _ rfl
                    have c1 : w4.cell? ⟨w.heap.size, 1, none⟩ = some (.string ⟨#[]⟩) := HZ4.out 1 _ rfl
                    have c2 : w4.cell? ⟨w.heap.size, 2, none⟩ = some (.string ⟨#[]⟩) := HZ4.out 2 _ rfl
                    have c3 : w4.cell? ⟨w.heap.size, 3, none⟩ = some (.slice none 0 0) := HZ4.out 3 _ rfl
                    have c4 : w4.cell? ⟨w.heap.size, 4, none⟩ = some (.slice none 0 0) := HZ4.out 4 _ rfl
                    have c5 : w4.cell? ⟨w.heap.size, 5, none⟩ = some (.bool false) := HZ4.out 5 _ rfl
                    have f0 := Hzf4.out 0
                    have f1 := Hzf4.out 1
                    have f2 := Hzf4.out 2
                    have f3 := Hzf4.out 3
                    have f4 := Hzf4.out 4
                    have f5 := Hzf4.out 5
                    clear HZ4 Hzf4 He4 Hgo Hret
                    go_wp2_with fail
                    refine bodyPost_ret (v := .tuple #[.agg #[.string ⟨#[]⟩, .string ⟨#[]⟩, .string ⟨#[]⟩, .slice none 0 0, .slice none 0 0, .bool false], .int .i64 380]) (by simp [results, Tryz.results40, go_sem, c0, c1, c2, c3, c4, c5]) rfl ?_
                    rw [HFX.out]
                    exact ⟨rfl, by go_grown⟩
                  | true =>
                    by_cases hd : d = 46
                    · subst hd
                      have HVb : Hid (versB v = dgB b) := by show versB v = _; rw [HV.out, hda]; rfl
                      clear HV hda
                      go_wp2_with fail
                      refine (digit_calls _ b).mono ?_
                      rintro e w5 ⟨rfl, rfl⟩
                      cases hdb : dgB b with
                      | false =>
                        have HV2 : Hid (versB v = false) := by show versB v = false; rw [HVb.out, hdb]
                        clear HVb hdb x0 x1 x2
                        clear HK4
                        have hfx : firstS s = (([], [], []), 380) := by rw [HF.out]; exact firstP_no (fun h => by rw [HV2.out] at h; exact Bool.false_ne_true h.2.2.2.2.2)
                        have HFX := Lib.hid hfx
                        clear hfx
                        go_wp2_with fail
                        go_step3
                        refine Hgo.out _ _ ?_
                        have c0 : w4.cell? ⟨w.heap.size, 0, none⟩ = some (.string ⟨#[]⟩) := HZ4.out 0 _ rfl
                        have c1 : w4.cell? ⟨w.heap.size, 1, none⟩ = some (.string ⟨#[]⟩) := HZ4.out 1 _ rfl
                        have c2 : w4.cell? ⟨w.heap.size, 2, none⟩ = some (.string ⟨#[]⟩) := HZ4.out 2 _ rfl
                        have c3 : w4.cell? ⟨w.heap.size, 3, none⟩ = some (.slice none 0 0) := HZ4.out 3 _ rfl
                        have c4 : w4.cell? ⟨w.heap.size, 4, none⟩ = some (.slice none 0 0) := HZ4.out 4 _ rfl
                        have c5 : w4.cell? ⟨w.heap.size, 5, none⟩ = some (.bool false) := HZ4.out 5 _ rfl
                        have f0 := Hzf4.out 0
                        have f1 := Hzf4.out 1
                        have f2 := Hzf4.out 2
                        have f3 := Hzf4.out 3
                        have f4 := Hzf4.out 4
                        have f5 := Hzf4.out 5
                        clear HZ4 Hzf4 He4 Hgo Hret
                        go_wp2_with fail
                        refine bodyPost_ret (v := .tuple #[.agg #[.string ⟨#[]⟩, .string ⟨#[]⟩, .string ⟨#[]⟩, .slice none 0 0, .slice none 0 0, .bool false], .int .i64 380]) (by simp [results, Tryz.results40, go_sem, c0, c1, c2, c3, c4, c5]) rfl ?_
                        rw [HFX.out]
                        exact ⟨rfl, by go_grown⟩
                      | true =>
                        have HV2 : Hid (versB v = true) := by show versB v = true; rw [HVb.out, hdb]
                        clear HVb hdb x0 x1 x2
                        have HFv : Hid (firstS s = if v = [72, 84, 84, 80, 47, 49, 46, 49] then ((m, (pathS u).1, (pathS u).2), 0) else (([], [], []), 383)) := by
                          show firstS s = _
                          rw [HF.out]
                          unfold firstP
                          rw [if_pos ⟨hm1, hm2, Hu.out, Hh.out, Ha.out, HV2.out⟩]
                        clear HF HV2 Hu Hh Ha
                        by_cases hv : v = [72, 84, 84, 80, 47, 49, 46, 49]
                        · subst hv
                          have HF : Hid (firstS s = ((m, (pathS u).1, (pathS u).2), 0)) := by show firstS s = _; rw [HFv.out, if_pos rfl]
                          clear HFv
                          have c0 : w4.cell? ⟨w.heap.size, 0, none⟩ = some (.string ⟨#[]⟩) := HZ4.out 0 _ rfl
                          have c1 : w4.cell? ⟨w.heap.size, 1, none⟩ = some (.string ⟨#[]⟩) := HZ4.out 1 _ rfl
                          have c2 : w4.cell? ⟨w.heap.size, 2, none⟩ = some (.string ⟨#[]⟩) := HZ4.out 2 _ rfl
                          have c3 : w4.cell? ⟨w.heap.size, 3, none⟩ = some (.slice none 0 0) := HZ4.out 3 _ rfl
                          have c4 : w4.cell? ⟨w.heap.size, 4, none⟩ = some (.slice none 0 0) := HZ4.out 4 _ rfl
                          have c5 : w4.cell? ⟨w.heap.size, 5, none⟩ = some (.bool false) := HZ4.out 5 _ rfl
                          have f0 := Hzf4.out 0
                          have f1 := Hzf4.out 1
                          have f2 := Hzf4.out 2
                          have f3 := Hzf4.out 3
                          have f4 := Hzf4.out 4
                          have f5 := Hzf4.out 5
                          go_wp2_with fail
                          clear c0 c1 c2 c3 c4 c5 f0 f1 f2 f3 f4 f5 k0 k1 k2
                          have HZ5 : Hid (∀ i v, (#[Value.string ⟨m.toArray⟩, Value.string ⟨#[]⟩, Value.string ⟨#[]⟩, Value.slice none 0 0, Value.slice none 0 0, Value.bool false] : Array Value)[i]? = some v → (w4.setCell ⟨w.heap.size, 0, none⟩ (.string ⟨m.toArray⟩)).cell? ⟨w.heap.size, i, none⟩ = some v) := by
                            intro i v h
                            cases i with
                            | zero => simp at h; subst h; rw [World.cell?_setCell_same _ _ _ (HZ4.out 0 _ rfl)]
                            | succ i => rw [World.cell?_setCell_other _ _ _ _ (fun e => by injection e with _ e; omega)]; exact HZ4.out (i + 1) v h
                          have Hzf5 : Hid (∀ i, (w4.setCell ⟨w.heap.size, 0, none⟩ (.string ⟨m.toArray⟩)).frozen? ⟨w.heap.size, i, none⟩ = false) := fun i => by rw [World.frozen?_setCell]; exact Hzf4.out i
                          have hbel5 : Below w.heap.size w (w4.setCell ⟨w.heap.size, 0, none⟩ (.string ⟨m.toArray⟩)) := hbel4.setCell (Nat.le_refl _) _
                          have hlt5 : w.heap.size < (w4.setCell ⟨w.heap.size, 0, none⟩ (.string ⟨m.toArray⟩)).heap.size := by simpa using hlt4
                          have He5 := Lib.hid (He0.out.below hbel5)
                          clear HZ4 Hzf4 He4 HK4 hk4 hbel4 hlt4
                          generalize (w4.setCell ⟨w.heap.size, 0, none⟩ (.string ⟨m.toArray⟩)) = w5 at *
                          refine (cut_calls w5 He5.out u 63 (by omega)).mono ?_
                          rintro e w6 ⟨rfl, hb6⟩
                          have HPq := Lib.hid (pathS_side u)
                          generalize sideS 63 u = sd at *
                          obtain ⟨sp, sq, sb⟩ := sd
                          dsimp only
                          have HZ6 : Hid (∀ i v, (#[Value.string ⟨m.toArray⟩, Value.string ⟨#[]⟩, Value.string ⟨#[]⟩, Value.slice none 0 0, Value.slice none 0 0, Value.bool false] : Array Value)[i]? = some v → w6.cell? ⟨w.heap.size, i, none⟩ = some v) := fun i v h => (hb6.cell (p := ⟨w.heap.size, i, none⟩) hlt5).trans (HZ5.out i v h)
                          have hbel6 := hbel5.trans (hb6.mono hbel5.size)
                          have Hzf6 : Hid (∀ i, w6.frozen? ⟨w.heap.size, i, none⟩ = false) := fun i => (hb6.frozen (p := ⟨w.heap.size, i, none⟩) hlt5).trans (Hzf5.out i)
                          have hlt6 : w.heap.size < w6.heap.size := Nat.lt_of_lt_of_le hlt5 hb6.size
                          have c0 : w6.cell? ⟨w.heap.size, 0, none⟩ = some (.string ⟨m.toArray⟩) := HZ6.out 0 _ rfl
                          have c1 : w6.cell? ⟨w.heap.size, 1, none⟩ = some (.string ⟨#[]⟩) := HZ6.out 1 _ rfl
                          have c2 : w6.cell? ⟨w.heap.size, 2, none⟩ = some (.string ⟨#[]⟩) := HZ6.out 2 _ rfl
                          have c3 : w6.cell? ⟨w.heap.size, 3, none⟩ = some (.slice none 0 0) := HZ6.out 3 _ rfl
                          have c4 : w6.cell? ⟨w.heap.size, 4, none⟩ = some (.slice none 0 0) := HZ6.out 4 _ rfl
                          have c5 : w6.cell? ⟨w.heap.size, 5, none⟩ = some (.bool false) := HZ6.out 5 _ rfl
                          have f0 := Hzf6.out 0
                          have f1 := Hzf6.out 1
                          have f2 := Hzf6.out 2
                          have f3 := Hzf6.out 3
                          have f4 := Hzf6.out 4
                          have f5 := Hzf6.out 5
                          have hR : RowAt ((((((((w6.setCell ⟨w.heap.size, 1, none⟩ (.string ⟨sp.toArray⟩)).setCell ⟨w.heap.size, 2, none⟩ (.string ⟨sq.toArray⟩)).setCell ⟨w.heap.size, 0, none⟩ (.string ⟨m.toArray⟩)).setCell ⟨w.heap.size, 1, none⟩ (.string ⟨sp.toArray⟩)).setCell ⟨w.heap.size, 2, none⟩ (.string ⟨sq.toArray⟩)).setCell ⟨w.heap.size, 3, none⟩ (.slice none 0 0)).setCell ⟨w.heap.size, 4, none⟩ (.slice none 0 0)).setCell ⟨w.heap.size, 5, none⟩ (.bool false)) w.heap.size [.string ⟨m.toArray⟩, .string ⟨sp.toArray⟩, .string ⟨sq.toArray⟩, .slice none 0 0, .slice none 0 0, .bool false] := (((((((((⟨fun i v h => HZ6.out i v (by simpa using h), Hzf6.out, hlt6⟩ : RowAt w6 w.heap.size [.string ⟨m.toArray⟩, .string ⟨#[]⟩, .string ⟨#[]⟩, .slice none 0 0, .slice none 0 0, .bool false]).set 1 (.string ⟨sp.toArray⟩) (by simp)).set 2 (.string ⟨sq.toArray⟩) (by simp)).set 0 (.string ⟨m.toArray⟩) (by simp)).set 1 (.string ⟨sp.toArray⟩) (by simp)).set 2 (.string ⟨sq.toArray⟩) (by simp)).set 3 (.slice none 0 0) (by simp)).set 4 (.slice none 0 0) (by simp)).set 5 (.bool false) (by simp))
                          have d0 := hR.cell 0 _ rfl
                          have d1 := hR.cell 1 _ rfl
                          have d2 := hR.cell 2 _ rfl
                          have d3 := hR.cell 3 _ rfl
                          have d4 := hR.cell 4 _ rfl
                          have d5 := hR.cell 5 _ rfl
                          have HD := Lib.hid (⟨d0, d1, d2, d3, d4, d5⟩ : _ ∧ _ ∧ _ ∧ _ ∧ _ ∧ _)
                          clear hR d0 d1 d2 d3 d4 d5
                          clear HZ5 Hzf5 He5 hb6 hbel5 hlt5 HZ6 Hzf6 Hgo
                          go_wp2_with fail
                          refine Hret.out _ _ ?_
                          obtain ⟨d0, d1, d2, d3, d4, d5⟩ := HD.out
                          refine bodyPost_ret (v := .tuple #[.agg #[.string ⟨m.toArray⟩, .string ⟨sp.toArray⟩, .string ⟨sq.toArray⟩, .slice none 0 0, .slice none 0 0, .bool false], .int .i64 0]) (by simp only [results, Tryz.results40]; simp [go_sem, d0, d1, d2, d3, d4, d5]) rfl ?_
                          rw [HF.out, HPq.out]
                          exact ⟨rfl, by go_grown⟩
                        ·
                          have HF : Hid (firstS s = (([], [], []), 383)) := by show firstS s = _; rw [HFv.out, if_neg hv]
                          have hv2 : (v == [72, 84, 84, 80, 47, 49, 46, 49]) = false := by rw [beq_eq_false_iff_ne]; exact hv
                          clear HFv hv
                          have c0 : w4.cell? ⟨w.heap.size, 0, none⟩ = some (.string ⟨#[]⟩) := HZ4.out 0 _ rfl
                          have c1 : w4.cell? ⟨w.heap.size, 1, none⟩ = some (.string ⟨#[]⟩) := HZ4.out 1 _ rfl
                          have c2 : w4.cell? ⟨w.heap.size, 2, none⟩ = some (.string ⟨#[]⟩) := HZ4.out 2 _ rfl
                          have c3 : w4.cell? ⟨w.heap.size, 3, none⟩ = some (.slice none 0 0) := HZ4.out 3 _ rfl
                          have c4 : w4.cell? ⟨w.heap.size, 4, none⟩ = some (.slice none 0 0) := HZ4.out 4 _ rfl
                          have c5 : w4.cell? ⟨w.heap.size, 5, none⟩ = some (.bool false) := HZ4.out 5 _ rfl
                          have f0 := Hzf4.out 0
                          have f1 := Hzf4.out 1
                          have f2 := Hzf4.out 2
                          have f3 := Hzf4.out 3
                          have f4 := Hzf4.out 4
                          have f5 := Hzf4.out 5
                          clear HZ4 Hzf4 He4 HK4 Hgo
                          go_wp2_with fail
                          refine Hret.out _ _ ?_
                          refine bodyPost_ret (v := .tuple #[.agg #[.string ⟨#[]⟩, .string ⟨#[]⟩, .string ⟨#[]⟩, .slice none 0 0, .slice none 0 0, .bool false], .int .i64 383]) (by simp [results, Tryz.results40, go_sem, c0, c1, c2, c3, c4, c5]) rfl ?_
                          rw [HF.out]
                          exact ⟨rfl, by go_grown⟩
                    ·
                      have hdn : ((d.toNat : Int) == 46) = false := by
                        rw [beq_eq_false_iff_ne]
                        intro h
                        exact hd (UInt8.toNat_inj.1 (by simpa using (by omega : d.toNat = 46)))
                      have hdn2 : ((d.toNat : Int) != 46) = true := by rw [bne, hdn]; rfl
                      have HV2 : Hid (versB v = false) := by show versB v = false; rw [HV.out, hda]; simp [hd]
                      clear HV hda hd x0 x2
                      clear HK4
                      have hfx : firstS s = (([], [], []), 380) := by rw [HF.out]; exact firstP_no (fun h => by rw [HV2.out] at h; exact Bool.false_ne_true h.2.2.2.2.2)
                      have HFX := Lib.hid hfx
                      clear hfx
                      go_wp2_with fail
                      go_step3
                      refine Hgo.out _ _ ?_
                      have c0 : w4.cell? ⟨w.heap.size, 0, none⟩ = some (.string ⟨#[]⟩) := HZ4.out 0 _ rfl
                      have c1 : w4.cell? ⟨w.heap.size, 1, none⟩ = some (.string ⟨#[]⟩) := HZ4.out 1 _ rfl
                      have c2 : w4.cell? ⟨w.heap.size, 2, none⟩ = some (.string ⟨#[]⟩) := HZ4.out 2 _ rfl
                      have c3 : w4.cell? ⟨w.heap.size, 3, none⟩ = some (.slice none 0 0) := HZ4.out 3 _ rfl
                      have c4 : w4.cell? ⟨w.heap.size, 4, none⟩ = some (.slice none 0 0) := HZ4.out 4 _ rfl
                      have c5 : w4.cell? ⟨w.heap.size, 5, none⟩ = some (.bool false) := HZ4.out 5 _ rfl
                      have f0 := Hzf4.out 0
                      have f1 := Hzf4.out 1
                      have f2 := Hzf4.out 2
                      have f3 := Hzf4.out 3
                      have f4 := Hzf4.out 4
                      have f5 := Hzf4.out 5
                      clear HZ4 Hzf4 He4 Hgo Hret
                      go_wp2_with fail
                      refine bodyPost_ret (v := .tuple #[.agg #[.string ⟨#[]⟩, .string ⟨#[]⟩, .string ⟨#[]⟩, .slice none 0 0, .slice none 0 0, .bool false], .int .i64 380]) (by simp [results, Tryz.results40, go_sem, c0, c1, c2, c3, c4, c5]) rfl ?_
                      rw [HFX.out]
                      exact ⟨rfl, by go_grown⟩
                ·
                  have HV : Hid (versB v = false) := by
                    show versB v = false
                    rw [HV2.out]
                    unfold vers3
                    split
                    · exact absurd rfl hr3
                    · rfl
                  clear HV2
                  have hr3i : ¬ (r.length : Int) = 3 := by omega
                  clear hr3
                  clear HK4
                  have hfx : firstS s = (([], [], []), 380) := by rw [HF.out]; exact firstP_no (fun h => by rw [HV.out] at h; exact Bool.false_ne_true h.2.2.2.2.2)
                  have HFX := Lib.hid hfx
                  clear hfx
                  go_wp2_with fail
                  go_step3
                  refine Hgo.out _ _ ?_
                  have c0 : w4.cell? ⟨w.heap.size, 0, none⟩ = some (.string ⟨#[]⟩) := HZ4.out 0 _ rfl
                  have c1 : w4.cell? ⟨w.heap.size, 1, none⟩ = some (.string ⟨#[]⟩) := HZ4.out 1 _ rfl
                  have c2 : w4.cell? ⟨w.heap.size, 2, none⟩ = some (.string ⟨#[]⟩) := HZ4.out 2 _ rfl
                  have c3 : w4.cell? ⟨w.heap.size, 3, none⟩ = some (.slice none 0 0) := HZ4.out 3 _ rfl
                  have c4 : w4.cell? ⟨w.heap.size, 4, none⟩ = some (.slice none 0 0) := HZ4.out 4 _ rfl
                  have c5 : w4.cell? ⟨w.heap.size, 5, none⟩ = some (.bool false) := HZ4.out 5 _ rfl
                  have f0 := Hzf4.out 0
                  have f1 := Hzf4.out 1
                  have f2 := Hzf4.out 2
                  have f3 := Hzf4.out 3
                  have f4 := Hzf4.out 4
                  have f5 := Hzf4.out 5
                  clear HZ4 Hzf4 He4 Hgo Hret
                  go_wp2_with fail
                  refine bodyPost_ret (v := .tuple #[.agg #[.string ⟨#[]⟩, .string ⟨#[]⟩, .string ⟨#[]⟩, .slice none 0 0, .slice none 0 0, .bool false], .int .i64 380]) (by simp [results, Tryz.results40, go_sem, c0, c1, c2, c3, c4, c5]) rfl ?_
                  rw [HFX.out]
                  exact ⟨rfl, by go_grown⟩
          · rw [decide_eq_false hh]
            clear HK3
            have hfx : firstS s = (([], [], []), 380) := by rw [HF.out]; exact firstP_no (fun h => hh h.2.2.2.1)
            have HFX := Lib.hid hfx
            clear hfx
            go_wp2_with fail
            go_step3
            refine Hgo.out _ _ ?_
            have c0 : w3.cell? ⟨w.heap.size, 0, none⟩ = some (.string ⟨#[]⟩) := HZ3.out 0 _ rfl
            have c1 : w3.cell? ⟨w.heap.size, 1, none⟩ = some (.string ⟨#[]⟩) := HZ3.out 1 _ rfl
            have c2 : w3.cell? ⟨w.heap.size, 2, none⟩ = some (.string ⟨#[]⟩) := HZ3.out 2 _ rfl
            have c3 : w3.cell? ⟨w.heap.size, 3, none⟩ = some (.slice none 0 0) := HZ3.out 3 _ rfl
            have c4 : w3.cell? ⟨w.heap.size, 4, none⟩ = some (.slice none 0 0) := HZ3.out 4 _ rfl
            have c5 : w3.cell? ⟨w.heap.size, 5, none⟩ = some (.bool false) := HZ3.out 5 _ rfl
            have f0 := Hzf3.out 0
            have f1 := Hzf3.out 1
            have f2 := Hzf3.out 2
            have f3 := Hzf3.out 3
            have f4 := Hzf3.out 4
            have f5 := Hzf3.out 5
            clear HZ3 Hzf3 He3 Hgo Hret
            go_wp2_with fail
            refine bodyPost_ret (v := .tuple #[.agg #[.string ⟨#[]⟩, .string ⟨#[]⟩, .string ⟨#[]⟩, .slice none 0 0, .slice none 0 0, .bool false], .int .i64 380]) (by simp [results, Tryz.results40, go_sem, c0, c1, c2, c3, c4, c5]) rfl ?_
            rw [HFX.out]
            exact ⟨rfl, by go_grown⟩
      ·
        clear HK2
        have hfx : firstS s = (([], [], []), 380) := by rw [HF.out]; exact firstP_no (fun h => hm2 h.2.1)
        have HFX := Lib.hid hfx
        clear hfx
        go_wp2_with fail
        go_step3
        refine Hgo.out _ _ ?_
        have c0 : w2.cell? ⟨w.heap.size, 0, none⟩ = some (.string ⟨#[]⟩) := HZ2.out 0 _ rfl
        have c1 : w2.cell? ⟨w.heap.size, 1, none⟩ = some (.string ⟨#[]⟩) := HZ2.out 1 _ rfl
        have c2 : w2.cell? ⟨w.heap.size, 2, none⟩ = some (.string ⟨#[]⟩) := HZ2.out 2 _ rfl
        have c3 : w2.cell? ⟨w.heap.size, 3, none⟩ = some (.slice none 0 0) := HZ2.out 3 _ rfl
        have c4 : w2.cell? ⟨w.heap.size, 4, none⟩ = some (.slice none 0 0) := HZ2.out 4 _ rfl
        have c5 : w2.cell? ⟨w.heap.size, 5, none⟩ = some (.bool false) := HZ2.out 5 _ rfl
        have f0 := Hzf2.out 0
        have f1 := Hzf2.out 1
        have f2 := Hzf2.out 2
        have f3 := Hzf2.out 3
        have f4 := Hzf2.out 4
        have f5 := Hzf2.out 5
        clear HZ2 Hzf2 He2 Hgo Hret
        go_wp2_with fail
        refine bodyPost_ret (v := .tuple #[.agg #[.string ⟨#[]⟩, .string ⟨#[]⟩, .string ⟨#[]⟩, .slice none 0 0, .slice none 0 0, .bool false], .int .i64 380]) (by simp [results, Tryz.results40, go_sem, c0, c1, c2, c3, c4, c5]) rfl ?_
        rw [HFX.out]
        exact ⟨rfl, by go_grown⟩
    ·
      clear HK2
      have hfx : firstS s = (([], [], []), 380) := by rw [HF.out]; exact firstP_no (fun h => hm1 h.1)
      have HFX := Lib.hid hfx
      clear hfx
      go_wp2_with fail
      go_step3
      refine Hgo.out _ _ ?_
      have c0 : w2.cell? ⟨w.heap.size, 0, none⟩ = some (.string ⟨#[]⟩) := HZ2.out 0 _ rfl
      have c1 : w2.cell? ⟨w.heap.size, 1, none⟩ = some (.string ⟨#[]⟩) := HZ2.out 1 _ rfl
      have c2 : w2.cell? ⟨w.heap.size, 2, none⟩ = some (.string ⟨#[]⟩) := HZ2.out 2 _ rfl
      have c3 : w2.cell? ⟨w.heap.size, 3, none⟩ = some (.slice none 0 0) := HZ2.out 3 _ rfl
      have c4 : w2.cell? ⟨w.heap.size, 4, none⟩ = some (.slice none 0 0) := HZ2.out 4 _ rfl
      have c5 : w2.cell? ⟨w.heap.size, 5, none⟩ = some (.bool false) := HZ2.out 5 _ rfl
      have f0 := Hzf2.out 0
      have f1 := Hzf2.out 1
      have f2 := Hzf2.out 2
      have f3 := Hzf2.out 3
      have f4 := Hzf2.out 4
      have f5 := Hzf2.out 5
      clear HZ2 Hzf2 He2 Hgo Hret
      go_wp2_with fail
      refine bodyPost_ret (v := .tuple #[.agg #[.string ⟨#[]⟩, .string ⟨#[]⟩, .string ⟨#[]⟩, .slice none 0 0, .slice none 0 0, .bool false], .int .i64 380]) (by simp [results, Tryz.results40, go_sem, c0, c1, c2, c3, c4, c5]) rfl ?_
      rw [HFX.out]
      exact ⟨rfl, by go_grown⟩
  · have h3i : ¬ (ps.length : Int) = 3 := by omega
    have hF : firstS s = (([], [], []), 380) := by
      rw [HF.out]
      split
      · exact absurd rfl h3
      · rfl
    clear HF h3 hw2 hpl
    have hfx : firstS s = (([], [], []), 380) := hF
    have HFX := Lib.hid hfx
    clear hfx
    go_wp2_with fail
    go_step3
    refine Hgo.out _ _ ?_
    have c0 : w2.cell? ⟨w.heap.size, 0, none⟩ = some (.string ⟨#[]⟩) := HZ2.out 0 _ rfl
    have c1 : w2.cell? ⟨w.heap.size, 1, none⟩ = some (.string ⟨#[]⟩) := HZ2.out 1 _ rfl
    have c2 : w2.cell? ⟨w.heap.size, 2, none⟩ = some (.string ⟨#[]⟩) := HZ2.out 2 _ rfl
    have c3 : w2.cell? ⟨w.heap.size, 3, none⟩ = some (.slice none 0 0) := HZ2.out 3 _ rfl
    have c4 : w2.cell? ⟨w.heap.size, 4, none⟩ = some (.slice none 0 0) := HZ2.out 4 _ rfl
    have c5 : w2.cell? ⟨w.heap.size, 5, none⟩ = some (.bool false) := HZ2.out 5 _ rfl
    have f0 := Hzf2.out 0
    have f1 := Hzf2.out 1
    have f2 := Hzf2.out 2
    have f3 := Hzf2.out 3
    have f4 := Hzf2.out 4
    have f5 := Hzf2.out 5
    clear HZ2 Hzf2 He2 Hgo Hret
    go_wp2_with fail
    refine bodyPost_ret (v := .tuple #[.agg #[.string ⟨#[]⟩, .string ⟨#[]⟩, .string ⟨#[]⟩, .slice none 0 0, .slice none 0 0, .bool false], .int .i64 380]) (by simp [results, Tryz.results40, go_sem, c0, c1, c2, c3, c4, c5]) rfl ?_
    rw [HFX.out]
    exact ⟨rfl, by go_grown⟩
end Go.Proofs.YtgdfgppgfkkncaaGreatDoor
