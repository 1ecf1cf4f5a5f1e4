/- Texts of this claim, joined: Jp6, Jmp, Lex. -/
import Derived.Test.YtfclfaidmipjpaaGreatDoorCo21
namespace Go.Proofs.YtfclfaidmipjpaaGreatDoor
set_option maxRecDepth 100000
set_option maxHeartbeats 20000000
open Go.Lib (hid)
open Go.RowKit
def ScaP (w : World) (l : List UInt8) (e : Ending) (w' : World) : Prop :=
 Below w.heap.size w w' ∧ ∃ n : Nat, e = .returned (.int .i64 (n : Int)) ∧ ((n = 0 ∧ scS l = none) ∨ (0 < n ∧ n ≤ l.length ∧ scS l = some (l.drop n)))
theorem pre_take (l p : List UInt8) : Lib.hasPrefix l p = (l.take p.length == p) := by
 rw [← Lib.hasPrefix_of_take]
 cases h : (l.take p.length == p) with
 | false => rw [Bool.and_false]
 | true =>
  have h1 := congrArg List.length (beq_iff_eq.1 h)
  rw [List.length_take] at h1
  rw [decide_eq_true (by omega)]; rfl
theorem take_le {l p : List UInt8} (h : l.take p.length = p) : p.length ≤ l.length := by
 have h1 := congrArg List.length h
 rw [List.length_take] at h1
 omega
def wordAt : Nat → List UInt8
 | 0 => wNull
 | 1 => wTrue
 | _ => wFalse
def NoW (l : List UInt8) (i : Nat) : Prop := ∀ k, k < i → l.take (wordAt k).length ≠ wordAt k
theorem sc_word {l : List UInt8} {i : Nat} (h : NoW l i) (h2 : l.take (wordAt i).length = wordAt i) (hi : i < 3) : scS l = some (l.drop (wordAt i).length) := by
 unfold scS
 match i, hi with
 | 0, _ => rw [if_pos (show l.take 4 = wNull from h2)]; rfl
 | 1, _ => rw [if_neg (show ¬ l.take 4 = wNull from h 0 (by decide)), if_pos (show l.take 4 = wTrue from h2)]; rfl
 | 2, _ => rw [if_neg (show ¬ l.take 4 = wNull from h 0 (by decide)), if_neg (show ¬ l.take 4 = wTrue from h 1 (by decide)), if_pos (show l.take 5 = wFalse from h2)]; rfl
theorem sc_none {l : List UInt8} (h : NoW l 3) : scS l = match l with
  | [] => none
  | c :: t => if c = 34 then qlS t else numR (c :: t) := by
 unfold scS
 rw [if_neg (show ¬ l.take 4 = wNull from h 0 (by decide)), if_neg (show ¬ l.take 4 = wTrue from h 1 (by decide)), if_neg (show ¬ l.take 5 = wFalse from h 2 (by decide))]
 cases l <;> rfl
theorem NoW.next {l : List UInt8} {i : Nat} (h : NoW l i) (h2 : l.take (wordAt i).length ≠ wordAt i) : NoW l (i + 1) := fun k hk => by
 rcases Nat.lt_or_ge k i with h9 | h9
 ·exact h k h9
 obtain rfl : k = i := by omega
 exact h2
theorem scalarP_calls (w : World) (l : List UInt8) (hl : l.length ≤ 1000000000) (hne : 0 < l.length) : Calls Tryz.prog 78 #[.string ⟨l.toArray⟩] w (ScaP w l) := by
 go_enter Tryz.func78, Tryz.ntmps78
 go_upto_region 2 with fail
 have hb : Below w.heap.size w (w.alloc (Obj.cells #[Value.string { data := #[110, 117, 108, 108] }, Value.string { data := #[116, 114, 117, 101] }, Value.string { data := #[102, 97, 108, 115, 101] }] 9)) := (Below.refl _ _).alloc (Nat.le_refl _) _
 have hr := RowAt.new w #[Value.string { data := #[110, 117, 108, 108] }, Value.string { data := #[116, 114, 117, 101] }, Value.string { data := #[102, 97, 108, 115, 101] }] 9
 have HB := hid hb
 have n0 := hr.cell 0 _ rfl
 have n1 := hr.cell 1 _ rfl
 have n2 := hr.cell 2 _ rfl
 generalize (w.alloc (Obj.cells #[Value.string { data := #[110, 117, 108, 108] }, Value.string { data := #[116, 114, 117, 101] }, Value.string { data := #[102, 97, 108, 115, 101] }] 9)) = w1 at *
 clear hr hb
 go_wp2_with fail
 go_loopg [7] 3 (fun k s7 wr => ∃ i : Nat, k = 3 - i ∧ i ≤ 3 ∧ s7 = .int .i64 (i : Int) ∧ NoW l i ∧ w1 = wr)
 case atStart => exact ⟨0, rfl, by omega, rfl, fun k h => by omega, rfl⟩
 obtain ⟨i, hk, hi, rfl, hno, rfl⟩ := hrel
 have Hk := hid hk
 have HNO := hid hno
 clear hk hno
 rcases (show i = 0 ∨ i = 1 ∨ i = 2 ∨ i = 3 by omega) with rfl | rfl | rfl | rfl
 ·
  go_wp2_with fail
  refine (same (Tryz.strings_HasPrefix ⟨l.toArray⟩ ⟨wNull.toArray⟩ _)).mono ?_
  rintro e w2 ⟨rfl, rfl⟩
  rw [show Lib.hasPrefix (⟨l.toArray⟩ : ByteArray).data.toList (⟨wNull.toArray⟩ : ByteArray).data.toList = (l.take wNull.length == wNull) from pre_take l wNull]
  cases hp : (l.take wNull.length == wNull) with
  | true =>
   have HP := hid (show l.take (wordAt 0).length = wordAt 0 from beq_iff_eq.1 hp)
   clear hp
   go_wp2_with fail
   go_ret
   exact ⟨HB.out, wNull.length, rfl, .inr ⟨by decide, take_le HP.out, sc_word HNO.out HP.out (by decide)⟩⟩
  | false =>
   have HP := hid (show l.take (wordAt 0).length ≠ wordAt 0 from beq_eq_false_iff_ne.1 hp)
   clear hp
   go_wp2_with fail
   go_roundg (3 - 1)
   case measure => have := Hk.out; omega
   exact ⟨1, rfl, by omega, by go_num, HNO.out.next HP.out, rfl⟩
 ·
  go_wp2_with fail
  refine (same (Tryz.strings_HasPrefix ⟨l.toArray⟩ ⟨wTrue.toArray⟩ _)).mono ?_
  rintro e w2 ⟨rfl, rfl⟩
  rw [show Lib.hasPrefix (⟨l.toArray⟩ : ByteArray).data.toList (⟨wTrue.toArray⟩ : ByteArray).data.toList = (l.take wTrue.length == wTrue) from pre_take l wTrue]
  cases hp : (l.take wTrue.length == wTrue) with
  | true =>
   have HP := hid (show l.take (wordAt 1).length = wordAt 1 from beq_iff_eq.1 hp)
   clear hp
   go_wp2_with fail
   go_ret
   exact ⟨HB.out, wTrue.length, rfl, .inr ⟨by decide, take_le HP.out, sc_word HNO.out HP.out (by decide)⟩⟩
  | false =>
   have HP := hid (show l.take (wordAt 1).length ≠ wordAt 1 from beq_eq_false_iff_ne.1 hp)
   clear hp
   go_wp2_with fail
   go_roundg (3 - 2)
   case measure => have := Hk.out; omega
   exact ⟨2, rfl, by omega, by go_num, HNO.out.next HP.out, rfl⟩
 ·
  go_wp2_with fail
  refine (same (Tryz.strings_HasPrefix ⟨l.toArray⟩ ⟨wFalse.toArray⟩ _)).mono ?_
  rintro e w2 ⟨rfl, rfl⟩
  rw [show Lib.hasPrefix (⟨l.toArray⟩ : ByteArray).data.toList (⟨wFalse.toArray⟩ : ByteArray).data.toList = (l.take wFalse.length == wFalse) from pre_take l wFalse]
  cases hp : (l.take wFalse.length == wFalse) with
  | true =>
   have HP := hid (show l.take (wordAt 2).length = wordAt 2 from beq_iff_eq.1 hp)
   clear hp
   go_wp2_with fail
   go_ret
   exact ⟨HB.out, wFalse.length, rfl, .inr ⟨by decide, take_le HP.out, sc_word HNO.out HP.out (by decide)⟩⟩
  | false =>
   have HP := hid (show l.take (wordAt 2).length ≠ wordAt 2 from beq_eq_false_iff_ne.1 hp)
   clear hp
   go_wp2_with fail
   go_roundg (3 - 3)
   case measure => have := Hk.out; omega
   exact ⟨3, rfl, by omega, by go_num, HNO.out.next HP.out, rfl⟩
 have hij := byte_at l 0 hne
 have hne2 : (0 : Int) < (l.length : Int) := by omega
 have HC := hid (show l = l.getD 0 0 :: l.drop 1 from (drop_at (n := 0) hne))
 have HSC : Hid (scS l = if l.getD 0 0 = 34 then qlS (l.drop 1) else numR l) := by
  refine hid ?_
  rw [sc_none HNO.out]
  have h9 := HC.out
  generalize l.getD 0 0 = c at *
  generalize l.drop 1 = t at *
  subst h9
  rfl
 have HQD : Hid (l.getD 0 0 = 34 → qdS l = qlS (l.drop 1)) := by
  refine hid (fun hc => ?_)
  have h9 := HC.out
  generalize l.getD 0 0 = c at *
  generalize l.drop 1 = t at *
  subst h9
  subst hc
  rfl
 generalize l.getD 0 0 = c at *
 by_cases h34 : c = 34
 ·
  have h34b : ((c.toNat : Int) == 34) = true := by rw [h34]; rfl
  have hq := HQD.out h34
  have hs := HSC.out
  rw [if_pos h34, ← hq] at hs
  have HS := hid hs
  clear h34 hq hs HC
  go_wp2_with fail
  refine (quotedP_calls w1 l hl).mono ?_
  rintro e w2 ⟨hb2, n, rfl, hn⟩
  rw [← HS.out] at hn
  have HN := hid hn
  have HB2 := hid (HB.out.trans (hb2.mono HB.out.size))
  clear hn hb2
  go_wp2_with fail
  go_ret
  exact ⟨HB2.out, n, rfl, HN.out⟩
 have h34b : ((c.toNat : Int) == 34) = false := by
  rw [beq_eq_false_iff_ne]
  intro e9
  have e8 : c.toNat = 34 := by omega
  exact h34 (UInt8.toNat_inj.1 (by rw [e8]; rfl))
 have hs := HSC.out
 rw [if_neg h34] at hs
 have HS := hid hs
 clear h34 hs HC
 go_wp2_with fail
 refine (numberP_calls w1 l hl).mono ?_
 rintro e w2 ⟨rfl, n, rfl, hn⟩
 rw [← HS.out] at hn
 have HN := hid hn
 clear hn
 go_wp2_with fail
 go_ret
 exact ⟨HB.out, n, rfl, HN.out⟩
def jumpsTo (J : Nat → Act → World → Prop) (Q : Exit → Act → World → Prop) : Exit → Act → World → Prop
 | .goto l, a, w => J l a w
 | e, a, w => Q e a w
theorem wp_scope_many {P : Program} {a : Act} {w : World} {Q : Exit → Act → World → Prop} {c : Code} (J : Nat → Nat → Act → World → Prop)
  (first : c.wp P (jumpsTo (fun l a w => ∃ n, J l n a w) Q) a w)
  (pass : ∀ l n a w, J l n a w → ∃ rest, findLabel c l = some rest ∧ rest.wp P (jumpsTo (fun l' a' w' => ∃ n', n' < n ∧ J l' n' a' w') Q) a w) : (Code.scope c).wp P Q a w := by
 intro b k cs
 have hg : ∀ l rest, findLabel c l = some rest → gotoIn l (.inScope c :: k) = some (.code rest :: .inScope c :: k) := fun l rest hf => by simp [gotoIn, hf]
 have key : ∀ n l a w rest, J l n a w → findLabel c l = some rest → ∃ e a' w', Q e a' w' ∧ Arrives P (lone (b.at a (.code rest :: .inScope c :: k)) cs w) b k cs e a' w' := by
  intro n
  induction n using Nat.strongRecOn with
  | _ n ih =>
   intro l a w rest hJ hf
   obtain ⟨rest', hf', hp⟩ := pass l n a w hJ
   rw [hf] at hf'
   cases hf'
   obtain ⟨e, a₁, w₁, hq, harr⟩ := hp b (.inScope c :: k) cs
   cases e with
   | normal => exact ⟨.normal, a₁, w₁, hq, Steps.trans harr (.one step_inScope)⟩
   | exit id => exact ⟨.exit id, a₁, w₁, hq, fun k' hk => harr k' (by simp [exitTo, hk])⟩
   | goto l' =>
    obtain ⟨n', hlt, hJ'⟩ := hq
    obtain ⟨rest2, hf2, _⟩ := pass l' n' a₁ w₁ hJ'
    obtain ⟨e₂, a₂, w₂, hq₂, harr₂⟩ := ih n' hlt l' a₁ w₁ rest2 hJ' hf2
    exact ⟨e₂, a₂, w₂, hq₂, .of_steps (harr _ (hg l' rest2 hf2)) harr₂⟩
   | ret => exact ⟨_, a₁, w₁, hq, harr⟩
   | panic ch => exact ⟨_, a₁, w₁, hq, harr⟩
   | outgrown => exact ⟨_, a₁, w₁, hq, harr⟩
 obtain ⟨e, a₁, w₁, hq, harr⟩ := first b (.inScope c :: k) cs
 cases e with
 | normal => exact ⟨.normal, a₁, w₁, hq, .head step_scope (Steps.trans harr (.one step_inScope))⟩
 | exit id => exact ⟨.exit id, a₁, w₁, hq, fun k' hk => .head step_scope (harr k' (by simp [exitTo, hk]))⟩
 | goto l' =>
  obtain ⟨n', hJ'⟩ := hq
  obtain ⟨rest2, hf2, _⟩ := pass l' n' a₁ w₁ hJ'
  obtain ⟨e₂, a₂, w₂, hq₂, harr₂⟩ := key n' l' a₁ w₁ rest2 hJ' hf2
  exact ⟨e₂, a₂, w₂, hq₂, .of_steps (.head step_scope (harr _ (hg l' rest2 hf2))) harr₂⟩
 | ret => exact ⟨_, a₁, w₁, hq, .of_steps (.one step_scope) harr⟩
 | panic ch => exact ⟨_, a₁, w₁, hq, .of_steps (.one step_scope) harr⟩
 | outgrown => exact ⟨_, a₁, w₁, hq, .of_steps (.one step_scope) harr⟩
def noSel (o : Oper) : Bool := match o.op with | .select .. => false | _ => true
def lexP (md : Region.Mode) (ops : Array Oper) : List Oper → Nat → Bool
 | [], _ => true
 | o :: rest, k => noSel o && o.after.toList.all (fun e => !Region.binds md e || Nat.blt e.on k) && rest.all (fun oj => oj.after.toList.any (fun e => Region.binds md e && Nat.beq e.on k) || o.apart ops oj) && lexP md ops rest (k + 1)
theorem lexP_sel {md : Region.Mode} {ops : Array Oper} : ∀ (l : List Oper) (k : Nat), lexP md ops l k = true → l.all noSel = true
 | [], _, _ => rfl
 | o :: l, k, h => by
  simp only [lexP, Bool.and_eq_true] at h
  rw [List.all_cons, h.1.1.1, lexP_sel l (k + 1) h.2]; rfl
theorem lexP_from {md : Region.Mode} {ops : Array Oper} : ∀ (l : List Oper) (k : Nat) (listed : Array Bool), (∀ j, l[j]? = ops[k + j]?) → listed.size = ops.size → k + l.length = ops.size →
  (∀ i, i < ops.size → listed[i]? = some (decide (i < k))) → lexP md ops l k = true → Region.lexFrom md ops l.length k listed = true
 | [], k, listed, hl, hs, hk, hi, _ => by
  simp only [List.length_nil, Region.lexFrom, List.isEmpty_iff]
  rw [List.eq_nil_iff_forall_not_mem]
  intro i hm
  obtain ⟨h1, oj, h2, h3⟩ := mem_ready.1 hm
  have h4 := (Array.getElem?_eq_some_iff.1 h2).1
  have h5 := hi i h4
  rw [Array.getD_eq_getD_getElem?, h5] at h1
  simp at h1 hk
  omega
 | o :: l, k, listed, hl, hs, hk, hi, h => by
  simp only [lexP, Bool.and_eq_true] at h
  obtain ⟨⟨⟨h1, h2⟩, h3⟩, h4⟩ := h
  have h0 : ops[k]? = some o := by simpa using (hl 0).symm
  have hks : k < ops.size := (Array.getElem?_eq_some_iff.1 h0).1
  simp only [List.length_cons, Region.lexFrom, Bool.and_eq_true]
  refine ⟨⟨?_, ?_⟩, ?_⟩
  ·rw [List.contains_iff_mem]
   refine mem_ready.2 ⟨by rw [Array.getD_eq_getD_getElem?, hi k hks]; simp, o, h0, fun e he hb => ?_⟩
   have h5 := List.all_eq_true.1 h2 e (Array.mem_toList_iff.2 he)
   rw [hb] at h5
   have h6 : e.on < k := by simpa using h5
   rw [Array.getD_eq_getD_getElem?, hi e.on (by omega)]
   simpa using h6
  ·simp only [Region.free, h0, List.all_eq_true, List.mem_range]
   intro j hj
   simp only [Bool.or_eq_true, beq_iff_eq]
   rcases Nat.lt_trichotomy j k with h9 | h9 | h9
   ·exact .inl (.inr (by rw [Array.getD_eq_getD_getElem?, hi j hj]; simpa using h9))
   ·exact .inl (.inl h9)
   refine .inr ?_
   obtain ⟨d, rfl⟩ : ∃ d, j = k + (d + 1) := ⟨j - k - 1, by omega⟩
   have h7 := hl (d + 1)
   rw [List.getElem?_cons_succ] at h7
   rw [← h7]
   cases h8 : l[d]? with
   | none => rfl
   | some oj =>
    have h5 := List.all_eq_true.1 h3 oj (List.mem_of_getElem? h8)
    simp only [Bool.or_eq_true] at h5 ⊢
    rcases h5 with h5 | h5
    ·obtain ⟨e, he, hb⟩ := List.any_eq_true.1 h5
     refine .inl (Array.any_eq_true'.2 ⟨e, Array.mem_toList_iff.1 he, ?_⟩)
     simpa using hb
    exact .inr h5
  refine lexP_from l (k + 1) _ (fun j => by have := hl (j + 1); simpa [Nat.add_assoc, Nat.add_comm 1 j] using this) (by simpa using hs) (by simp at hk; omega) ?_ h4
  intro i hi2
  rw [Array.getElem?_setIfInBounds]
  split
  ·rename_i e; subst e; rw [if_pos (by omega)]; simp
  rename_i e
  rw [hi i hi2]
  congr 1
  rw [decide_eq_decide]; omega
theorem lexP_lexB {l : List Oper} (h : lexP .any l.toArray l 0 = true) : Region.lexB .any l.toArray = true := by
 unfold Region.lexB
 rw [Bool.and_eq_true]
 refine ⟨?_, lexP_from l 0 _ (fun j => by simp) (by simp) (by simp) (fun i hi => ?_) h⟩
 ·have := lexP_sel l 0 h
  unfold Region.noSelect
  rw [← Array.all_toList]
  exact this
 rw [Array.getElem?_replicate, if_pos hi]; simp
variable {P : Program}
theorem wp_region_quiet_fast {id : Nat} {Q : Exit → Act → World → Prop} {a : Act} {w : World} {l : List Oper} (hm : P.follows .mixedOrders = true) (hB : lexP .any l.toArray l 0 = true)
  (h : wpQuiet P l.toArray (fun w' => ∃ n, w' = w.drewN n) (fun a' => ∀ w', (∃ n, w' = w.drewN n) → Q .normal a' w') l a) : (Code.region id l.toArray true).wp P Q a w :=
 wp_region_quiet_lit hm (lexP_lexB hB) h
end Go.Proofs.YtfclfaidmipjpaaGreatDoor
