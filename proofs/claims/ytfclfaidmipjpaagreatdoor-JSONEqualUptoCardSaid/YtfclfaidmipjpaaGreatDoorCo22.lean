/- Texts of this claim, joined: Jp5, Jp6, Jmp, Lex. -/
import Derived.Test.YtfclfaidmipjpaaGreatDoorCo08
namespace Go.Proofs.YtfclfaidmipjpaaGreatDoor
set_option maxRecDepth 100000
open Go.RowKit
def qdS (l : List UInt8) : Option (List UInt8) := match l with
 | [] => none
 | c :: t => if c = 34 then qlS t else none
def QuoP (w : World) (l : List UInt8) (e : Ending) (w' : World) : Prop :=
 Below w.heap.size w w' ∧ ∃ n : Nat, e = .returned (.int .i64 (n : Int)) ∧ ((n = 0 ∧ qdS l = none) ∨ (0 < n ∧ n ≤ l.length ∧ qdS l = some (l.drop n)))
def escL : List UInt8 := [34, 92, 47, 98, 102, 110, 114, 116, 117]
theorem ql_eq {n : Nat} {s : List UInt8} (h : s.length < n) : qlN n s = qlS s := ql_fuel _ _ s h (Nat.lt_succ_self _)
theorem qlS_low {c : UInt8} {t : List UInt8} (h : c.toNat < 32) : qlS (c :: t) = none := by
 unfold qlS; simp only [List.length_cons, qlN]; rw [if_pos h]
theorem qlS_end {t : List UInt8} : qlS (34 :: t) = some t := by
 unfold qlS; simp only [List.length_cons, qlN]; rw [if_neg (by decide)]; simp
theorem qlS_plain {c : UInt8} {t : List UInt8} (h1 : ¬ c.toNat < 32) (h2 : c ≠ 34) (h3 : c ≠ 92) : qlS (c :: t) = qlS t := by
 unfold qlS; simp only [List.length_cons, qlN]; rw [if_neg h1, if_neg h2, if_neg h3]
theorem qlS_esc {t : List UInt8} : qlS (92 :: t) = match t with
  | [] => none
  | e :: t2 => if (plainS e).isSome then qlS t2 else if e = 117 then match hexN 4 0 t2 with
    | none => none
    | some (_, t3) => qlS t3
   else none := by
 cases t with
 | nil => rfl
 | cons e t2 =>
  have h0 : qlS (92 :: e :: t2) = qlN (t2.length + 1 + 1 + 1) (92 :: e :: t2) := rfl
  rw [h0]
  simp only [qlN]
  rw [if_neg (by decide), if_neg (by decide), if_pos trivial]
  rw [ql_eq (show t2.length < t2.length + 1 + 1 by omega)]
  cases hh : hexN 4 0 t2 with
  | none => rfl
  | some x =>
   obtain ⟨y, t3⟩ := x
   have := hexN_len _ _ _ _ _ hh
   simp only
   rw [ql_eq (show t3.length < t2.length + 1 + 1 by omega)]
theorem esc_in (e : UInt8) : escL.contains e = ((plainS e).isSome || e == 117) := by
 unfold plainS escL
 by_cases h1 : e = 34
 ·subst h1; rfl
 by_cases h2 : e = 92
 ·subst h2; rfl
 by_cases h3 : e = 47
 ·subst h3; rfl
 by_cases h4 : e = 98
 ·subst h4; rfl
 by_cases h5 : e = 102
 ·subst h5; rfl
 by_cases h6 : e = 110
 ·subst h6; rfl
 by_cases h7 : e = 114
 ·subst h7; rfl
 by_cases h8 : e = 116
 ·subst h8; rfl
 rw [if_neg h1, if_neg h2, if_neg h3, if_neg h4, if_neg h5, if_neg h6, if_neg h7, if_neg h8]
 simp [h1, h2, h3, h4, h5, h6, h7, h8]
 rw [Bool.eq_iff_iff]
 simp
theorem plain_u : plainS 117 = none := by decide
set_option maxHeartbeats 8000000 in
theorem quotedP_calls (w : World) (l : List UInt8) (hl : l.length ≤ 1000000000) : Calls Tryz.prog 79 #[.string ⟨l.toArray⟩] w (QuoP w l) := by
 go_enter Tryz.func79, Tryz.ntmps79
 go_wp2_with fail
 refine (same (Tryz.strings_HasPrefix ⟨l.toArray⟩ ⟨#[34]⟩ _)).mono ?_
 rintro e w1 ⟨rfl, rfl⟩
 rw [show Lib.hasPrefix (⟨l.toArray⟩ : ByteArray).data.toList (⟨#[34]⟩ : ByteArray).data.toList = (l.head? == some 34) from pre_one l 34]
 cases hp : (l.head? == some 34) with
 | false =>
  have HZ : Hid (qdS l = none) := Lib.hid (by
   cases l with
   | nil => rfl
   | cons c t =>
    unfold qdS
    simp only
    rw [if_neg]
    rintro rfl
    simp at hp)
  clear hp
  go_wp2_with fail
  go_ret
  exact ⟨Below.refl _ _, 0, rfl, .inl ⟨rfl, HZ.out⟩⟩
 | true =>
  have hql : 1 ≤ l.length ∧ qdS l = qlS (l.drop 1) := by
   cases l with
   | nil => simp at hp
   | cons c t =>
    have hc : c = 34 := by simpa using hp
    subst hc
    exact ⟨by simp, rfl⟩
  obtain ⟨h1l, hqd⟩ := hql
  have HQD := Lib.hid hqd
  clear hqd hp
  go_wp2_with fail
  go_loopg [3] (l.length - 1) (fun k s3 wr => ∃ i : Nat, k = l.length - i ∧ 1 ≤ i ∧ i ≤ l.length ∧ s3 = .int .i64 (i : Int) ∧ qlS (l.drop 1) = qlS (l.drop i) ∧ Below w.heap.size w wr)
  case atStart => exact ⟨1, rfl, Nat.le_refl _, h1l, rfl, rfl, Below.refl _ _⟩
  obtain ⟨i, hk, hi1, hi, rfl, hq, hbe⟩ := hrel
  have Hk := Lib.hid hk
  have HQ := Lib.hid (HQD.out.trans hq)
  have HQ0 := Lib.hid hq
  have HB := Lib.hid hbe
  clear hk hq hbe
  by_cases hlt : i < l.length
  ·have hlt2 : (i : Int) < (l.length : Int) := by omega
   have hij := byte_at l i hlt
   have HDR := Lib.hid (show l.drop i = l.getD i 0 :: l.drop (i + 1) from drop_at hlt)
   generalize l.getD i 0 = c at *
   by_cases c32 : c.toNat < 32
   ·have c32i : (c.toNat : Int) < 32 := by omega
    have HZ : Hid (qdS l = none) := Lib.hid (by rw [HQ.out, HDR.out, qlS_low c32])
    go_wp2_with fail
    go_ret
    exact ⟨HB.out, 0, rfl, .inl ⟨rfl, HZ.out⟩⟩
   have c32d : decide ((c.toNat : Int) < 32) = false := by rw [decide_eq_false_iff_not]; omega
   by_cases c34 : c.toNat = 34
   ·have c34b : ((c.toNat : Int) == 34) = true := by rw [beq_iff_eq]; omega
    have HZ : Hid (qdS l = some (l.drop (i + 1))) := Lib.hid (by rw [HQ.out, HDR.out, show c = 34 from UInt8.toNat_inj.1 (by rw [c34]; rfl), qlS_end])
    go_wp2_with fail
    go_ret
    exact ⟨HB.out, i + 1, by go_num, .inr ⟨by omega, by omega, HZ.out⟩⟩
   have c34b : ((c.toNat : Int) == 34) = false := by rw [beq_eq_false_iff_ne]; omega
   by_cases c92 : c.toNat = 92
   ·have c92b : ((c.toNat : Int) == 92) = true := by rw [beq_iff_eq]; omega
    have hc : c = 92 := UInt8.toNat_inj.1 (by rw [c92]; rfl)
    rw [hc] at HDR
    clear c92 c34 c32 hc
    obtain ⟨m, hm⟩ : ∃ m, i + 1 = m := ⟨_, rfl⟩
    have hmi : (i : Int) + 1 = (m : Int) := by omega
    rw [hm] at HDR
    have HQ1 : Hid (qlS (l.drop 1) = _) := Lib.hid (by rw [HQ0.out, HDR.out, qlS_esc])
    have HM := Lib.hid hm
    clear hm
    by_cases hml : m = l.length
    ·have hmb : ((m : Int) == (l.length : Int)) = true := by rw [beq_iff_eq]; omega
     have HZ : Hid (qdS l = none) := Lib.hid (by rw [HQD.out, HQ1.out, List.drop_of_length_le (by omega)])
     go_wp2_with fail
     go_ret
     exact ⟨HB.out, 0, rfl, .inl ⟨rfl, HZ.out⟩⟩
    have hmb : ((m : Int) == (l.length : Int)) = false := by rw [beq_eq_false_iff_ne]; omega
    have hml2 : m < l.length := by have := HM.out; omega
    have hml3 : (m : Int) < (l.length : Int) := by omega
    have hmj := byte_at l m hml2
    have HQ2 : Hid (qlS (l.drop 1) = if (plainS (l.getD m 0)).isSome then qlS (l.drop (m + 1)) else if l.getD m 0 = 117 then match hexN 4 0 (l.drop (m + 1)) with
      | none => none
      | some (_, t3) => qlS t3
     else none) := Lib.hid (by rw [HQ1.out, show l.drop m = l.getD m 0 :: l.drop (m + 1) from drop_at hml2])
    clear HQ1
    generalize l.getD m 0 = d at *
    go_wp2_with fail
    refine (same (Tryz.strings_IndexByte ⟨escL.toArray⟩ _ _)).mono ?_
    rintro e w2 ⟨rfl, rfl⟩
    have hcl : (d.toNat : Int).toNat.toUInt8 = d := by simp
    have hix : Lib.indexByte (⟨escL.toArray⟩ : ByteArray).data.toList d = Lib.indexByte escL d := rfl
    rw [hcl, hix]
    have hin := index_in escL d
    rw [esc_in] at hin
    clear hcl hix
    generalize Lib.indexByte escL d = ix at *
    cases hpl : (plainS d).isSome with
    | true =>
     rw [hpl] at hin
     have hixn : ¬ ix < 0 := by simpa using hin
     have h117 : ((d.toNat : Int) == 117) = false := by
      rw [beq_eq_false_iff_ne]
      intro e9
      have e8 : d.toNat = 117 := by omega
      have e7 : d = 117 := UInt8.toNat_inj.1 (by rw [e8]; rfl)
      rw [e7, plain_u] at hpl
      cases hpl
     have HZ : Hid (qlS (l.drop 1) = qlS (l.drop (m + 1))) := Lib.hid (by rw [HQ2.out, if_pos hpl])
     clear hin hpl
     go_wp2_with fail
     go_roundg (l.length - (m + 1))
     case measure => have := Hk.out; have := HM.out; omega
     exact ⟨m + 1, rfl, by omega, by omega, by go_num, HZ.out, HB.out⟩
    | false =>
     rw [hpl] at hin
     by_cases d117 : d = 117
     ·have hixn : ¬ ix < 0 := by rw [d117] at hin; simpa using hin
      have h117 : ((d.toNat : Int) == 117) = true := by rw [d117]; rfl
      obtain ⟨q, hq⟩ : ∃ q, m + 1 = q := ⟨_, rfl⟩
      have hqi : (m : Int) + 1 = (q : Int) := by omega
      have hql : q ≤ l.length := by omega
      have hqli : (q : Int) ≤ (l.length : Int) := by omega
      have hext := ext_drop l q
      have HQ3 : Hid (qlS (l.drop 1) = match hexN 4 0 (l.drop q) with
        | none => none
        | some (_, t3) => qlS t3) := Lib.hid (by rw [HQ2.out, hpl, if_neg (by decide), if_pos d117, hq])
      have HQQ := Lib.hid hq
      clear hin hpl d117 hq HQ2
      go_wp2_with fail
      refine (hexP_calls wr (l.drop q) (by rw [List.length_drop]; omega)).mono ?_
      rintro e w2 ⟨hb2, hh⟩
      have HB2 := Lib.hid (HB.out.trans (hb2.mono HB.out.size))
      clear hb2
      rcases hh with ⟨h1, rfl⟩ | ⟨y, hy, h1, rfl⟩
      ·have HZ : Hid (qdS l = none) := Lib.hid (by rw [HQD.out, HQ3.out, h1])
       go_wp2_with fail
       go_ret
       exact ⟨HB2.out, 0, rfl, .inl ⟨rfl, HZ.out⟩⟩
      have hl4 := hexN_len _ _ _ _ _ h1
      rw [List.length_drop, List.length_drop] at hl4
      have HZ : Hid (qlS (l.drop 1) = qlS (l.drop (m + 5))) := Lib.hid (by rw [HQ3.out, h1]; simp only; rw [List.drop_drop, ← HQQ.out])
      have HM5 : Hid (m + 5 ≤ l.length) := Lib.hid (by have := HQQ.out; omega)
      go_wp2_with fail
      go_roundg (l.length - (m + 5))
      case measure => have := Hk.out; have := HM.out; have := HM5.out; omega
      exact ⟨m + 5, rfl, by omega, HM5.out, by go_num, HZ.out, HB2.out⟩
     have hixn : ix < 0 := by
      have e9 : (d == 117) = false := by rw [beq_eq_false_iff_ne]; exact d117
      rw [e9] at hin
      simpa using hin
     have HZ : Hid (qdS l = none) := Lib.hid (by rw [HQD.out, HQ2.out, hpl, if_neg (by decide), if_neg d117])
     clear hin hpl d117
     go_wp2_with fail
     go_ret
     exact ⟨HB.out, 0, rfl, .inl ⟨rfl, HZ.out⟩⟩
   have c92b : ((c.toNat : Int) == 92) = false := by rw [beq_eq_false_iff_ne]; omega
   have HZ : Hid (qlS (l.drop 1) = qlS (l.drop (i + 1))) := Lib.hid (by rw [HQ0.out, HDR.out, qlS_plain c32 (fun e => c34 (by rw [e]; rfl)) (fun e => c92 (by rw [e]; rfl))])
   clear c92 c34 c32
   go_wp2_with fail
   go_roundg (l.length - (i + 1))
   case measure => have := Hk.out; omega
   exact ⟨i + 1, rfl, by omega, by omega, by go_num, HZ.out, HB.out⟩
  have hlt2 : ¬ (i : Int) < (l.length : Int) := by omega
  have hlt3 : decide ((i : Int) < (l.length : Int)) = false := by rw [decide_eq_false_iff_not]; exact hlt2
  have HZ : Hid (qdS l = none) := Lib.hid (by rw [HQ.out, List.drop_of_length_le (by omega)]; rfl)
  go_wp2_with fail
  go_ret
  exact ⟨HB.out, 0, rfl, .inl ⟨rfl, HZ.out⟩⟩
open Go.RowKit
def ScaP (w : World) (l : List UInt8) (e : Ending) (w' : World) : Prop :=
 Below w.heap.size w w' ∧ ∃ n : Nat, e = .returned (.int .i64 (n : Int)) ∧ ((n = 0 ∧ scS l = none) ∨ (0 < n ∧ n ≤ l.length ∧ scS l = some (l.drop n)))
theorem pre_take (l p : List UInt8) : Lib.hasPrefix l p = (l.take p.length == p) := by
 rw [← Lib.hasPrefix_of_take]
 cases h : (l.take p.length == p) with
 | false => rw [Bool.and_false]
 | true =>
  have h1 := congrArg List.length (beq_iff_eq.1 h)
  rw [List.length_take] at h1
  rw [decide_eq_true (by omega)]; rfl
theorem take_le {l p : List UInt8} (h : l.take p.length = p) : p.length ≤ l.length := by
 have h1 := congrArg List.length h
 rw [List.length_take] at h1
 omega
def wordAt : Nat → List UInt8
 | 0 => wNull
 | 1 => wTrue
 | _ => wFalse
def NoW (l : List UInt8) (i : Nat) : Prop := ∀ k, k < i → l.take (wordAt k).length ≠ wordAt k
theorem sc_word {l : List UInt8} {i : Nat} (h : NoW l i) (h2 : l.take (wordAt i).length = wordAt i) (hi : i < 3) : scS l = some (l.drop (wordAt i).length) := by
 unfold scS
 match i, hi with
 | 0, _ => rw [if_pos (show l.take 4 = wNull from h2)]; rfl
 | 1, _ => rw [if_neg (show ¬ l.take 4 = wNull from h 0 (by decide)), if_pos (show l.take 4 = wTrue from h2)]; rfl
 | 2, _ => rw [if_neg (show ¬ l.take 4 = wNull from h 0 (by decide)), if_neg (show ¬ l.take 4 = wTrue from h 1 (by decide)), if_pos (show l.take 5 = wFalse from h2)]; rfl
theorem sc_none {l : List UInt8} (h : NoW l 3) : scS l = match l with
  | [] => none
  | c :: t => if c = 34 then qlS t else numR (c :: t) := by
 unfold scS
 rw [if_neg (show ¬ l.take 4 = wNull from h 0 (by decide)), if_neg (show ¬ l.take 4 = wTrue from h 1 (by decide)), if_neg (show ¬ l.take 5 = wFalse from h 2 (by decide))]
 cases l <;> rfl
theorem NoW.next {l : List UInt8} {i : Nat} (h : NoW l i) (h2 : l.take (wordAt i).length ≠ wordAt i) : NoW l (i + 1) := fun k hk => by
 rcases Nat.lt_or_ge k i with h9 | h9
 ·exact h k h9
 obtain rfl : k = i := by omega
 exact h2
set_option maxHeartbeats 8000000 in
theorem scalarP_calls (w : World) (l : List UInt8) (hl : l.length ≤ 1000000000) (hne : 0 < l.length) : Calls Tryz.prog 78 #[.string ⟨l.toArray⟩] w (ScaP w l) := by
 go_enter Tryz.func78, Tryz.ntmps78
 go_upto_region 2 with fail
 have hb : Below w.heap.size w (w.alloc (Obj.cells #[Value.string { data := #[110, 117, 108, 108] }, Value.string { data := #[116, 114, 117, 101] }, Value.string { data := #[102, 97, 108, 115, 101] }] 9)) := (Below.refl _ _).alloc (Nat.le_refl _) _
 have hr := RowAt.new w #[Value.string { data := #[110, 117, 108, 108] }, Value.string { data := #[116, 114, 117, 101] }, Value.string { data := #[102, 97, 108, 115, 101] }] 9
 have HB := Lib.hid hb
 have n0 := hr.cell 0 _ rfl
 have n1 := hr.cell 1 _ rfl
 have n2 := hr.cell 2 _ rfl
 generalize (w.alloc (Obj.cells #[Value.string { data := #[110, 117, 108, 108] }, Value.string { data := #[116, 114, 117, 101] }, Value.string { data := #[102, 97, 108, 115, 101] }] 9)) = w1 at *
 clear hr hb
 go_wp2_with fail
 go_loopg [7] 3 (fun k s7 wr => ∃ i : Nat, k = 3 - i ∧ i ≤ 3 ∧ s7 = .int .i64 (i : Int) ∧ NoW l i ∧ w1 = wr)
 case atStart => exact ⟨0, rfl, by omega, rfl, fun k h => by omega, rfl⟩
 obtain ⟨i, hk, hi, rfl, hno, rfl⟩ := hrel
 have Hk := Lib.hid hk
 have HNO := Lib.hid hno
 clear hk hno
 rcases (show i = 0 ∨ i = 1 ∨ i = 2 ∨ i = 3 by omega) with rfl | rfl | rfl | rfl
 ·
  go_wp2_with fail
  refine (same (Tryz.strings_HasPrefix ⟨l.toArray⟩ ⟨wNull.toArray⟩ _)).mono ?_
  rintro e w2 ⟨rfl, rfl⟩
  rw [show Lib.hasPrefix (⟨l.toArray⟩ : ByteArray).data.toList (⟨wNull.toArray⟩ : ByteArray).data.toList = (l.take wNull.length == wNull) from pre_take l wNull]
  cases hp : (l.take wNull.length == wNull) with
  | true =>
   have HP := Lib.hid (show l.take (wordAt 0).length = wordAt 0 from beq_iff_eq.1 hp)
   clear hp
   go_wp2_with fail
   go_ret
   exact ⟨HB.out, wNull.length, rfl, .inr ⟨by decide, take_le HP.out, sc_word HNO.out HP.out (by decide)⟩⟩
  | false =>
   have HP := Lib.hid (show l.take (wordAt 0).length ≠ wordAt 0 from beq_eq_false_iff_ne.1 hp)
   clear hp
   go_wp2_with fail
   go_roundg (3 - 1)
   case measure => have := Hk.out; omega
   exact ⟨1, rfl, by omega, by go_num, HNO.out.next HP.out, rfl⟩
 ·
  go_wp2_with fail
  refine (same (Tryz.strings_HasPrefix ⟨l.toArray⟩ ⟨wTrue.toArray⟩ _)).mono ?_
  rintro e w2 ⟨rfl, rfl⟩
  rw [show Lib.hasPrefix (⟨l.toArray⟩ : ByteArray).data.toList (⟨wTrue.toArray⟩ : ByteArray).data.toList = (l.take wTrue.length == wTrue) from pre_take l wTrue]
  cases hp : (l.take wTrue.length == wTrue) with
  | true =>
   have HP := Lib.hid (show l.take (wordAt 1).length = wordAt 1 from beq_iff_eq.1 hp)
   clear hp
   go_wp2_with fail
   go_ret
   exact ⟨HB.out, wTrue.length, rfl, .inr ⟨by decide, take_le HP.out, sc_word HNO.out HP.out (by decide)⟩⟩
  | false =>
   have HP := Lib.hid (show l.take (wordAt 1).length ≠ wordAt 1 from beq_eq_false_iff_ne.1 hp)
   clear hp
   go_wp2_with fail
   go_roundg (3 - 2)
   case measure => have := Hk.out; omega
   exact ⟨2, rfl, by omega, by go_num, HNO.out.next HP.out, rfl⟩
 ·
  go_wp2_with fail
  refine (same (Tryz.strings_HasPrefix ⟨l.toArray⟩ ⟨wFalse.toArray⟩ _)).mono ?_
  rintro e w2 ⟨rfl, rfl⟩
  rw [show Lib.hasPrefix (⟨l.toArray⟩ : ByteArray).data.toList (⟨wFalse.toArray⟩ : ByteArray).data.toList = (l.take wFalse.length == wFalse) from pre_take l wFalse]
  cases hp : (l.take wFalse.length == wFalse) with
  | true =>
   have HP := Lib.hid (show l.take (wordAt 2).length = wordAt 2 from beq_iff_eq.1 hp)
   clear hp
   go_wp2_with fail
   go_ret
   exact ⟨HB.out, wFalse.length, rfl, .inr ⟨by decide, take_le HP.out, sc_word HNO.out HP.out (by decide)⟩⟩
  | false =>
   have HP := Lib.hid (show l.take (wordAt 2).length ≠ wordAt 2 from beq_eq_false_iff_ne.1 hp)
   clear hp
   go_wp2_with fail
   go_roundg (3 - 3)
   case measure => have := Hk.out; omega
   exact ⟨3, rfl, by omega, by go_num, HNO.out.next HP.out, rfl⟩
 have hij := byte_at l 0 hne
 have hne2 : (0 : Int) < (l.length : Int) := by omega
 have HC := Lib.hid (show l = l.getD 0 0 :: l.drop 1 from (drop_at (n := 0) hne))
 have HSC : Hid (scS l = if l.getD 0 0 = 34 then qlS (l.drop 1) else numR l) := by
  refine Lib.hid ?_
  rw [sc_none HNO.out]
  have h9 := HC.out
  generalize l.getD 0 0 = c at *
  generalize l.drop 1 = t at *
  subst h9
  rfl
 have HQD : Hid (l.getD 0 0 = 34 → qdS l = qlS (l.drop 1)) := by
  refine Lib.hid (fun hc => ?_)
  have h9 := HC.out
  generalize l.getD 0 0 = c at *
  generalize l.drop 1 = t at *
  subst h9
  subst hc
  rfl
 generalize l.getD 0 0 = c at *
 by_cases h34 : c = 34
 ·
  have h34b : ((c.toNat : Int) == 34) = true := by rw [h34]; rfl
  have hq := HQD.out h34
  have hs := HSC.out
  rw [if_pos h34, ← hq] at hs
  have HS := Lib.hid hs
  clear h34 hq hs HC
  go_wp2_with fail
  refine (quotedP_calls w1 l hl).mono ?_
  rintro e w2 ⟨hb2, n, rfl, hn⟩
  rw [← HS.out] at hn
  have HN := Lib.hid hn
  have HB2 := Lib.hid (HB.out.trans (hb2.mono HB.out.size))
  clear hn hb2
  go_wp2_with fail
  go_ret
  exact ⟨HB2.out, n, rfl, HN.out⟩
 have h34b : ((c.toNat : Int) == 34) = false := by
  rw [beq_eq_false_iff_ne]
  intro e9
  have e8 : c.toNat = 34 := by omega
  exact h34 (UInt8.toNat_inj.1 (by rw [e8]; rfl))
 have hs := HSC.out
 rw [if_neg h34] at hs
 have HS := Lib.hid hs
 clear h34 hs HC
 go_wp2_with fail
 refine (numberP_calls w1 l hl).mono ?_
 rintro e w2 ⟨rfl, n, rfl, hn⟩
 rw [← HS.out] at hn
 have HN := Lib.hid hn
 clear hn
 go_wp2_with fail
 go_ret
 exact ⟨HB.out, n, rfl, HN.out⟩
def jumpsTo (J : Nat → Act → World → Prop) (Q : Exit → Act → World → Prop) : Exit → Act → World → Prop
 | .goto l, a, w => J l a w
 | e, a, w => Q e a w
theorem wp_scope_many {P : Program} {a : Act} {w : World} {Q : Exit → Act → World → Prop} {c : Code} (J : Nat → Nat → Act → World → Prop)
  (first : c.wp P (jumpsTo (fun l a w => ∃ n, J l n a w) Q) a w)
  (pass : ∀ l n a w, J l n a w → ∃ rest, findLabel c l = some rest ∧ rest.wp P (jumpsTo (fun l' a' w' => ∃ n', n' < n ∧ J l' n' a' w') Q) a w) : (Code.scope c).wp P Q a w := by
 intro b k cs
 have hg : ∀ l rest, findLabel c l = some rest → gotoIn l (.inScope c :: k) = some (.code rest :: .inScope c :: k) := fun l rest hf => by simp [gotoIn, hf]
 have key : ∀ n l a w rest, J l n a w → findLabel c l = some rest → ∃ e a' w', Q e a' w' ∧ Arrives P (lone (b.at a (.code rest :: .inScope c :: k)) cs w) b k cs e a' w' := by
  intro n
  induction n using Nat.strongRecOn with
  | _ n ih =>
   intro l a w rest hJ hf
   obtain ⟨rest', hf', hp⟩ := pass l n a w hJ
   rw [hf] at hf'
   cases hf'
   obtain ⟨e, a₁, w₁, hq, harr⟩ := hp b (.inScope c :: k) cs
   cases e with
   | normal => exact ⟨.normal, a₁, w₁, hq, Steps.trans harr (.one step_inScope)⟩
   | exit id => exact ⟨.exit id, a₁, w₁, hq, fun k' hk => harr k' (by simp [exitTo, hk])⟩
   | goto l' =>
    obtain ⟨n', hlt, hJ'⟩ := hq
    obtain ⟨rest2, hf2, _⟩ := pass l' n' a₁ w₁ hJ'
    obtain ⟨e₂, a₂, w₂, hq₂, harr₂⟩ := ih n' hlt l' a₁ w₁ rest2 hJ' hf2
    exact ⟨e₂, a₂, w₂, hq₂, .of_steps (harr _ (hg l' rest2 hf2)) harr₂⟩
   | ret => exact ⟨_, a₁, w₁, hq, harr⟩
   | panic ch => exact ⟨_, a₁, w₁, hq, harr⟩
   | outgrown => exact ⟨_, a₁, w₁, hq, harr⟩
 obtain ⟨e, a₁, w₁, hq, harr⟩ := first b (.inScope c :: k) cs
 cases e with
 | normal => exact ⟨.normal, a₁, w₁, hq, .head step_scope (Steps.trans harr (.one step_inScope))⟩
 | exit id => exact ⟨.exit id, a₁, w₁, hq, fun k' hk => .head step_scope (harr k' (by simp [exitTo, hk]))⟩
 | goto l' =>
  obtain ⟨n', hJ'⟩ := hq
  obtain ⟨rest2, hf2, _⟩ := pass l' n' a₁ w₁ hJ'
  obtain ⟨e₂, a₂, w₂, hq₂, harr₂⟩ := key n' l' a₁ w₁ rest2 hJ' hf2
  exact ⟨e₂, a₂, w₂, hq₂, .of_steps (.head step_scope (harr _ (hg l' rest2 hf2))) harr₂⟩
 | ret => exact ⟨_, a₁, w₁, hq, .of_steps (.one step_scope) harr⟩
 | panic ch => exact ⟨_, a₁, w₁, hq, .of_steps (.one step_scope) harr⟩
 | outgrown => exact ⟨_, a₁, w₁, hq, .of_steps (.one step_scope) harr⟩
def noSel (o : Oper) : Bool := match o.op with | .select .. => false | _ => true
def lexP (md : Region.Mode) (ops : Array Oper) : List Oper → Nat → Bool
 | [], _ => true
 | o :: rest, k => noSel o && o.after.toList.all (fun e => !Region.binds md e || Nat.blt e.on k) && rest.all (fun oj => oj.after.toList.any (fun e => Region.binds md e && Nat.beq e.on k) || o.apart ops oj) && lexP md ops rest (k + 1)
theorem lexP_sel {md : Region.Mode} {ops : Array Oper} : ∀ (l : List Oper) (k : Nat), lexP md ops l k = true → l.all noSel = true
 | [], _, _ => rfl
 | o :: l, k, h => by
  simp only [lexP, Bool.and_eq_true] at h
  rw [List.all_cons, h.1.1.1, lexP_sel l (k + 1) h.2]; rfl
theorem lexP_from {md : Region.Mode} {ops : Array Oper} : ∀ (l : List Oper) (k : Nat) (listed : Array Bool), (∀ j, l[j]? = ops[k + j]?) → listed.size = ops.size → k + l.length = ops.size →
  (∀ i, i < ops.size → listed[i]? = some (decide (i < k))) → lexP md ops l k = true → Region.lexFrom md ops l.length k listed = true
 | [], k, listed, hl, hs, hk, hi, _ => by
  simp only [List.length_nil, Region.lexFrom, List.isEmpty_iff]
  rw [List.eq_nil_iff_forall_not_mem]
  intro i hm
  obtain ⟨h1, oj, h2, h3⟩ := mem_ready.1 hm
  have h4 := (Array.getElem?_eq_some_iff.1 h2).1
  have h5 := hi i h4
  rw [Array.getD_eq_getD_getElem?, h5] at h1
  simp at h1 hk
  omega
 | o :: l, k, listed, hl, hs, hk, hi, h => by
  simp only [lexP, Bool.and_eq_true] at h
  obtain ⟨⟨⟨h1, h2⟩, h3⟩, h4⟩ := h
  have h0 : ops[k]? = some o := by simpa using (hl 0).symm
  have hks : k < ops.size := (Array.getElem?_eq_some_iff.1 h0).1
  simp only [List.length_cons, Region.lexFrom, Bool.and_eq_true]
  refine ⟨⟨?_, ?_⟩, ?_⟩
  ·rw [List.contains_iff_mem]
   refine mem_ready.2 ⟨by rw [Array.getD_eq_getD_getElem?, hi k hks]; simp, o, h0, fun e he hb => ?_⟩
   have h5 := List.all_eq_true.1 h2 e (Array.mem_toList_iff.2 he)
   rw [hb] at h5
   have h6 : e.on < k := by simpa using h5
   rw [Array.getD_eq_getD_getElem?, hi e.on (by omega)]
   simpa using h6
  ·simp only [Region.free, h0, List.all_eq_true, List.mem_range]
   intro j hj
   simp only [Bool.or_eq_true, beq_iff_eq]
   rcases Nat.lt_trichotomy j k with h9 | h9 | h9
   ·exact .inl (.inr (by rw [Array.getD_eq_getD_getElem?, hi j hj]; simpa using h9))
   ·exact .inl (.inl h9)
   refine .inr ?_
   obtain ⟨d, rfl⟩ : ∃ d, j = k + (d + 1) := ⟨j - k - 1, by omega⟩
   have h7 := hl (d + 1)
   rw [List.getElem?_cons_succ] at h7
   rw [← h7]
   cases h8 : l[d]? with
   | none => rfl
   | some oj =>
    have h5 := List.all_eq_true.1 h3 oj (List.mem_of_getElem? h8)
    simp only [Bool.or_eq_true] at h5 ⊢
    rcases h5 with h5 | h5
    ·obtain ⟨e, he, hb⟩ := List.any_eq_true.1 h5
     refine .inl (Array.any_eq_true'.2 ⟨e, Array.mem_toList_iff.1 he, ?_⟩)
     simpa using hb
    exact .inr h5
  refine lexP_from l (k + 1) _ (fun j => by have := hl (j + 1); simpa [Nat.add_assoc, Nat.add_comm 1 j] using this) (by simpa using hs) (by simp at hk; omega) ?_ h4
  intro i hi2
  rw [Array.getElem?_setIfInBounds]
  split
  ·rename_i e; subst e; rw [if_pos (by omega)]; simp
  rename_i e
  rw [hi i hi2]
  congr 1
  rw [decide_eq_decide]; omega
theorem lexP_lexB {l : List Oper} (h : lexP .any l.toArray l 0 = true) : Region.lexB .any l.toArray = true := by
 unfold Region.lexB
 rw [Bool.and_eq_true]
 refine ⟨?_, lexP_from l 0 _ (fun j => by simp) (by simp) (by simp) (fun i hi => ?_) h⟩
 ·have := lexP_sel l 0 h
  unfold Region.noSelect
  rw [← Array.all_toList]
  exact this
 rw [Array.getElem?_replicate, if_pos hi]; simp
variable {P : Program}
theorem wp_region_quiet_fast {id : Nat} {Q : Exit → Act → World → Prop} {a : Act} {w : World} {l : List Oper} (hm : P.follows .mixedOrders = true) (hB : lexP .any l.toArray l 0 = true)
  (h : wpQuiet P l.toArray (fun w' => ∃ n, w' = w.drewN n) (fun a' => ∀ w', (∃ n, w' = w.drewN n) → Q .normal a' w') l a) : (Code.region id l.toArray true).wp P Q a w :=
 wp_region_quiet_lit hm (lexP_lexB hB) h
end Go.Proofs.YtfclfaidmipjpaaGreatDoor
