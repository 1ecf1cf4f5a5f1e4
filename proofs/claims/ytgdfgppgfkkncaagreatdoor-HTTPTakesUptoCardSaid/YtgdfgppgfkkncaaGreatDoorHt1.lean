/- The walks of only, token, trim, first and header. -/
import Derived.Test.YtgdfgppgfkkncaaGreatDoorHtE
namespace Go.Proofs.YtgdfgppgfkkncaaGreatDoor
open Go.RowKit

/-- The function F tells whether a byte is such. -/
structure Tells (F : FuncId) (p : UInt8 → Bool) : Prop where
  calls : ∀ (w : World) (c : UInt8), Calls Tryz.prog F #[.int .u8 (c.toNat : Int)] w fun e w' => e = .returned (.bool (p c)) ∧ w = w'
  enters : ∀ (args : Array Value) (w : World), (callFunc F args).run Tryz.prog w = .ok (.enter F args) w
theorem tells_upper : Tells 64 upB := ⟨upper_calls, fun _ _ => by kernel_rfl⟩
theorem tells_digit : Tells 46 dgB := ⟨digit_calls, fun _ _ => by kernel_rfl⟩
theorem tells_addr : Tells 66 adB := ⟨addr_calls, fun _ _ => by kernel_rfl⟩
theorem tells_valc : Tells 70 vaB := ⟨valc_calls, fun _ _ => by kernel_rfl⟩

set_option maxRecDepth 100000 in
theorem onlyC_calls (F : FuncId) (p : UInt8 → Bool) (hF : Tells F p) (w : World) (b : Nat) (c : UInt8) (hb : w.cell? ⟨b, 0, none⟩ = some (.func (.func F) #[] #[])) :
    Calls Tryz.prog 82 #[.int .u8 (c.toNat : Int), .pointer (some ⟨b, 0, none⟩)] w fun e w' => e = .returned (.bool (!p c)) ∧ w = w' := by
  have HF := Lib.hid hF
  have hen := hF.enters
  clear hF
  go_enter Tryz.func82, Tryz.ntmps82
  go_wp2_with fail
  refine (HF.out.calls w c).mono ?_
  rintro e w2 ⟨rfl, rfl⟩
  go_wp2_with fail
  go_ret
  exact ⟨rfl, rfl⟩
/-- The index of the first byte that is not such. -/
def IdxOut (p : UInt8 → Bool) (l : List UInt8) (e : Ending) : Prop := ∃ i : Int, e = .returned (.int .i64 i) ∧ decide (0 ≤ i) = !l.all p
set_option maxRecDepth 100000 in
theorem indexF_calls (F : FuncId) (p : UInt8 → Bool) (hF : Tells F p) (w : World) (b : Nat) (hb : w.cell? ⟨b, 0, none⟩ = some (.func (.func F) #[] #[])) (v : Value) (l : List UInt8) (hl : BytS w v l) :
    Calls Tryz.prog 118 #[v, .func (.func 82) #[] #[.pointer (some ⟨b, 0, none⟩)]] w fun e w' => IdxOut p l e ∧ w = w' := by
  have HF := Lib.hid hF
  have HL := Lib.hid hl
  have HB := Lib.hid hb
  obtain ⟨q, cap, rfl, hcap, hmx, hq⟩ := hl.open
  unfold maxLen at hmx
  have Hq := Lib.hid hq
  clear hF hl hb hq
  go_enter Tryz.func118, Tryz.ntmps118
  go_wp2_with fail
  go_loopg [8] l.length (fun k i wr => ∃ j : Nat, k = l.length - j ∧ j ≤ l.length ∧ i = .int .i64 j ∧ (l.take j).all p = true ∧ w = wr)
  case atStart => exact ⟨0, rfl, by omega, rfl, by simp, rfl⟩
  case round =>
    obtain ⟨j, hk, hj, rfl, ha, rfl⟩ := hrel
    have Hk := Lib.hid hk
    have Ha := Lib.hid ha
    clear hk ha
    by_cases hlt : j < l.length
    · have hlt' : (j : Int) < l.length := by omega
      obtain ⟨b2, off2, rfl⟩ := Hq.out (by omega)
      have hc := HL.out.at j hlt
      have hts : l.take (j + 1) = l.take j ++ [l.getD j 0] := by rw [List.take_add_one, List.getElem?_eq_getElem hlt]; simp [List.getElem?_eq_getElem hlt]
      have hmem : l.getD j 0 ∈ l := by simp [List.getElem?_eq_getElem hlt]
      have Hts := Lib.hid hts
      have Hmem := Lib.hid hmem
      clear hts hmem
      generalize l.getD j 0 = c at *
      go_wp2_with fail
      refine (onlyC_calls F p HF.out w b c HB.out).mono ?_
      rintro e w2 ⟨rfl, rfl⟩
      cases hp : p c with
      | true =>
        have Hp := Lib.hid hp
        clear hp
        go_wp2_with fail
        go_roundg (l.length - (j + 1))
        case measure => have := Hk.out; omega
        case rel => exact ⟨j + 1, rfl, by omega, by go_num, by rw [Hts.out, List.all_append, Ha.out]; simp [Hp.out], rfl⟩
      | false =>
        have Hp := Lib.hid hp
        clear hp
        go_wp2_with fail
        go_ret
        refine ⟨⟨(j : Int), rfl, ?_⟩, rfl⟩
        have hf : l.all p = false := by
          rw [Bool.eq_false_iff]
          intro h
          have := List.all_eq_true.1 h c Hmem.out
          rw [Hp.out] at this; cases this
        rw [hf]; simp
    · have hlt' : ¬ (j : Int) < l.length := by omega
      obtain rfl : j = l.length := by omega
      go_wp2_with fail
      go_ret
      refine ⟨⟨-1, rfl, ?_⟩, rfl⟩
      have := Ha.out
      rw [List.take_of_length_le (Nat.le_refl _)] at this
      rw [this]; rfl
set_option maxRecDepth 100000 in
theorem containsF_calls (F : FuncId) (p : UInt8 → Bool) (hF : Tells F p) (w : World) (b : Nat) (hb : w.cell? ⟨b, 0, none⟩ = some (.func (.func F) #[] #[])) (v : Value) (l : List UInt8) (hl : BytS w v l) :
    Calls Tryz.prog 81 #[v, .func (.func 82) #[] #[.pointer (some ⟨b, 0, none⟩)]] w fun e w' => e = .returned (.bool (!l.all p)) ∧ w = w' := by
  have H := Lib.hid (indexF_calls F p hF w b hb v l hl)
  clear hF hb hl
  go_enter Tryz.func81, Tryz.ntmps81
  go_wp2_with fail
  refine H.out.mono ?_
  rintro e w2 ⟨⟨i, rfl, hi⟩, rfl⟩
  have Hi := Lib.hid hi
  clear hi H
  go_wp2_with fail
  go_ret
  exact ⟨by rw [← Hi.out]; rfl, rfl⟩
set_option maxRecDepth 100000 in
set_option maxHeartbeats 1000000 in
theorem only_calls (F : FuncId) (p : UInt8 → Bool) (hF : Tells F p) (w : World) (l : List UInt8) (hl : l.length ≤ maxLen) :
    Calls Tryz.prog 45 #[.string ⟨l.toArray⟩, .func (.func F) #[] #[]] w fun e w' => e = .returned (.bool (l.all p)) ∧ Below w.heap.size w w' := by
  have HF := Lib.hid hF
  have hb := (Below.refl _ w).alloc (Nat.le_refl _) (.cells #[.func (.func F) #[] #[]] 94)
  have hcell : (w.alloc (.cells #[.func (.func F) #[] #[]] 94)).cell? ⟨w.heap.size, 0, none⟩ = some (.func (.func F) #[] #[]) := by rw [World.cell?_alloc_at _ _ _ _ rfl]; rfl
  obtain ⟨cap, hconv, hby, hbb⟩ := BytS.ofString (w.alloc (.cells #[.func (.func F) #[] #[]] 94)) l hl
  rw [World.size_alloc] at hconv hby
  have HBy := Lib.hid hby
  have Hbb := Lib.hid hbb
  have hcell2 := (hbb.cell (p := ⟨w.heap.size, 0, none⟩) (by simp)).trans hcell
  have HC := Lib.hid hcell2
  clear hF hcell hby hbb hcell2
  go_enter Tryz.func45, Tryz.ntmps45
  go_wp2_with fail
  refine (containsF_calls F p HF.out _ _ HC.out _ l HBy.out).mono ?_
  rintro e w2 ⟨rfl, rfl⟩
  have hbf := hb.trans (Hbb.out.mono (by simp))
  clear HBy HC Hbb hb hconv
  go_wp2_with fail
  go_ret
  exact ⟨by simp, hbf⟩

theorem signs_iff (c : UInt8) : decide (0 ≤ Lib.indexByte signs c) = signs.contains c := (Lib.contains_iff_indexByte signs c).symm
set_option maxRecDepth 100000 in
set_option maxHeartbeats 1000000 in
theorem token_calls (w : World) (c : UInt8) : Calls Tryz.prog 69 #[.int .u8 (c.toNat : Int)] w fun e w' => e = .returned (.bool (tkB c)) ∧ w = w' := by
  have hc := c.toNat_lt
  have Hix : Hid (∀ w : World, Calls Tryz.prog 104 #[.string ⟨#[33, 35, 36, 37, 38, 39, 42, 43, 45, 46, 94, 95, 96, 124, 126]⟩, .int .u8 (c.toNat : Int)] w fun e w' => e = .returned (.int .i64 (Lib.indexByte signs c)) ∧ w = w') := fun w => by
    have h := Tryz.strings_IndexByte ⟨#[33, 35, 36, 37, 38, 39, 42, 43, 45, 46, 94, 95, 96, 124, 126]⟩ (c.toNat : Int) w
    rw [show ((c.toNat : Int)).toNat.toUInt8 = c by simp] at h
    exact same h
  cases hd : dgB c with
  | true =>
    have HT : Hid (tkB c = true) := by show tkB c = true; unfold tkB; rw [hd]; rfl
    have Hd := Lib.hid hd
    clear hd
    go_enter Tryz.func69, Tryz.ntmps69
    go_wp2_with fail
    refine (digit_calls w c).mono ?_
    rintro e w2 ⟨rfl, rfl⟩
    rw [Hd.out]
    go_wp2_with fail
    go_ret
    exact ⟨by rw [HT.out]; rfl, rfl⟩
  | false =>
    cases hu : upB c with
    | true =>
      have HT : Hid (tkB c = true) := by show tkB c = true; unfold tkB; rw [hd, hu]; rfl
      have Hd := Lib.hid hd
      have Hu := Lib.hid hu
      clear hd hu
      go_enter Tryz.func69, Tryz.ntmps69
      go_wp2_with fail
      refine (digit_calls w c).mono ?_
      rintro e w2 ⟨rfl, rfl⟩
      rw [Hd.out]
      go_wp2_with fail
      refine (upper_calls w c).mono ?_
      rintro e w2 ⟨rfl, rfl⟩
      rw [Hu.out]
      go_wp2_with fail
      go_ret
      exact ⟨by rw [HT.out]; rfl, rfl⟩
    | false =>
      by_cases hl : 97 ≤ c.toNat ∧ c.toNat ≤ 122
      · obtain ⟨h1, h2⟩ := hl
        have h1' : decide ((97 : Int) ≤ (c.toNat : Int)) = true := by simp; omega
        have h2' : decide ((c.toNat : Int) ≤ 122) = true := by simp; omega
        have HT : Hid (tkB c = true) := by show tkB c = true; unfold tkB loB; rw [hd, hu, decide_eq_true h1, decide_eq_true h2]; rfl
        have Hd := Lib.hid hd
        have Hu := Lib.hid hu
        clear hd hu
        go_enter Tryz.func69, Tryz.ntmps69
        go_wp2_with fail
        refine (digit_calls w c).mono ?_
        rintro e w2 ⟨rfl, rfl⟩
        rw [Hd.out]
        go_wp2_with fail
        refine (upper_calls w c).mono ?_
        rintro e w2 ⟨rfl, rfl⟩
        rw [Hu.out]
        go_wp2_with fail
        go_ret
        exact ⟨by rw [HT.out]; rfl, rfl⟩
      · have HT : Hid (tkB c = decide (0 ≤ Lib.indexByte signs c)) := by
          show tkB c = _
          rw [signs_iff]; unfold tkB loB; rw [hd, hu, Bool.false_or, Bool.false_or]
          have : (decide (97 ≤ c.toNat) && decide (c.toNat ≤ 122)) = false := by
            rw [Bool.and_eq_false_iff, decide_eq_false_iff_not, decide_eq_false_iff_not]; omega
          rw [this, Bool.false_or]
        have Hd := Lib.hid hd
        have Hu := Lib.hid hu
        have Hl := Lib.hid hl
        clear hd hu hl
        by_cases h1 : 97 ≤ c.toNat
        · have h1' : decide ((97 : Int) ≤ (c.toNat : Int)) = true := by simp; omega
          have h2' : decide ((c.toNat : Int) ≤ 122) = false := by have := Hl.out; simp; omega
          go_enter Tryz.func69, Tryz.ntmps69
          go_wp2_with fail
          refine (digit_calls w c).mono ?_
          rintro e w2 ⟨rfl, rfl⟩
          rw [Hd.out]
          go_wp2_with fail
          refine (upper_calls w c).mono ?_
          rintro e w2 ⟨rfl, rfl⟩
          rw [Hu.out]
          go_wp2_with fail
          refine (Hix.out w).mono ?_
          rintro e w2 ⟨rfl, rfl⟩
          go_wp2_with fail
          go_ret
          exact ⟨by rw [HT.out]; rfl, rfl⟩
        · have h1' : decide ((97 : Int) ≤ (c.toNat : Int)) = false := by simp; omega
          go_enter Tryz.func69, Tryz.ntmps69
          go_wp2_with fail
          refine (digit_calls w c).mono ?_
          rintro e w2 ⟨rfl, rfl⟩
          rw [Hd.out]
          go_wp2_with fail
          refine (upper_calls w c).mono ?_
          rintro e w2 ⟨rfl, rfl⟩
          rw [Hu.out]
          go_wp2_with fail
          refine (Hix.out w).mono ?_
          rintro e w2 ⟨rfl, rfl⟩
          go_wp2_with fail
          go_ret
          exact ⟨by rw [HT.out]; rfl, rfl⟩
theorem tells_token : Tells 69 tkB := ⟨token_calls, fun _ _ => by kernel_rfl⟩

theorem dropWhile_app {p : UInt8 → Bool} (x y : List UInt8) : (x ++ y).dropWhile p = if x.dropWhile p = [] then y.dropWhile p else x.dropWhile p ++ y := by
  induction x with
  | nil => simp
  | cons a x ih =>
    rw [List.cons_append, List.dropWhile_cons, List.dropWhile_cons]
    by_cases h : p a = true
    · rw [if_pos h, if_pos h]; exact ih
    · rw [if_neg h, if_neg h]; simp
/-- Which end comes first does not matter. -/
theorem trim_flip (p : UInt8 → Bool) (l : List UInt8) : ((l.reverse.dropWhile p).reverse).dropWhile p = ((l.dropWhile p).reverse.dropWhile p).reverse := by
  induction l with
  | nil => rfl
  | cons a l ih =>
    rw [List.reverse_cons, dropWhile_app]
    by_cases h : p a = true
    · have e2 : (a :: l).dropWhile p = l.dropWhile p := by rw [List.dropWhile_cons, if_pos h]
      rw [e2, ← ih]
      by_cases hn : l.reverse.dropWhile p = []
      · rw [if_pos hn, hn]; simp [h]
      · rw [if_neg hn]; simp [h]
    · have e1 : (a :: l).dropWhile p = a :: l := by rw [List.dropWhile_cons, if_neg h]
      rw [e1, List.reverse_cons, dropWhile_app]
      by_cases hn : l.reverse.dropWhile p = []
      · rw [if_pos hn]; simp [h]
      · rw [if_neg hn]; simp [h]
theorem trimS_lib (l : List UInt8) : Lib.trimS l [32, 9] = trimS l := by
  have e : (fun c : UInt8 => [32, 9].contains c) = blB := by
    funext c
    simp [blB, List.contains, List.elem]
    cases (c == 32) <;> cases (c == 9) <;> rfl
  show ((l.reverse.dropWhile (fun c => [32, 9].contains c)).reverse).dropWhile (fun c => [32, 9].contains c) = _
  rw [e]
  exact trim_flip blB l
theorem trimS_len (l : List UInt8) : (trimS l).length ≤ l.length := by
  unfold trimS
  have h1 := (List.dropWhile_sublist (l := l) blB).length_le
  have h2 := (List.dropWhile_sublist (l := (l.dropWhile blB).reverse) blB).length_le
  simp at h2 ⊢
  omega
theorem trim_calls (w : World) (l : List UInt8) (hl : l.length ≤ maxLen) : Calls Tryz.prog 71 #[.string ⟨l.toArray⟩] w fun e w' => e = .returned (.string ⟨(trimS l).toArray⟩) ∧ Below w.heap.size w w' := by
  have h := Any.strings_Trim_laid Tryz.lays160 (by kernel_rfl) ⟨l.toArray⟩ ⟨#[32, 9]⟩ w (by unfold maxLen at hl; simpa [ByteArray.size] using hl) (by decide) (by
    intro j b hj
    have : b ∈ [(32 : UInt8), 9] := List.mem_of_getElem? hj
    simp at this
    rcases this with rfl | rfl <;> decide)
  rw [show (⟨l.toArray⟩ : ByteArray).data.toList = l from rfl, show (⟨#[32, 9]⟩ : ByteArray).data.toList = [32, 9] from rfl, trimS_lib] at h
  have H := Lib.hid h
  clear h
  go_enter Tryz.func71, Tryz.ntmps71
  go_wp2_with fail
  refine H.out.mono ?_
  rintro e w2 ⟨rfl, hb⟩
  go_wp2_with fail
  go_ret
  exact ⟨rfl, hb⟩
end Go.Proofs.YtgdfgppgfkkncaaGreatDoor
