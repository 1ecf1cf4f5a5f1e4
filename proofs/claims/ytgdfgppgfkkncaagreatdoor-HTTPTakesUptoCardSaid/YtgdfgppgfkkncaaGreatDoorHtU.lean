/- Small letters, of any bytes: which texts become 'close'; lists of headers. -/
import Derived.Test.YtgdfgppgfkkncaaGreatDoorHt3
import Derived.Lib.MapU
namespace Go.Proofs.YtgdfgppgfkkncaaGreatDoor

/-- No row of the table leads from beyond ASCII to a letter of 'close'. -/
def rowOk (x : Lib.CaseRow) : Bool := decide (x.2.1 < 128) || (decide (128 ≤ x.1) && (decide (x.delta 1 > 1114111) || [99, 108, 111, 115, 101].all (fun t : Int => !(decide ((x.1 : Int) ≤ t - x.delta 1) && decide (t - x.delta 1 ≤ (x.2.1 : Int))))))
theorem rows_ok : Lib.caseT.all rowOk = true := by decide +kernel
theorem row_ok (i : Nat) (hi : i < Lib.caseA.size) : rowOk (Lib.caseA.getD i (0, 0, 0, 0, 0)) = true := by
  have hm : Lib.caseA.getD i (0, 0, 0, 0, 0) ∈ Lib.caseT := by
    unfold Lib.caseA at hi ⊢
    simp only [List.size_toArray] at hi
    simp [Array.getD, hi]
  exact List.all_eq_true.1 rows_ok _ hm
def clL : List Int := [99, 108, 111, 115, 101]
theorem lower_high (r : Int) (h : 128 ≤ r) : Lib.toLowerU r ∉ clL := by
  have hbig : ∀ x : Int, 128 ≤ x → x ∉ clL := by
    intro x hx hm
    simp only [clL, List.mem_cons, List.not_mem_nil, or_false] at hm
    omega
  unfold Lib.toLowerU
  rw [if_neg (by omega)]
  unfold Lib.toR Lib.lookupGo
  cases hi : Lib.lookupIdx Lib.caseA r (Lib.caseA.size + 1) 0 Lib.caseA.size with
  | none => exact hbig r h
  | some i =>
    obtain ⟨hil, hlo, hhi⟩ := Lib.lookupIdx_some Lib.caseA r _ _ _ i hi
    have hr := row_ok i hil
    show Lib.convertR 1 r (Lib.caseA.getD i (0, 0, 0, 0, 0)) ∉ clL
    generalize Lib.caseA.getD i (0, 0, 0, 0, 0) = x at *
    unfold rowOk at hr
    rw [Bool.or_eq_true, decide_eq_true_eq, Bool.and_eq_true, decide_eq_true_eq, Bool.or_eq_true, decide_eq_true_eq] at hr
    rcases hr with hr | ⟨h1, h2⟩
    · omega
    · unfold Lib.convertR
      rcases h2 with h2 | h2
      · rw [if_pos h2]
        refine hbig _ ?_
        show 128 ≤ (x.1 : Int) + ((r - x.1) - (r - x.1) % 2 + ((1 % 2 : Nat) : Int))
        omega
      · by_cases hd : x.delta 1 > 1114111
        · rw [if_pos hd]
          refine hbig _ ?_
          show 128 ≤ (x.1 : Int) + ((r - x.1) - (r - x.1) % 2 + ((1 % 2 : Nat) : Int))
          omega
        · rw [if_neg hd]
          intro hm
          have := List.all_eq_true.1 h2 _ hm
          rw [Bool.not_eq_true', Bool.and_eq_false_iff, decide_eq_false_iff_not, decide_eq_false_iff_not] at this
          rcases this with h3 | h3
          · exact h3 (by omega)
          · exact h3 (by omega)
theorem enc_high (R : Int) (h : R ∉ clL) : ∃ y ∈ Lib.encodeRune R, y ∉ nClose := by
  have hh : ∀ y : UInt8, 128 ≤ y.toNat → y ∉ nClose := by
    intro y hy hm
    have ha : nClose.all (fun x => decide (x.toNat < 128)) = true := by decide
    have := List.all_eq_true.1 ha y hm
    simp at this; omega
  have h8 : ∀ x : Int, 128 ≤ x → x < 256 → 128 ≤ (x.toNat.toUInt8).toNat := by
    intro x h1 h2
    have : (x.toNat.toUInt8).toNat = x.toNat := by
      show x.toNat % 256 = _
      omega
    omega
  unfold Lib.encodeRune Lib.encodeRuneZ
  split
  · rename_i h1
    refine ⟨R.toNat.toUInt8, by simp, fun hm => h ?_⟩
    have hR : ((R.toNat.toUInt8).toNat : Int) = R := by
      have : (R.toNat.toUInt8).toNat = R.toNat % 256 := rfl
      omega
    have ha : nClose.all (fun x => clL.contains (x.toNat : Int)) = true := by decide
    have := List.all_eq_true.1 ha _ hm
    rw [hR] at this
    exact List.elem_iff.1 this
  · split
    · refine ⟨_, List.mem_map_of_mem (List.mem_cons_self ..), hh _ (h8 _ (by omega) (by omega))⟩
    · split
      · refine ⟨_, List.mem_map_of_mem (List.mem_cons_self ..), hh _ (h8 _ (by omega) (by omega))⟩
      · split
        · refine ⟨_, List.mem_map_of_mem (List.mem_cons_self ..), hh _ (h8 _ (by omega) (by omega))⟩
        · exact ⟨239, by simp, by decide⟩
theorem lower_other : ∀ (n : Nat) (l : List UInt8), l.length ≤ n → (∃ b ∈ l, 128 ≤ b.toNat) → ∃ y ∈ Lib.toLowerD l, y ∉ nClose := by
  intro n
  induction n with
  | zero =>
    intro l hl hb
    obtain rfl : l = [] := by simpa using hl
    obtain ⟨b, hb, _⟩ := hb
    simp at hb
  | succ n ih =>
    intro l hl hb
    cases l with
    | nil => obtain ⟨b, hb, _⟩ := hb; simp at hb
    | cons b t =>
      have hstep := Lib.mapD_step Lib.toLowerU (b :: t) (by simp)
      unfold Lib.toLowerD
      by_cases h : b.toNat < 128
      · have hd := Lib.decodeL_ascii b t h
        rw [hd] at hstep
        obtain ⟨c, hc, hc8⟩ := hb
        have ht : ∃ b ∈ t, 128 ≤ b.toNat := by
          rcases List.mem_cons.1 hc with rfl | hc
          · omega
          · exact ⟨c, hc, hc8⟩
        obtain ⟨y, hy, hy2⟩ := ih t (by simp at hl; omega) ht
        refine ⟨y, ?_, hy2⟩
        rw [hstep]
        exact List.mem_append_right _ hy
      · have hr : 128 ≤ (Lib.decodeL (b :: t)).1 ∧ (Lib.decodeL (b :: t)).1 ≤ 1114111 := by
          refine ⟨?_, Lib.decodeL_rune _⟩
          rw [Lib.decodeL_N]
          have h0 : ((b :: t).getD 0 0).toNat = b.toNat := rfl
          rcases Lib.decodeN_shape (b :: t).length ((b :: t).getD 0 0).toNat ((b :: t).getD 1 0).toNat ((b :: t).getD 2 0).toNat ((b :: t).getD 3 0).toNat with ⟨c, e⟩ | ⟨c1, c2, c3, cv, e⟩ | ⟨c1, c2, c3, c4, cv, cs, e⟩ | ⟨c1, c2, c3, c4, c5, cv, cw, e⟩ | e
          · omega
          all_goals (rw [e]; dsimp only; omega)
        have hR := lower_high ((Lib.decodeL (b :: t)).1 : Int) (by omega)
        have hR0 := Lib.toLowerU_range (Lib.decodeL (b :: t)).1 hr.2
        obtain ⟨y, hy, hy2⟩ := enc_high _ hR
        refine ⟨y, ?_, hy2⟩
        rw [hstep, if_pos hR0.1]
        exact List.mem_append_left _ hy
/-- 'strings.ToLower(x) == "close"'. -/
theorem lower_close (l : List UInt8) : (Lib.toLowerD l == nClose) = (smallS l == nClose) := by
  by_cases ha : ∀ b ∈ l, b.toNat < 128
  · rw [Lib.toLowerD_ascii l ha]
    unfold Lib.toLowerA smallS
    rw [show Lib.lowerB = smB from funext lowerB_sm]
  · have hb : ∃ b ∈ l, 128 ≤ b.toNat := by
      apply Classical.byContradiction
      intro hn
      refine ha (fun b hb => ?_)
      apply Classical.byContradiction
      intro h2
      exact hn ⟨b, hb, by omega⟩
    obtain ⟨y, hy, hy2⟩ := lower_other l.length l (Nat.le_refl _) hb
    obtain ⟨b, hb1, hb2⟩ := hb
    have h1 : (Lib.toLowerD l == nClose) = false := by
      rw [beq_eq_false_iff_ne]
      intro e; rw [e] at hy; exact hy2 hy
    have h2 : (smallS l == nClose) = false := by
      rw [beq_eq_false_iff_ne]
      intro e
      have hm : smB b ∈ smallS l := List.mem_map_of_mem hb1
      have hs : smB b = b := by unfold smB upB; rw [if_neg]; simp; omega
      rw [e, hs] at hm
      have hc : nClose.all (fun x => decide (x.toNat < 128)) = true := by decide
      have := List.all_eq_true.1 hc b hm
      simp at this; omega
    rw [h1, h2]

theorem valuesS_snoc (hs : List Hdr) (h : Hdr) (n : List UInt8) : valuesS (hs ++ [h]) n = valuesS hs n ++ (if h.name == n then [h.value] else []) := by
  unfold valuesS
  rw [List.filter_append, List.map_append]
  congr 1
  by_cases hn : (h.name == n) = true
  · simp [List.filter, hn]
  · simp [List.filter, hn]
theorem headersS_snoc : ∀ (l : List (List UInt8)) (x : List UInt8) (hs : List Hdr) (h : Hdr), headersS l = some hs → headerS x = some h → headersS (l ++ [x]) = some (hs ++ [h]) := by
  intro l
  induction l with
  | nil => intro x hs h h1 h2; simp [headersS] at h1; subst h1; simp [headersS, h2]
  | cons a l ih =>
    intro x hs h h1 h2
    rw [List.cons_append, headersS]
    rw [headersS] at h1
    cases ha : headerS a with
    | none => rw [ha] at h1; cases h1
    | some b =>
      rw [ha] at h1
      cases hl : headersS l with
      | none => rw [hl] at h1; cases h1
      | some bs =>
        rw [hl] at h1
        cases h1
        simp [ih x bs h hl h2]
theorem headersS_bad : ∀ (l : List (List UInt8)) (x : List UInt8) (r : List (List UInt8)), headerS x = none → headersS (l ++ x :: r) = none := by
  intro l
  induction l with
  | nil => intro x r h; simp [headersS, h]
  | cons a l ih =>
    intro x r h
    rw [List.cons_append, headersS, ih x r h]
    cases headerS a <;> rfl
end Go.Proofs.YtgdfgppgfkkncaaGreatDoor
