/- A body's length is read. -/
import Derived.Test.YtgdfgppgfkkncaaGreatDoorHtE
import Derived.Test.YtgdfgppgfkkncaaGreatDoorHtL
namespace Go.Proofs.YtgdfgppgfkkncaaGreatDoor
open Go.RowKit

def step10 (a : Nat) (c : UInt8) : Nat := 10 * a + (c.toNat - 48)
theorem decV_eq (l : List UInt8) : decV l = l.foldl step10 0 := rfl
theorem dg_nat {c : UInt8} (h : dgB c = true) : 48 ≤ c.toNat ∧ c.toNat ≤ 57 := by
  simp [dgB] at h; exact h
theorem fold_le : ∀ (l : List UInt8) (a : Nat), a ≤ l.foldl step10 a
  | [], a => Nat.le_refl _
  | c :: r, a => Nat.le_trans (by unfold step10; omega) (fold_le r (step10 a c))
theorem fold_lt : ∀ (l : List UInt8) (a : Nat), l.all dgB = true → l.foldl step10 a < (a + 1) * 10 ^ l.length
  | [], a, _ => by simp
  | c :: r, a, h => by
    rw [List.all_cons, Bool.and_eq_true] at h
    have h1 := fold_lt r (step10 a c) h.2
    have h2 := dg_nat h.1
    have h3 : step10 a c + 1 ≤ (a + 1) * 10 := by unfold step10; omega
    refine Nat.lt_of_lt_of_le h1 ?_
    rw [List.length_cons, Nat.pow_succ, Nat.mul_comm (10 ^ r.length) 10, ← Nat.mul_assoc]
    exact Nat.mul_le_mul_right _ h3
theorem parse_fold : ∀ (l : List UInt8) (a : Nat), l.all dgB = true → l.foldl step10 a < 1000000000000000000 → Lib.parseUint10 a l = .ok (l.foldl step10 a)
  | [], a, _, _ => rfl
  | c :: r, a, h, hb => by
    rw [List.all_cons, Bool.and_eq_true] at h
    have h2 := dg_nat h.1
    have h3 := fold_le r (step10 a c)
    rw [List.foldl_cons] at hb ⊢
    have h4 : a * 10 + (c.toNat - 48) = step10 a c := by unfold step10; omega
    have h5 : a ≤ step10 a c := by unfold step10; omega
    rw [Lib.parseUint10, if_pos h2, if_neg (by omega), h4, if_neg (by omega)]
    exact parse_fold r _ h.2 hb
theorem atoi_length {l : List UInt8} {n : Nat} (h : lengthS l = some n) : Lib.atoiAll l = .ok (n : Int) ∧ n < 1000000000000000000 := by
  unfold lengthS at h
  split at h
  · rename_i hc
    obtain ⟨h1, h2, h3⟩ := hc
    injection h with h
    subst h
    cases l with
    | nil => simp at h1
    | cons c r =>
      have hlt : decV (c :: r) < 1000000000000000000 := by
        have h4 := fold_lt (c :: r) 0 h3
        refine Nat.lt_of_lt_of_le h4 ?_
        rw [Nat.zero_add, Nat.one_mul]
        exact Nat.le_trans (Nat.pow_le_pow_right (by decide) h2) (by decide)
      have hd := dg_nat (by rw [List.all_cons, Bool.and_eq_true] at h3; exact h3.1)
      refine ⟨?_, hlt⟩
      unfold Lib.atoiAll
      have e1 : ¬ c.toNat = 45 := by omega
      have e2 : ¬ c.toNat = 43 := by omega
      simp only [e1, e2, or_self, if_false]
      rw [Lib.parseMag, if_neg (by simp), parse_fold (c :: r) 0 h3 hlt]
      rw [decV_eq] at hlt ⊢
      generalize List.foldl step10 0 (c :: r) = d at hlt ⊢
      have h9 : ¬ 9223372036854775808 ≤ d := by omega
      simp [h9]
  · cases h
/-- How the length's number comes. -/
def AtoiEnd (l : List UInt8) (v : Int) (er : Value) : Prop :=
  (er = .nilIface ∨ ∃ t p, er = .iface t p) ∧ (∀ n, lengthS l = some n → v = n ∧ er = .nilIface) ∧ (er = .nilIface → l ≠ [])
theorem atoi_calls (w : World) (he : Env w) (l : List UInt8) (hl : l.length ≤ 1000000000) :
    Calls Tryz.prog 44 #[.string ⟨l.toArray⟩] w fun e w' => (∃ v er, AtoiEnd l v er ∧ e = .returned (.tuple #[.int .i64 v, er])) ∧ Below w.heap.size w w' := by
  have hsz : (⟨l.toArray⟩ : ByteArray).size = l.length := by simp [ByteArray.size]
  have hno : (∀ v, Lib.atoiAll l ≠ .ok v) → ∀ n, lengthS l = some n → False := fun h n hn => h _ (atoi_length hn).1
  rcases hr : Lib.atoiAll l with v | _ | _
  · refine (Tryz.strconv_Atoi_ok ⟨l.toArray⟩ (by rw [hsz]; omega) v hr w).mono ?_
    rintro e w' ⟨rfl, h2⟩
    refine ⟨⟨v, .nilIface, ⟨.inl rfl, fun n hn => ⟨?_, rfl⟩, fun _ e => ?_⟩, rfl⟩, ?_⟩
    · rw [(atoi_length hn).1] at hr; injection hr with hr; exact hr.symm
    · subst e; cases hr
    · rcases h2 with rfl | ⟨t, rfl⟩
      · exact Below.refl _ _
      · exact Lib.bytesWorld_below _ _ _
  · obtain ⟨tp, p, hv⟩ := he.syn
    refine (Any.strconv_Atoi_syntax_var Tryz.laysC172 ⟨l.toArray⟩ (by rw [hsz]; omega) hr tp p w hv).mono ?_
    rintro e w' ⟨N, rfl, _, _, hb⟩
    exact ⟨⟨_, _, ⟨.inr ⟨_, _, rfl⟩, fun n hn => (hno (fun v => by rw [hr]; simp) n hn).elim, fun e => by cases e⟩, rfl⟩, hb⟩
  · obtain ⟨tp, p, hv⟩ := he.range
    refine (Tryz.strconv_Atoi_range_var ⟨l.toArray⟩ (by rw [hsz]; omega) hr tp p w hv).mono ?_
    rintro e w' ⟨N, rfl, _, _, hb⟩
    exact ⟨⟨_, _, ⟨.inr ⟨_, _, rfl⟩, fun n hn => (hno (fun v => by rw [hr]; simp) n hn).elim, fun e => by cases e⟩, rfl⟩, hb⟩
theorem count_coding {hs : List Hdr} (h : 0 < (valuesS hs nCoding).length) : countS hs = (0, 384) := by
  unfold countS
  rw [if_pos (fun e => by rw [e] at h; simp at h)]
theorem count_end {hs : List Hdr} (hc : (valuesS hs nCoding).length = 0) {v : Int} {er : Value} (hA : ((valuesS hs nLength).length = 0 ∧ v = 0 ∧ er = .nilIface) ∨ (0 < (valuesS hs nLength).length ∧ AtoiEnd ((valuesS hs nLength).getLastD []) v er)) :
    (((valuesS hs nHost).length ≠ 1 ∨ 1 < (valuesS hs nLength).length ∨ er ≠ .nilIface ∨ ((valuesS hs nLength).getLastD []).all dgB = false ∨ 18 < ((valuesS hs nLength).getLastD []).length) → countS hs = (0, 380)) ∧
    ((valuesS hs nHost).length = 1 → (valuesS hs nLength).length ≤ 1 → er = .nilIface → ((valuesS hs nLength).getLastD []).all dgB = true → ((valuesS hs nLength).getLastD []).length ≤ 18 →
      ∃ n : Nat, v = (n : Int) ∧ n < 1000000000000000000 ∧ countS hs = if n ≤ 1048576 then (n, 0) else (0, 381)) := by
  have hc0 : valuesS hs nCoding = [] := List.length_eq_zero_iff.1 hc
  unfold countS
  rw [if_neg (fun h => h hc0)]
  generalize valuesS hs nLength = L at *
  match L, hA with
  | [], hA =>
    rcases hA with ⟨_, rfl, rfl⟩ | ⟨h, _⟩
    · refine ⟨fun h => ?_, fun h _ _ _ _ => ⟨0, rfl, by decide, ?_⟩⟩
      · have hH : (valuesS hs nHost).length ≠ 1 := by simpa using h
        simp [hH]
      · simp [h]
    · simp at h
  | [l], hA =>
    rcases hA with ⟨h, _⟩ | ⟨_, h1, h2, h3⟩
    · simp at h
    · simp only [List.getLastD_cons, List.getLastD_nil, List.length_singleton] at h1 h2 h3 ⊢
      refine ⟨fun h => ?_, fun hH _ he hd hl => ?_⟩
      · cases hn : lengthS l with
        | none => rfl
        | some n =>
          have h4 := h2 n hn
          have h5 : 1 ≤ l.length ∧ l.length ≤ 18 ∧ l.all dgB = true := by
            unfold lengthS at hn
            split at hn
            · assumption
            · cases hn
          have hH : (valuesS hs nHost).length ≠ 1 := by
            rcases h with h | h | h | h | h
            · exact h
            · omega
            · exact absurd h4.2 h
            · rw [h5.2.2] at h; cases h
            · omega
          simp [hH]
      · have hne := h3 he
        have hl1 : 1 ≤ l.length := List.length_pos_iff.2 hne
        have hn : lengthS l = some (decV l) := by unfold lengthS; rw [if_pos ⟨hl1, hl, hd⟩]
        refine ⟨decV l, (h2 _ hn).1, (atoi_length hn).2, ?_⟩
        simp [hn, hH]
  | a :: b :: t, hA =>
    refine ⟨fun _ => rfl, fun _ h => ?_⟩
    simp at h
end Go.Proofs.YtgdfgppgfkkncaaGreatDoor
