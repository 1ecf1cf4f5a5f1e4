/- Plain laws of HTTPBounds: heads of just so many bytes. -/
import Derived.Test.YtgdfgppgfkkncaaGreatDoorHrM
namespace Go.Proofs.YtgdfgppgfkkncaaGreatDoor

/-- One step of the search. -/
theorem index_skip {c : UInt8} {s : List UInt8} (hc : c ≠ 13) {i : Nat} (h : Lib.index s ends = i) : Lib.index (c :: s) ends = (i + 1 : Nat) := by
  rcases Lib.index_spec s ends with ⟨h1, _⟩ | ⟨k, h1, h2, h3, h4⟩
  · omega
  · obtain rfl : k = i := by omega
    refine Lib.index_hit (fun j hj => ?_) (by simp; omega) (by rw [occ_succ]; exact h3)
    cases j with
    | zero => simp [Lib.occAt, ends, List.isPrefixOf]; exact fun e => absurd e.symm hc
    | succ j => rw [occ_succ]; exact h4 j (by omega)
theorem index_skip13 {d : UInt8} {s : List UInt8} (hd : d ≠ 13) {i : Nat} (h : Lib.index s ends = i) : Lib.index (13 :: 10 :: d :: s) ends = (i + 3 : Nat) := by
  rcases Lib.index_spec s ends with ⟨h1, _⟩ | ⟨k, h1, h2, h3, h4⟩
  · omega
  · obtain rfl : k = i := by omega
    refine Lib.index_hit (fun j hj => ?_) (by simp; omega) (by rw [occ_succ, occ_succ, occ_succ]; exact h3)
    match j with
    | 0 => simp [Lib.occAt, ends, List.isPrefixOf]; exact fun e => absurd e.symm hd
    | 1 => simp [Lib.occAt, ends, List.isPrefixOf]
    | 2 => simp [Lib.occAt, ends, List.isPrefixOf]; exact fun e => absurd e.symm hd
    | j + 3 => rw [occ_succ, occ_succ, occ_succ]; exact h4 j (by omega)
theorem index_ends (p : List UInt8) : Lib.index (ends ++ p) ends = (0 : Nat) := index_app (w := ends) (i := 0) (by rfl) p
theorem index_reps {c : UInt8} (hc : c ≠ 13) : ∀ (n : Nat) {s : List UInt8} {i : Nat}, Lib.index s ends = i → Lib.index (List.replicate n c ++ s) ends = (i + n : Nat) := by
  intro n
  induction n with
  | zero => intro s i h; simpa using h
  | succ n ih =>
    intro s i h
    rw [List.replicate_succ, List.cons_append]
    exact index_skip hc (ih h)
theorem cut2_skip (acc : List UInt8) {c : UInt8} (hc : c ≠ 13) (s : List UInt8) : cut2 13 10 acc (c :: s) = cut2 13 10 (acc ++ [c]) s := by
  cases s with
  | nil => rfl
  | cons d r => rw [cut2_cons, if_neg (fun h => hc h.1)]
theorem cut2_line {l : List UInt8} (hl : (13 : UInt8) ∉ l) : ∀ (acc s : List UInt8), cut2 13 10 acc (l ++ 13 :: 10 :: s) = (acc ++ l) :: cut2 13 10 [] s := by
  induction l with
  | nil => intro acc s; simp [cut2_cons]
  | cons c l ih =>
    intro acc s
    simp only [List.mem_cons, not_or] at hl
    rw [List.cons_append, cut2_skip acc (fun e => hl.1 e.symm), ih hl.2]
    simp
theorem cut2_rest {l : List UInt8} (hl : (13 : UInt8) ∉ l) : ∀ (acc : List UInt8), cut2 13 10 acc l = [acc ++ l] := by
  induction l with
  | nil => intro acc; simp [cut2]
  | cons c l ih =>
    intro acc
    simp only [List.mem_cons, not_or] at hl
    rw [cut2_skip acc (fun e => hl.1 e.symm), ih hl.2]
    simp
def fillA : List UInt8 := [71, 69, 84, 32, 47, 32, 72, 84, 84, 80, 47, 49, 46, 49]
def fillB : List UInt8 := [72, 111, 115, 116, 58, 32, 120]
/-- A head of n + 31 bytes. -/
def fillS (n : Nat) : List UInt8 := fillA ++ 13 :: 10 :: (fillB ++ 13 :: 10 :: (97 :: 58 :: List.replicate n 98 ++ ends))
theorem fillS_len (n : Nat) : (fillS n).length = n + 31 := by simp [fillS, fillA, fillB, ends]
theorem fillS_index (n : Nat) : Lib.index (fillS n) ends = (n + 27 : Nat) := by
  have h1 : Lib.index (List.replicate n 98 ++ ends) ends = (0 + n : Nat) := index_reps (by decide) n (index_ends [])
  unfold fillS fillA fillB
  simp only [List.cons_append, List.nil_append]
  have h2 : Lib.index (13 :: 10 :: 97 :: 58 :: (List.replicate n 98 ++ ends)) ends = (0 + n + 1 + 3 : Nat) := index_skip13 (by decide) (index_skip (by decide) h1)
  have h3 := index_skip13 (d := 72) (by decide) (index_skip (c := 111) (by decide) (index_skip (c := 115) (by decide) (index_skip (c := 116) (by decide) (index_skip (c := 58) (by decide) (index_skip (c := 32) (by decide) (index_skip (c := 120) (by decide) h2))))))
  have h4 := index_skip (c := 71) (by decide) (index_skip (c := 69) (by decide) (index_skip (c := 84) (by decide) (index_skip (c := 32) (by decide) (index_skip (c := 47) (by decide) (index_skip (c := 32) (by decide) (index_skip (c := 72) (by decide) (index_skip (c := 84) (by decide) (index_skip (c := 84) (by decide) (index_skip (c := 80) (by decide) (index_skip (c := 47) (by decide) (index_skip (c := 49) (by decide) (index_skip (c := 46) (by decide) (index_skip (c := 49) (by decide) h3)))))))))))))
  rw [h4]
  omega
theorem fillS_cut (n : Nat) : cut2 13 10 [] ((fillS n).take (n + 27)) = [fillA, fillB, 97 :: 58 :: List.replicate n 98] := by
  have e : (fillS n).take (n + 27) = fillA ++ 13 :: 10 :: (fillB ++ 13 :: 10 :: (97 :: 58 :: List.replicate n 98)) := by
    have h : fillS n = (fillA ++ 13 :: 10 :: (fillB ++ 13 :: 10 :: (97 :: 58 :: List.replicate n 98))) ++ ends := by simp [fillS]
    rw [h]
    exact List.take_left' (by simp [fillA, fillB])
  rw [e, cut2_line (by decide), cut2_line (by decide), cut2_rest]
  · simp
  · simp
theorem all_reps {p : UInt8 → Bool} {c : UInt8} (h : p c = true) (n : Nat) : (List.replicate n c).all p = true := by simp [h]
theorem fill_header (n : Nat) : ∃ h, headerS (97 :: 58 :: List.replicate n 98) = some h ∧ h.name = [97] := by
  refine ⟨_, (headerS_val (n := [97]) (v := List.replicate n 98) (by decide) (by decide) (by simp)).trans (if_pos (all_reps (by decide) n)), rfl⟩
theorem fill_first : firstS fillA = (([71, 69, 84], [47], []), 0) := by decide +kernel
theorem fill_host : headerS fillB = some ⟨nHost, [120]⟩ := (headerS_val (n := [72, 111, 115, 116]) (v := [32, 120]) (by decide) (by decide) (by simp)).trans ((if_pos (by decide)).trans (by rfl))
theorem fillS_head (n : Nat) (hn : n + 31 ≤ 16384) : ∃ q, headS (fillS n) = (q, 0, 0) ∧ q.close = false := by
  obtain ⟨h, hh, hnm⟩ := fill_header n
  have e1 : headersS [fillB, 97 :: 58 :: List.replicate n 98] = some [⟨nHost, [120]⟩, h] := by
    simp only [headersS, fill_host, hh]
  have e2 : countS [⟨nHost, [120]⟩, h] = (0, 0) := by
    have a1 : valuesS [⟨nHost, [120]⟩, h] nCoding = [] := by simp [valuesS, hnm]; decide
    have a2 : valuesS [⟨nHost, [120]⟩, h] nLength = [] := by simp [valuesS, hnm]; decide
    have a3 : valuesS [⟨nHost, [120]⟩, h] nHost = [[120]] := by simp [valuesS, hnm]; decide
    unfold countS
    rw [a1, a2, a3]
    rfl
  have e3 : valuesS [⟨nHost, [120]⟩, h] nConn = [] := by simp [valuesS, hnm]; decide
  unfold headS
  rw [fillS_index, fillS_len, if_pos ⟨by omega, by omega⟩, if_neg (by omega), show n + 31 - 4 = n + 27 by omega, fillS_cut]
  simp only
  rw [fill_first]
  simp only [ne_eq, not_true_eq_false, if_false]
  rw [if_neg (by simp), e1]
  simp only [e2, e3]
  exact ⟨_, rfl, rfl⟩
/-- The head of 16384 bytes is taken, whatever comes behind it. -/
theorem fill_take (n : Nat) (hn : n + 31 ≤ 16384) : ∃ q, runA (fillS n) = ([q], 0, [], false) := by
  obtain ⟨q, hq, hc⟩ := fillS_head n hn
  have e : nextS (fillS n) = .got { q with body := [] } [] := by
    unfold nextS
    rw [fillS_index, if_neg (by omega)]
    simp only [Int.toNat_natCast]
    rw [List.take_of_length_le (by rw [fillS_len]; omega), hq]
    simp only [ne_eq, not_true_eq_false, if_false]
    rw [if_neg (by omega), List.drop_of_length_le (by rw [fillS_len]; omega)]
    simp
  refine ⟨_, by rw [runA_got e]; simp only [hc]; rw [if_neg (by simp), runA_more rfl]⟩
theorem fill_err (n : Nat) (hn : 16384 < n + 31) : runA (fillS n) = ([], 382, [], true) := by
  refine runA_err ?_
  unfold nextS
  rw [if_pos (by right; rw [fillS_index]; omega), if_pos (by rw [fillS_len]; omega)]
theorem fill_piece (n k : Nat) (hk : k < n + 31) : Lib.index ((fillS n).take k) ends = -1 := by
  rw [index_take, if_pos]
  right
  rw [fillS_index]
  omega
theorem fill_more (n k : Nat) (hk : k < n + 31) (h : k < 16384) : runA ((fillS n).take k) = ([], 0, (fillS n).take k, false) := by
  refine runA_more ?_
  unfold nextS
  rw [if_pos (.inl (fill_piece n k hk)), if_neg (by rw [List.length_take, fillS_len]; omega)]
theorem fill_late (n k : Nat) (hk : k < n + 31) (h : 16384 ≤ k) : runA ((fillS n).take k) = ([], 382, [], true) := by
  refine runA_err ?_
  unfold nextS
  rw [if_pos (.inl (fill_piece n k hk)), if_pos (by rw [List.length_take, fillS_len]; omega)]
end Go.Proofs.YtgdfgppgfkkncaaGreatDoor
