/- Plain laws of numbers as lists of words to the base 1000000000; no program in sight, no conditions. -/
namespace Go.Proofs.YtkakmjdfecbhaaaGreatDoor

/-- What a word counts to. -/
def base : Nat := 1000000000
theorem base_eq : base = 1000000000 := rfl
theorem base_pos : 0 < base := by decide
/-- The i-th word; 0 behind the last. -/
def nth (xs : List Nat) (i : Nat) : Nat := xs.getD i 0
/-- The number of some words, the lowest first. -/
def val : List Nat → Nat
  | [] => 0
  | x :: xs => x + base * val xs
/-- All words are below the base. -/
def Ok (xs : List Nat) : Prop := ∀ x ∈ xs, x < base
/-- Without the noughts at the end. -/
def plainL (xs : List Nat) : List Nat := (xs.reverse.dropWhile (· == 0)).reverse
/-- Words below the base, the last one not 0. -/
def Norm (xs : List Nat) : Prop := Ok xs ∧ plainL xs = xs

theorem plainL_nil : plainL [] = [] := rfl
theorem plainL_zero (ys : List Nat) : plainL (ys ++ [0]) = plainL ys := by simp [plainL]
theorem plainL_pos (ys : List Nat) (y : Nat) (h : y ≠ 0) : plainL (ys ++ [y]) = ys ++ [y] := by simp [plainL, h]
theorem nth_last (ys : List Nat) (y : Nat) : nth (ys ++ [y]) ys.length = y := by simp [nth]
theorem nth_nil (i : Nat) : nth [] i = 0 := by simp [nth]
theorem nth_zero (x : Nat) (xs : List Nat) : nth (x :: xs) 0 = x := by simp [nth]
theorem nth_succ (x : Nat) (xs : List Nat) (i : Nat) : nth (x :: xs) (i + 1) = nth xs i := by simp [nth]
theorem nth_over (xs : List Nat) (i : Nat) (h : xs.length ≤ i) : nth xs i = 0 := by simp [nth, List.getD, List.getElem?_eq_none h]
theorem nil_or_snoc {α : Type} (l : List α) : l = [] ∨ ∃ zs y, l = zs ++ [y] := by
  rcases List.eq_nil_or_concat l with h | ⟨zs, y, h⟩
  · exact .inl h
  · exact .inr ⟨zs, y, by rw [h, List.concat_eq_append]⟩

theorem val_snoc (xs : List Nat) (y : Nat) : val (xs ++ [y]) = val xs + base ^ xs.length * y := by
  induction xs with
  | nil => simp [val]
  | cons x xs ih =>
    rw [List.cons_append]
    simp only [val, ih, List.length_cons, Nat.pow_succ]
    rw [Nat.mul_add, Nat.mul_comm (base ^ xs.length) base, Nat.mul_assoc]; omega
theorem take_snoc (xs : List Nat) (j : Nat) (h : j < xs.length) : xs.take (j + 1) = xs.take j ++ [nth xs j] := by
  rw [List.take_add_one, List.getElem?_eq_getElem h]; simp [nth, List.getElem?_eq_getElem h]
/-- The number of the first words grows by the next one, also behind the last. -/
theorem val_take (xs : List Nat) (j : Nat) : val (xs.take (j + 1)) = val (xs.take j) + base ^ j * nth xs j := by
  by_cases h : j < xs.length
  · rw [take_snoc xs j h, val_snoc, List.length_take, Nat.min_eq_left (by omega)]
  · rw [nth_over xs j (by omega), List.take_of_length_le (by omega), List.take_of_length_le (by omega)]; simp
theorem Ok_nth {xs : List Nat} (h : Ok xs) (i : Nat) : nth xs i < base := by
  by_cases hi : i < xs.length
  · simp only [nth, List.getD, List.getElem?_eq_getElem hi, Option.getD_some]; exact h _ (List.getElem_mem hi)
  · rw [nth_over xs i (by omega)]; exact base_pos
theorem Ok_nil : Ok [] := by intro x hx; simp at hx
theorem Ok_snoc {xs : List Nat} {y : Nat} (h : Ok xs) (hy : y < base) : Ok (xs ++ [y]) := by
  intro x hx
  rcases List.mem_append.1 hx with hx | hx
  · exact h x hx
  · simp at hx; omega
theorem Ok_of_snoc {xs : List Nat} {y : Nat} (h : Ok (xs ++ [y])) : Ok xs ∧ y < base := ⟨fun x hx => h x (by simp [hx]), h y (by simp)⟩
theorem Ok_take {xs : List Nat} (h : Ok xs) (j : Nat) : Ok (xs.take j) := fun x hx => h x (List.mem_of_mem_take hx)
theorem val_lt {xs : List Nat} (h : Ok xs) : val xs < base ^ xs.length := by
  induction xs with
  | nil => simp [val]
  | cons x xs ih =>
    have h1 := h x (by simp)
    have h2 := ih (fun y hy => h y (by simp [hy]))
    simp only [val, List.length_cons, Nat.pow_succ, Nat.mul_comm _ base]
    have : base * (val xs + 1) ≤ base * base ^ xs.length := Nat.mul_le_mul_left _ h2
    rw [Nat.mul_add] at this; omega
theorem plain_val (n : Nat) : ∀ xs : List Nat, xs.length = n → val (plainL xs) = val xs ∧ (Ok xs → Ok (plainL xs)) ∧ (plainL xs).length ≤ xs.length ∧ plainL (plainL xs) = plainL xs := by
  induction n with
  | zero => intro xs h; obtain rfl := List.length_eq_zero_iff.1 h; exact ⟨rfl, id, Nat.le_refl _, rfl⟩
  | succ n ih =>
    intro xs h
    rcases nil_or_snoc xs with rfl | ⟨ys, y, rfl⟩
    · exact ⟨rfl, id, Nat.le_refl _, rfl⟩
    · by_cases hy : y = 0
      · subst hy
        obtain ⟨h1, h2, h3, h4⟩ := ih ys (by simpa using h)
        rw [plainL_zero]
        exact ⟨by rw [h1, val_snoc]; simp, fun hk => h2 (Ok_of_snoc hk).1, by simp; omega, h4⟩
      · rw [plainL_pos _ _ hy]; exact ⟨rfl, id, Nat.le_refl _, by rw [plainL_pos _ _ hy]⟩
theorem val_plain (xs : List Nat) : val (plainL xs) = val xs := (plain_val _ xs rfl).1
theorem Norm_plain {xs : List Nat} (h : Ok xs) : Norm (plainL xs) := ⟨(plain_val _ xs rfl).2.1 h, (plain_val _ xs rfl).2.2.2⟩
theorem len_plain (xs : List Nat) : (plainL xs).length ≤ xs.length := (plain_val _ xs rfl).2.2.1
theorem Norm_nil : Norm [] := ⟨Ok_nil, rfl⟩
theorem Norm_last {ys : List Nat} {y : Nat} (h : Norm (ys ++ [y])) : y ≠ 0 := by
  intro e; subst e
  have h1 := h.2; rw [plainL_zero] at h1
  have h2 := len_plain ys; rw [h1] at h2; simp at h2
  omega
theorem Norm_low {ys : List Nat} {y : Nat} (h : Norm (ys ++ [y])) : base ^ ys.length ≤ val (ys ++ [y]) := by
  rw [val_snoc]
  have h1 := Norm_last h
  have : base ^ ys.length * 1 ≤ base ^ ys.length * y := Nat.mul_le_mul_left _ (by omega)
  omega
/-- Of two numbers without noughts the longer is greater. -/
theorem Norm_longer {xs ys : List Nat} (hx : Ok xs) (hy : Norm ys) (h : xs.length < ys.length) : val xs < val ys := by
  rcases nil_or_snoc ys with rfl | ⟨zs, z, rfl⟩
  · simp at h
  · have h1 := Norm_low hy
    have h2 := val_lt hx
    have h3 : base ^ xs.length ≤ base ^ zs.length := Nat.pow_le_pow_right base_pos (by simp at h; omega)
    omega
theorem Norm_zero {xs : List Nat} (h : Norm xs) : val xs = 0 ↔ xs = [] := by
  constructor
  · intro hv
    rcases nil_or_snoc xs with rfl | ⟨zs, z, rfl⟩
    · rfl
    · have := Norm_low h; have := Nat.pow_pos (n := zs.length) base_pos; omega
  · rintro rfl; rfl
theorem val_inj {xs : List Nat} : ∀ {ys : List Nat}, Ok xs → Ok ys → xs.length = ys.length → val xs = val ys → xs = ys := by
  induction xs with
  | nil => intro ys _ _ h _; exact (List.length_eq_zero_iff.1 h.symm).symm
  | cons x xs ih =>
    intro ys hx hy hl hv
    cases ys with
    | nil => simp at hl
    | cons y ys =>
      have h1 := hx x (by simp)
      have h2 := hy y (by simp)
      simp only [val] at hv
      have e1 : x = y := by
        have a := congrArg (· % base) hv
        simp only [Nat.add_mul_mod_self_left, Nat.mod_eq_of_lt h1, Nat.mod_eq_of_lt h2] at a
        exact a
      subst e1
      have e2 : val xs = val ys := Nat.eq_of_mul_eq_mul_left base_pos (by omega)
      rw [ih (fun z hz => hx z (by simp [hz])) (fun z hz => hy z (by simp [hz])) (by simpa using hl) e2]
theorem Norm_inj {xs ys : List Nat} (hx : Norm xs) (hy : Norm ys) (h : val xs = val ys) : xs = ys := by
  rcases Nat.lt_trichotomy xs.length ys.length with hl | hl | hl
  · have := Norm_longer hx.1 hy hl; omega
  · exact val_inj hx.1 hy.1 hl h
  · have := Norm_longer hy.1 hx hl; omega
/-- One word of a sum. -/
theorem add_word (p vx vy c x y s : Nat) (h : s + c * p = vx + vy) : s + p * ((x + y + c) % base) + (x + y + c) / base * (p * base) = vx + p * x + (vy + p * y) := by
  have h1 : p * ((x + y + c) % base) + (x + y + c) / base * (p * base) = p * (x + y + c) := by
    have := Nat.div_add_mod (x + y + c) base
    rw [← Nat.mul_comm (p * base), Nat.mul_assoc, ← Nat.mul_add, Nat.add_comm, this]
  rw [Nat.mul_add, Nat.mul_add, Nat.mul_comm p c] at h1
  omega
theorem add_end (xs ys os : List Nat) (c j : Nat) (hx : Ok xs) (hy : Ok ys) (hj : j = max xs.length ys.length + 1) (h : val os + c * base ^ j = val xs + val ys) : val os = val xs + val ys := by
  have h1 := val_lt hx
  have h2 := val_lt hy
  have h3 : base ^ xs.length ≤ base ^ (max xs.length ys.length) := Nat.pow_le_pow_right base_pos (by omega)
  have h4 : base ^ ys.length ≤ base ^ (max xs.length ys.length) := Nat.pow_le_pow_right base_pos (by omega)
  have h5 : base ^ j = base ^ (max xs.length ys.length) * base := by rw [hj, Nat.pow_succ]
  have h6 : base ^ (max xs.length ys.length) * 2 ≤ base ^ (max xs.length ys.length) * base := Nat.mul_le_mul_left _ (by decide)
  cases c with
  | zero => omega
  | succ c =>
    have : 1 * base ^ j ≤ (c + 1) * base ^ j := Nat.mul_le_mul_right _ (by omega)
    omega
/-- One word of a difference. -/
theorem sub_word (p vx vy b x y s : Nat) (hx : x < base) (hy : y < base) (hb : b ≤ 1) (h : s + vy = vx + b * p) :
    s + p * ((x + base - y - b) % base) + (vy + p * y) = vx + p * x + (1 - (x + base - y - b) / base) * (p * base) := by
  by_cases hc : base ≤ x + base - y - b
  · obtain ⟨q, hq⟩ : ∃ q, x + base - y - b = base + q := ⟨_, (Nat.add_sub_cancel' hc).symm⟩
    have e1 : (x + base - y - b) % base = q := by rw [hq, Nat.add_mod_left, Nat.mod_eq_of_lt (by omega)]
    have e2 : (x + base - y - b) / base = 1 := by rw [hq, Nat.add_div_left _ base_pos, Nat.div_eq_of_lt (by omega)]
    rw [e1, e2]
    have e3 : q + y + b = x := by omega
    rw [← e3, Nat.mul_add, Nat.mul_add, Nat.mul_comm p b]; omega
  · have e1 : (x + base - y - b) % base = x + base - y - b := Nat.mod_eq_of_lt (by omega)
    have e2 : (x + base - y - b) / base = 0 := Nat.div_eq_of_lt (by omega)
    rw [e1, e2]
    have e3 : (x + base - y - b) + y + b = x + base := by omega
    have e4 : p * (x + base - y - b) + p * y + b * p = p * x + p * base := by rw [Nat.mul_comm b p, ← Nat.mul_add, ← Nat.mul_add, e3, Nat.mul_add]
    omega
theorem sub_end (xs ys os : List Nat) (b j : Nat) (ho : Ok os) (hj : os.length = j) (hle : val ys ≤ val xs) (h : val os + val ys = val xs + b * base ^ j) : val os = val xs - val ys := by
  have h1 := val_lt ho
  rw [hj] at h1
  cases b with
  | zero => omega
  | succ b =>
    have : 1 * base ^ j ≤ (b + 1) * base ^ j := Nat.mul_le_mul_right _ (by omega)
    omega
theorem Norm_le_len {xs ys : List Nat} (hx : Ok xs) (hy : Norm ys) (h : val ys ≤ val xs) : ys.length ≤ xs.length := by
  apply Nat.le_of_not_lt; intro hl
  have := Norm_longer hx hy hl; omega
/-- Of two numbers whose words from j + 1 on are the same, the j-th words tell which is greater. -/
theorem val_split (xs : List Nat) (j : Nat) (h : j < xs.length) : val xs = val (xs.take j) + base ^ j * (nth xs j + base * val (xs.drop (j + 1))) := by
  induction xs generalizing j with
  | nil => simp at h
  | cons x xs ih =>
    cases j with
    | zero => simp [val, nth]
    | succ j =>
      have := ih j (by simpa using h)
      simp only [val, List.take_succ_cons, List.drop_succ_cons, nth_succ, Nat.pow_succ]
      rw [this, Nat.mul_add, ← Nat.mul_assoc, Nat.mul_comm base (base ^ j)]; omega
theorem cmp_word {xs ys : List Nat} {j : Nat} (hx : Ok xs) (hj : j < xs.length) (hl : xs.length = ys.length) (hd : xs.drop (j + 1) = ys.drop (j + 1)) (h : nth xs j < nth ys j) : val xs < val ys := by
  rw [val_split xs j hj, val_split ys j (by omega), hd]
  have h1 := val_lt (Ok_take hx j)
  rw [List.length_take, Nat.min_eq_left (by omega)] at h1
  have h2 : base ^ j * (nth xs j + base * val (ys.drop (j + 1)) + 1) ≤ base ^ j * (nth ys j + base * val (ys.drop (j + 1))) := Nat.mul_le_mul_left _ (by omega)
  rw [Nat.mul_add _ _ 1] at h2
  omega
theorem drop_nth (xs : List Nat) (j : Nat) (h : j < xs.length) : xs.drop j = nth xs j :: xs.drop (j + 1) := by
  rw [List.drop_eq_getElem_cons h]; simp [nth, List.getElem?_eq_getElem h]
theorem val_set (os : List Nat) (j y : Nat) (h : j < os.length) : val (os.set j y) + base ^ j * nth os j = val os + base ^ j * y := by
  induction os generalizing j with
  | nil => simp at h
  | cons x os ih =>
    cases j with
    | zero => simp [val, nth]; omega
    | succ j =>
      have := ih j (by simpa using h)
      simp only [List.set_cons_succ, val, nth_succ, Nat.pow_succ]
      have e : ∀ a, base ^ j * base * a = base * (base ^ j * a) := fun a => by rw [Nat.mul_comm (base ^ j), Nat.mul_assoc]
      rw [e, e]
      have h2 : base * (val (os.set j y) + base ^ j * nth os j) = base * (val os + base ^ j * y) := by rw [this]
      rw [Nat.mul_add, Nat.mul_add] at h2
      omega
theorem Ok_set {os : List Nat} (h : Ok os) (j y : Nat) (hy : y < base) : Ok (os.set j y) := by
  intro x hx
  rcases List.mem_or_eq_of_mem_set hx with h1 | h1
  · exact h x h1
  · omega
theorem nth_set_other (os : List Nat) (j k y : Nat) (h : j ≠ k) : nth (os.set j y) k = nth os k := by simp [nth, List.getElem?_set_ne h]
theorem nth_zero_of_small {os : List Nat} (m j : Nat) (hv : val os < base ^ m) (hj : m ≤ j) : nth os j = 0 := by
  by_cases hl : j < os.length
  · have h1 := val_split os j hl
    have h2 : base ^ m ≤ base ^ j := Nat.pow_le_pow_right base_pos hj
    apply Nat.eq_zero_of_not_pos; intro hp
    have h3 : base ^ j * 1 ≤ base ^ j * (nth os j + base * val (os.drop (j + 1))) := Nat.mul_le_mul_left _ (by omega)
    omega
  · exact nth_over os j (by omega)
theorem val_replicate (n : Nat) : val (List.replicate n 0) = 0 := by
  induction n with
  | zero => rfl
  | succ n ih => simp [List.replicate_succ, val, ih]
theorem Ok_replicate (n : Nat) : Ok (List.replicate n 0) := by intro x hx; simp at hx; rw [hx.2]; exact base_pos
/-- One word of a product. -/
theorem mul_word (p x y o c s v : Nat) (s' : Nat) (h : s + c * p = v) (hs : s' + p * o = s + p * ((x * y + o + c) % base)) :
    s' + (x * y + o + c) / base * (p * base) = v + p * (x * y) := by
  have h1 : p * ((x * y + o + c) % base) + (x * y + o + c) / base * (p * base) = p * (x * y + o + c) := by
    have := Nat.div_add_mod (x * y + o + c) base
    rw [← Nat.mul_comm (p * base), Nat.mul_assoc, ← Nat.mul_add, Nat.add_comm, this]
  rw [Nat.mul_add, Nat.mul_add, Nat.mul_comm p c] at h1
  omega
theorem mul_small {x y o c : Nat} (hx : x < base) (hy : y < base) (ho : o < base) (hc : c < base) : x * y + o + c < base * base := by
  have : x * y ≤ (base - 1) * (base - 1) := Nat.mul_le_mul (by omega) (by omega)
  rw [base_eq] at *
  omega
theorem mul_small_int {x y o c : Nat} (hx : x < base) (hy : y < base) (ho : o < base) (hc : c < base) : (0 : Int) ≤ (x : Int) * y ∧ (x : Int) * y + o + c < 1000000000000000000 := by
  have := mul_small hx hy ho hc
  rw [← Int.natCast_mul]
  rw [base_eq] at this
  omega
theorem word_div (x y o c : Nat) : ((x : Int) * y + o + c) / 1000000000 = (((x * y + o + c) / base : Nat) : Int) := by
  rw [base_eq, ← Int.natCast_mul]; omega
theorem word_mod (x y o c : Nat) : ((x : Int) * y + o + c) % 1000000000 = (((x * y + o + c) % base : Nat) : Int) := by
  rw [base_eq, ← Int.natCast_mul]; omega
theorem mul_end (xs ys os : List Nat) (j : Nat) (hy : Ok ys) (hx : Ok xs) (hj : j ≤ xs.length) (h : val os = val (xs.take j) * val ys) : val os < base ^ (j + ys.length) := by
  have h1 := val_lt (Ok_take hx j)
  rw [List.length_take, Nat.min_eq_left hj] at h1
  have h2 := val_lt hy
  rw [h, Nat.pow_add]
  calc val (xs.take j) * val ys ≤ val (xs.take j) * base ^ ys.length := Nat.mul_le_mul_left _ (by omega)
    _ < base ^ j * base ^ ys.length := Nat.mul_lt_mul_of_pos_right h1 (Nat.pow_pos base_pos)
theorem Norm_len {xs : List Nat} (h : Norm xs) (n : Nat) (hv : val xs < base ^ n) : xs.length ≤ n := by
  rcases nil_or_snoc xs with rfl | ⟨ys, y, rfl⟩
  · simp
  · have h1 := Norm_low h
    have h2 : base ^ ys.length < base ^ n := by omega
    have := (Nat.pow_lt_pow_iff_right (a := base) (by decide)).1 h2
    simp; omega
theorem val_one (y : Nat) : val [y] = y := by simp [val]
theorem val_cons (y : Nat) (ys : List Nat) : val (y :: ys) = y + base * val ys := rfl
theorem Ok_cons {y : Nat} {ys : List Nat} (hy : y < base) (h : Ok ys) : Ok (y :: ys) := by
  intro x hx
  rcases List.mem_cons.1 hx with h1 | h1
  · omega
  · exact h x h1
theorem Ok_drop {xs : List Nat} (h : Ok xs) (j : Nat) : Ok (xs.drop j) := fun x hx => h x (List.mem_of_mem_drop hx)
theorem nth_set_same (os : List Nat) (j y : Nat) (h : j < os.length) : nth (os.set j y) j = y := by simp [nth, h]
theorem drop_set_cons (os : List Nat) (j y : Nat) (h : j < os.length) : (os.set j y).drop j = y :: os.drop (j + 1) := by
  rw [drop_nth _ j (by simpa using h), nth_set_same os j y h]
  congr 1
  rw [List.drop_set, if_pos (by omega)]
/-- One step of a division, word by word. -/
theorem div_word (b x v q r low : Nat) (h : v = q * b + r) (h1 : low * b ≤ x + base * r) : x + base * v = (low + base * q) * b + (x + base * r - low * b) := by
  rw [h, Nat.mul_add, Nat.add_mul, Nat.mul_assoc]; omega
theorem div_big (x r b : Nat) (hx : x < base) (hr : r < b) : x + base * r < base * b := by
  have : base * (r + 1) ≤ base * b := Nat.mul_le_mul_left _ hr
  rw [Nat.mul_add] at this; omega
theorem div_long {rr ys : List Nat} (h : Norm rr) (hy : Ok ys) (hv : val rr < base * val ys) : rr.length ≤ ys.length + 1 := by
  refine Norm_len h _ ?_
  have := val_lt hy
  have h2 : base * val ys ≤ base * base ^ ys.length := Nat.mul_le_mul_left _ (by omega)
  rw [Nat.pow_succ, Nat.mul_comm]; omega
theorem div_rest (l h b r : Nat) (hl : l * b ≤ r) (hh : r < h * b) (he : h ≤ l + 1) : r - l * b < b := by
  have : h * b ≤ (l + 1) * b := Nat.mul_le_mul_right _ he
  rw [Nat.add_mul] at this; omega
end Go.Proofs.YtkakmjdfecbhaaaGreatDoor
