/- Plain words of HTTP: requests, lines, heads, connections; no program in sight. -/
import Derived.Lib.Split
namespace Go.Proofs.YtgdfgppgfkkncaaGreatDoor

/-- A header. -/
structure Hdr where
  name : List UInt8
  value : List UInt8
/-- A request. -/
structure Req where
  method : List UInt8
  path : List UInt8
  query : List UInt8
  headers : List Hdr
  body : List UInt8
  close : Bool
def Req.zero : Req := ⟨[], [], [], [], [], false⟩

/-- Is a byte a digit, a great letter, one of an address, a blank? -/
def dgB (c : UInt8) : Bool := decide (48 ≤ c.toNat) && decide (c.toNat ≤ 57)
def upB (c : UInt8) : Bool := decide (65 ≤ c.toNat) && decide (c.toNat ≤ 90)
def loB (c : UInt8) : Bool := decide (97 ≤ c.toNat) && decide (c.toNat ≤ 122)
def adB (c : UInt8) : Bool := decide (32 < c.toNat) && decide (c.toNat < 127) && !(c == 35)
def blB (c : UInt8) : Bool := c == 32 || c == 9
def signs : List UInt8 := [33, 35, 36, 37, 38, 39, 42, 43, 45, 46, 94, 95, 96, 124, 126]
def tkB (c : UInt8) : Bool := dgB c || upB c || loB c || signs.contains c
def vaB (c : UInt8) : Bool := (decide (32 ≤ c.toNat) && !(c == 127)) || c == 9
/-- A letter made small. -/
def smB (c : UInt8) : UInt8 := if upB c then c + 32 else c
def smallS (l : List UInt8) : List UInt8 := l.map smB
/-- Without blanks at both ends. -/
def trimS (l : List UInt8) : List UInt8 := ((l.dropWhile blB).reverse.dropWhile blB).reverse

/-- A text cut at a byte. -/
def cut1 (a : UInt8) : List UInt8 → List UInt8 → List (List UInt8)
  | acc, [] => [acc]
  | acc, c :: r => if c = a then acc :: cut1 a [] r else cut1 a (acc ++ [c]) r
/-- A text cut at two bytes. -/
def cut2 (a b : UInt8) : List UInt8 → List UInt8 → List (List UInt8)
  | acc, [] => [acc]
  | acc, [c] => [acc ++ [c]]
  | acc, c :: d :: r => if c = a ∧ d = b then acc :: cut2 a b [] r else cut2 a b (acc ++ [c]) (d :: r)

theorem cut1_cons (a : UInt8) (acc : List UInt8) (c : UInt8) (r : List UInt8) : cut1 a acc (c :: r) = if c = a then acc :: cut1 a [] r else cut1 a (acc ++ [c]) r := by rw [cut1]
theorem cut2_cons (a b : UInt8) (acc : List UInt8) (c d : UInt8) (r : List UInt8) : cut2 a b acc (c :: d :: r) = if c = a ∧ d = b then acc :: cut2 a b [] r else cut2 a b (acc ++ [c]) (d :: r) := by rw [cut2]
theorem occ1_zero (c a : UInt8) (r : List UInt8) : Lib.occAt (c :: r) [a] 0 = decide (c = a) := by
  simp only [Lib.occAt, List.drop_zero, List.isPrefixOf, Bool.and_true]
  rw [Bool.eq_iff_iff, beq_iff_eq, decide_eq_true_eq]
  exact ⟨fun h => h.symm, fun h => h.symm⟩
theorem occ_succ (c : UInt8) (r sub : List UInt8) (j : Nat) : Lib.occAt (c :: r) sub (j + 1) = Lib.occAt r sub j := rfl
theorem cut1_none (a : UInt8) : ∀ (s acc : List UInt8), (∀ j, j ≤ s.length → Lib.occAt s [a] j = false) → cut1 a acc s = [acc ++ s] := by
  intro s
  induction s with
  | nil => intro acc _; simp [cut1]
  | cons c r ih =>
    intro acc h
    have h0 := h 0 (by omega)
    rw [occ1_zero] at h0
    rw [cut1_cons, if_neg (by simpa using h0), ih _ (fun j hj => by have := h (j + 1) (by simp; omega); rw [occ_succ] at this; exact this)]
    simp
theorem cut1_hit (a : UInt8) : ∀ (i : Nat) (s acc : List UInt8), i ≤ s.length → Lib.occAt s [a] i = true → Lib.NoOcc s [a] i → cut1 a acc s = (acc ++ s.take i) :: cut1 a [] (s.drop (i + 1)) := by
  intro i
  induction i with
  | zero =>
    intro s acc _ ho _
    cases s with
    | nil => simp [Lib.occAt] at ho
    | cons c r =>
      rw [occ1_zero] at ho
      rw [cut1_cons, if_pos (by simpa using ho)]
      simp
  | succ i ih =>
    intro s acc hi ho hn
    cases s with
    | nil => simp at hi
    | cons c r =>
      have h0 := hn 0 (by omega)
      rw [occ1_zero] at h0
      rw [cut1_cons, if_neg (by simpa using h0), ih r _ (by simpa using hi) (by simpa [Lib.occAt] using ho) (fun j hj => by have := hn (j + 1) (by omega); rw [occ_succ] at this; exact this)]
      simp
theorem occ2_zero (c d a b : UInt8) (r : List UInt8) : Lib.occAt (c :: d :: r) [a, b] 0 = decide (c = a ∧ d = b) := by
  simp only [Lib.occAt, List.drop_zero, List.isPrefixOf, Bool.and_true]
  rw [Bool.eq_iff_iff, Bool.and_eq_true, beq_iff_eq, beq_iff_eq, decide_eq_true_eq]
  exact ⟨fun h => ⟨h.1.symm, h.2.symm⟩, fun h => ⟨h.1.symm, h.2.symm⟩⟩
theorem cut2_none (a b : UInt8) : ∀ (s acc : List UInt8), (∀ j, j ≤ s.length → Lib.occAt s [a, b] j = false) → cut2 a b acc s = [acc ++ s] := by
  intro s
  induction s with
  | nil => intro acc _; simp [cut2]
  | cons c r ih =>
    intro acc h
    cases r with
    | nil => simp [cut2]
    | cons d t =>
      have h0 := h 0 (by omega)
      rw [occ2_zero] at h0
      rw [cut2_cons, if_neg (by simpa using h0), ih _ (fun j hj => by have := h (j + 1) (by simp at hj ⊢; omega); rw [occ_succ] at this; exact this)]
      simp
theorem cut2_hit (a b : UInt8) : ∀ (i : Nat) (s acc : List UInt8), i ≤ s.length → Lib.occAt s [a, b] i = true → Lib.NoOcc s [a, b] i → cut2 a b acc s = (acc ++ s.take i) :: cut2 a b [] (s.drop (i + 2)) := by
  intro i
  induction i with
  | zero =>
    intro s acc _ ho _
    cases s with
    | nil => simp [Lib.occAt] at ho
    | cons c r =>
      cases r with
      | nil => simp [Lib.occAt, List.isPrefixOf] at ho
      | cons d t =>
        rw [occ2_zero] at ho
        rw [cut2_cons, if_pos (by simpa using ho)]
        simp
  | succ i ih =>
    intro s acc hi ho hn
    cases s with
    | nil => simp at hi
    | cons c r =>
      cases r with
      | nil =>
        obtain rfl : i = 0 := by simp at hi; omega
        simp [Lib.occAt] at ho
      | cons d t =>
        have h0 := hn 0 (by omega)
        rw [occ2_zero] at h0
        rw [cut2_cons, if_neg (by simpa using h0), ih (d :: t) _ (by simpa using hi) (by simpa [Lib.occAt] using ho) (fun j hj => by have := hn (j + 1) (by omega); rw [occ_succ] at this; exact this)]
        simp
theorem split_miss {s sub : List UInt8} (h : Lib.index s sub = -1) : Lib.split s sub = [s] := by
  unfold Lib.split
  rw [Lib.count_miss h]
  rfl
theorem split_hit {s sub : List UInt8} {i : Nat} (hs : sub ≠ []) (h : Lib.index s sub = i) : Lib.split s sub = s.take i :: Lib.split (s.drop (i + sub.length)) sub := by
  unfold Lib.split
  have hm : ¬ (Lib.index s sub == -1) = true := fun e => by have := beq_iff_eq.1 e; omega
  have e : (Lib.index s sub).toNat = i := by omega
  rw [Lib.count_hit hs h, Nat.add_comm 1]
  show (if Lib.index s sub == -1 then [s] else s.take ((Lib.index s sub).toNat + 0) :: Lib.splitK sub 0 (Lib.count (s.drop (i + sub.length)) sub) (s.drop ((Lib.index s sub).toNat + sub.length))) = _
  rw [if_neg hm, e, Nat.add_zero]
theorem split_cut1 (a : UInt8) : ∀ (n : Nat) (s : List UInt8), s.length ≤ n → Lib.split s [a] = cut1 a [] s := by
  intro n
  induction n with
  | zero =>
    intro s h
    obtain rfl : s = [] := by simpa using h
    rw [split_miss rfl]; rfl
  | succ n ih =>
    intro s h
    rcases Lib.index_spec s [a] with ⟨h1, h2⟩ | ⟨i, h1, h2, h3, h4⟩
    · rw [split_miss h1, cut1_none a s [] h2]; rfl
    · rw [split_hit (by simp) h1, cut1_hit a i s [] h2 h3 h4, List.nil_append]
      congr 1
      refine ih _ ?_
      rw [List.length_drop]
      show s.length - (i + 1) ≤ n
      omega
theorem split_cut2 (a b : UInt8) : ∀ (n : Nat) (s : List UInt8), s.length ≤ n → Lib.split s [a, b] = cut2 a b [] s := by
  intro n
  induction n with
  | zero =>
    intro s h
    obtain rfl : s = [] := by simpa using h
    rw [split_miss rfl]; rfl
  | succ n ih =>
    intro s h
    rcases Lib.index_spec s [a, b] with ⟨h1, h2⟩ | ⟨i, h1, h2, h3, h4⟩
    · rw [split_miss h1, cut2_none a b s [] h2]; rfl
    · rw [split_hit (by simp) h1, cut2_hit a b i s [] h2 h3 h4, List.nil_append]
      congr 1
      refine ih _ ?_
      rw [List.length_drop]
      show s.length - (i + 2) ≤ n
      omega
theorem cut1_ne (a : UInt8) (s : List UInt8) : ∀ acc, cut1 a acc s ≠ [] := by
  induction s with
  | nil => intro acc; simp [cut1]
  | cons c r ih => intro acc; rw [cut1_cons]; split <;> simp [ih]
/-- Behind a whole head the lines are the same. -/
theorem cut2_head (acc t : List UInt8) : cut2 13 10 acc (t ++ [13, 10, 13, 10]) = cut2 13 10 acc t ++ [[], []] := by
  obtain ⟨n, hn⟩ : ∃ n, t.length ≤ n := ⟨_, Nat.le_refl _⟩
  induction n generalizing t acc with
  | zero =>
    obtain rfl : t = [] := by simpa using hn
    simp [cut2]
  | succ n ih =>
    cases t with
    | nil => simp [cut2]
    | cons c r =>
      cases r with
      | nil =>
        simp only [List.cons_append, List.nil_append]
        rw [cut2_cons, if_neg (by intro h; exact absurd h.2 (by decide))]
        simp [cut2]
      | cons d r =>
        simp only [List.cons_append]
        rw [cut2_cons, cut2_cons]
        split
        · have := ih [] r (by simp at hn; omega)
          rw [this]; rfl
        · have := ih (acc ++ [c]) (d :: r) (by simp at hn ⊢; omega)
          simp only [List.cons_append] at this
          exact this

/-- A head's end. -/
def ends : List UInt8 := [13, 10, 13, 10]
/-- A request line: method, path, query; the error. -/
def pathS (u : List UInt8) : List UInt8 × List UInt8 := match u.drop (u.takeWhile (fun c => !(c == 63))).length with
  | [] => (u, [])
  | _ :: q => (u.takeWhile (fun c => !(c == 63)), q)
def versB (v : List UInt8) : Bool := match v with
  | [72, 84, 84, 80, 47, a, 46, b] => dgB a && dgB b
  | _ => false
def firstS (s : List UInt8) : (List UInt8 × List UInt8 × List UInt8) × Int := match cut1 32 [] s with
  | [m, u, v] =>
    if 1 ≤ m.length ∧ m.length ≤ 16 ∧ m.all upB = true ∧ u.head? = some 47 ∧ u.all adB = true ∧ versB v = true then
      if v = [72, 84, 84, 80, 47, 49, 46, 49] then ((m, (pathS u).1, (pathS u).2), 0) else (([], [], []), 383)
    else (([], [], []), 380)
  | _ => (([], [], []), 380)
/-- A header line. -/
def headerS (s : List UInt8) : Option Hdr := match s.drop (s.takeWhile (fun c => !(c == 58))).length with
  | [] => none
  | _ :: v => if s.takeWhile (fun c => !(c == 58)) ≠ [] ∧ (s.takeWhile (fun c => !(c == 58))).all tkB = true ∧ v.all vaB = true then some ⟨smallS (s.takeWhile (fun c => !(c == 58))), trimS v⟩ else none
def nHost : List UInt8 := [104, 111, 115, 116]
def nCoding : List UInt8 := [116, 114, 97, 110, 115, 102, 101, 114, 45, 101, 110, 99, 111, 100, 105, 110, 103]
def nLength : List UInt8 := [99, 111, 110, 116, 101, 110, 116, 45, 108, 101, 110, 103, 116, 104]
def nConn : List UInt8 := [99, 111, 110, 110, 101, 99, 116, 105, 111, 110]
def nClose : List UInt8 := [99, 108, 111, 115, 101]
/-- The values of a name. -/
def valuesS (hs : List Hdr) (n : List UInt8) : List (List UInt8) := (hs.filter (fun h => h.name == n)).map (·.value)
def closesS (v : List UInt8) : Bool := (cut1 44 [] v).any (fun x => smallS (trimS x) == nClose)
/-- All lines are headers, or not. -/
def headersS : List (List UInt8) → Option (List Hdr)
  | [] => some []
  | l :: r => match headerS l with
    | none => none
    | some h => match headersS r with
      | none => none
      | some hs => some (h :: hs)
def decV (l : List UInt8) : Nat := l.foldl (fun a c => 10 * a + (c.toNat - 48)) 0
def lengthS (v : List UInt8) : Option Nat := if 1 ≤ v.length ∧ v.length ≤ 18 ∧ v.all dgB = true then some (decV v) else none
/-- What the headers say: the body's length, or an error. -/
def countS (hs : List Hdr) : Nat × Int :=
  if valuesS hs nCoding ≠ [] then (0, 384)
  else match valuesS hs nLength with
    | [] => if (valuesS hs nHost).length = 1 then (0, 0) else (0, 380)
    | [v] => match lengthS v with
      | none => (0, 380)
      | some n => if (valuesS hs nHost).length = 1 then (if n ≤ 1048576 then (n, 0) else (0, 381)) else (0, 380)
    | _ => (0, 380)
/-- A head: the request, its body's length, the error. -/
def headS (s : List UInt8) : Req × Nat × Int :=
  if Lib.index s ends = (s.length : Int) - 4 ∧ 4 ≤ s.length then
    if 16384 < s.length then (Req.zero, 0, 382) else
    match cut2 13 10 [] (s.take (s.length - 4)) with
    | [] => (Req.zero, 0, 380)
    | l :: r =>
      if (firstS l).2 ≠ 0 then (Req.zero, 0, (firstS l).2) else
      if 100 < r.length then (Req.zero, 0, 382) else
      match headersS r with
      | none => (Req.zero, 0, 380)
      | some hs => if (countS hs).2 ≠ 0 then (Req.zero, 0, (countS hs).2) else
        (⟨(firstS l).1.1, (firstS l).1.2.1, (firstS l).1.2.2, hs, [], (valuesS hs nConn).any closesS⟩, (countS hs).1, 0)
  else (Req.zero, 0, 380)

/-- The next step of bytes that wait: an error, nothing yet, or a request and what waits behind it. -/
inductive Next where
  | err (e : Int)
  | more
  | got (q : Req) (rest : List UInt8)
def nextS (wait : List UInt8) : Next :=
  if Lib.index wait ends = -1 ∨ 16380 < Lib.index wait ends then (if 16384 ≤ wait.length then .err 382 else .more)
  else
    let e := (Lib.index wait ends).toNat + 4
    if (headS (wait.take e)).2.2 ≠ 0 then .err (headS (wait.take e)).2.2
    else if wait.length - e < (headS (wait.take e)).2.1 then .more
    else .got { (headS (wait.take e)).1 with body := (wait.drop e).take (headS (wait.take e)).2.1 } (wait.drop (e + (headS (wait.take e)).2.1))
/-- A connection behind bytes: the requests, the error, what waits, is it dead. -/
def runS : Nat → List UInt8 → List Req × Int × List UInt8 × Bool
  | 0, w => ([], 0, w, false)
  | k + 1, w => match nextS w with
    | .err e => ([], e, [], true)
    | .more => ([], 0, w, false)
    | .got q rest => if q.close then ([q], 0, [], true) else (q :: (runS k rest).1, (runS k rest).2)
def takeS (w : List UInt8) (dead : Bool) (piece : List UInt8) : List Req × Int × List UInt8 × Bool :=
  if dead then ([], 10, w, true) else runS ((w ++ piece).length + 1) (w ++ piece)
end Go.Proofs.YtgdfgppgfkkncaaGreatDoor
