/- Plain words of reading a number's text, piece by piece; no program in sight. -/
import Derived.Test.YtkakmjdfecbhaaaGreatDoorDecL
namespace Go.Proofs.YtkakmjdfecbhaaaGreatDoor

/-- One of these bytes, if it is next; and what is left. -/
def oneS (of : List UInt8) (r : List UInt8) : UInt8 × List UInt8 := match r with
  | [] => (0, [])
  | c :: t => if of.contains c then (c, t) else (0, c :: t)
/-- The digits that are next. -/
def digsS (r : List UInt8) : List UInt8 := r.takeWhile digB
/-- What is left behind them. -/
def restS (r : List UInt8) : List UInt8 := r.dropWhile digB
/-- The digits behind an e. -/
def powerS (s : List UInt8) : Int := if 7 < (trim0 s).length then 10000000 else dval (trim0 s)
def parseEnd (neg : Bool) (all : List UInt8) (exp : Int) (r : List UInt8) : Dec × Int := if r = [] then madeS neg all exp else (Dec.zero, 170)
def parseE (neg : Bool) (all : List UInt8) (exp : Int) (r : List UInt8) : Dec × Int :=
  if (oneS [101, 69] r).1 = 0 then parseEnd neg all exp (oneS [101, 69] r).2 else
  if digsS (oneS [43, 45] (oneS [101, 69] r).2).2 = [] then (Dec.zero, 170) else
  parseEnd neg all (exp + (if (oneS [43, 45] (oneS [101, 69] r).2).1 = 45 then -powerS (digsS (oneS [43, 45] (oneS [101, 69] r).2).2) else powerS (digsS (oneS [43, 45] (oneS [101, 69] r).2).2))) (restS (oneS [43, 45] (oneS [101, 69] r).2).2)
def parseP (neg : Bool) (all : List UInt8) (r : List UInt8) : Dec × Int :=
  if (oneS [46] r).1 = 46 then
    if digsS (oneS [46] r).2 = [] then (Dec.zero, 170) else parseE neg (all ++ digsS (oneS [46] r).2) (-((digsS (oneS [46] r).2).length : Int)) (restS (oneS [46] r).2)
  else parseE neg all 0 (oneS [46] r).2
def parseA (neg : Bool) (r : List UInt8) : Dec × Int :=
  if digsS r = [] ∨ ((digsS r).getD 0 0 = 48 ∧ 1 < (digsS r).length) then (Dec.zero, 170) else parseP neg (digsS r) (restS r)
/-- Parse's answers. -/
def parseS (text : List UInt8) : Dec × Int :=
  if 1000 < text.length then (Dec.zero, 3) else parseA ((oneS [45] text).1 == 45) (oneS [45] text).2
theorem digs_rest (r : List UInt8) : digsS r ++ restS r = r := List.takeWhile_append_dropWhile
theorem digs_len (r : List UInt8) : (digsS r).length + (restS r).length = r.length := by
  rw [← List.length_append, digs_rest]
theorem one_len (of r : List UInt8) : (oneS of r).2.length ≤ r.length := by
  unfold oneS
  split
  · simp
  · split
    · simp
    · simp
theorem Dig_digs (r : List UInt8) : Dig (digsS r) := by
  intro c hc
  have : ∀ (l : List UInt8), c ∈ l.takeWhile digB → digB c = true := by
    intro l
    induction l with
    | nil => simp
    | cons a l ih =>
      rw [List.takeWhile_cons]
      split
      · rename_i h
        intro hm
        rcases List.mem_cons.1 hm with h1 | h1
        · rw [h1]; exact h
        · exact ih h1
      · simp
  exact (digB_iff c).1 (this r hc)
theorem power_bd (s : List UInt8) (h : Dig s) : 0 ≤ powerS s ∧ powerS s ≤ 10000000 := by
  unfold powerS
  split
  · omega
  · have h1 := dval_lt (Dig_trim0 h)
    have h2 : 10 ^ (trim0 s).length ≤ 10 ^ 7 := Nat.pow_le_pow_right (by omega) (by omega)
    omega
/-- How far digits go: a place at which they stop. -/
theorem digs_at (r : List UInt8) (n : Nat) (h1 : digAll (r.take n) = true) (hn : n ≤ r.length) (h2 : n = r.length ∨ digB (r.getD n 0) = false) : digsS r = r.take n ∧ restS r = r.drop n := by
  induction r generalizing n with
  | nil => simp [digsS, restS]
  | cons c r ih =>
    cases n with
    | zero =>
      have hc : digB c = false := by simpa using h2
      simp [digsS, restS, hc]
    | succ n =>
      simp only [List.take_succ_cons, digAll, List.all_cons, Bool.and_eq_true] at h1
      have := ih n h1.2 (by simpa using hn) (by simpa using h2)
      simp only [digsS, restS] at this ⊢
      simp [h1.1, this.1, this.2]
end Go.Proofs.YtkakmjdfecbhaaaGreatDoor
