/- Plain laws of HTTPBack: requests that were put one behind the other. -/
import Derived.Test.YtgdfgppgfkkncaaGreatDoorHtP
namespace Go.Proofs.YtgdfgppgfkkncaaGreatDoor

/-- A request's bytes, whatever it is. -/
def hdrT (h : Hdr) : List UInt8 := h.name ++ 58 :: (h.value ++ [13, 10])
def qryT (q : List UInt8) : List UInt8 := if q = [] then [] else 63 :: q
def lineT : List UInt8 := [32, 72, 84, 84, 80, 47, 49, 46, 49, 13, 10]
def toldS (q : Req) : List UInt8 := q.method ++ 32 :: q.path ++ qryT q.query ++ lineT ++ q.headers.flatMap hdrT ++ [13, 10] ++ q.body
/-- It is read as it was put. -/
def BackB (q : Req) (t : List UInt8) : Prop := (runA t).2.1 = 0 ∧ (runA t).1 = [q] ∧ (runA t).2.2.1 = []
theorem runA_zero {w : List UInt8} (h1 : (runA w).2.1 = 0) (h2 : (runA w).1 = []) (hne : ∀ e, nextS w = .err e → e ≠ 0) : (runA w).2.2.2 = false := by
  cases hn : nextS w with
  | err e => rw [runA_err hn] at h1; exact absurd h1 (hne e hn)
  | more => rw [runA_more hn]
  | got q r =>
    rw [runA_got hn] at h2
    split at h2 <;> simp at h2
theorem nextS_ne0 {w : List UInt8} {e : Int} (h : nextS w = .err e) : e ≠ 0 := by
  unfold nextS at h
  split at h
  · split at h
    · cases h; decide
    · cases h
  · simp only at h
    split at h
    · cases h; assumption
    · split at h <;> cases h
theorem BackB.run {q : Req} {t : List UInt8} (h : BackB q t) : runA t = ([q], 0, [], q.close) := by
  obtain ⟨h1, h2, h3⟩ := h
  have hd : (runA t).2.2.2 = q.close := by
    cases hn : nextS t with
    | err e => rw [runA_err hn] at h2; simp at h2
    | more => rw [runA_more hn] at h2; simp at h2
    | got p r =>
      rw [runA_got hn] at h1 h2 ⊢
      by_cases hc : p.close = true
      · rw [if_pos hc] at h2 ⊢
        simp only [List.cons.injEq, and_true] at h2
        rw [← h2, hc]
      · rw [if_neg hc] at h1 h2 ⊢
        simp only [List.cons.injEq] at h2
        rw [← h2.1]
        simp only [Bool.not_eq_true] at hc
        rw [hc]
        exact runA_zero h1 h2.2 (fun e => nextS_ne0)
  rcases hr : runA t with ⟨a, b, c, d⟩
  rw [hr] at h1 h2 h3 hd
  simp only at h1 h2 h3 hd
  subst h1 h2 h3 hd
  rfl
/-- Between two rounds of the law. -/
def BackI (qs : List Req) (b : List UInt8) (shut : Bool) : Prop := runA b = (qs, 0, [], shut)
theorem BackI.zero : BackI [] [] false := runA_more rfl
theorem BackI.step {qs : List Req} {b t : List UInt8} {q : Req} (h : BackI qs b false) (hb : BackB q t) : BackI (qs ++ [q]) (b ++ t) q.close := by
  unfold BackI at h ⊢
  rw [runA_app _ b t (Nat.le_refl _), h]
  simp only [Bool.false_eq_true, if_false, List.nil_append, hb.run]
/-- How long a request is, as the law counts. -/
def hdrN (h : Hdr) : Nat := h.name.length + h.value.length + 3
def reqN (q : Req) : Nat := q.method.length + q.path.length + q.query.length + q.body.length + (q.headers.map hdrN).sum
theorem flat_len (hs : List Hdr) : (hs.flatMap hdrT).length = (hs.map hdrN).sum := by
  induction hs with
  | nil => rfl
  | cons h l ih => rw [List.flatMap_cons, List.length_append, ih, List.map_cons, List.sum_cons]; simp [hdrT, hdrN]; omega
theorem toldS_len (q : Req) : (toldS q).length ≤ reqN q + 15 := by
  unfold toldS reqN
  have h1 : (qryT q.query).length ≤ q.query.length + 1 := by unfold qryT; split <;> simp
  have h2 := flat_len q.headers
  have h3 : lineT.length = 11 := rfl
  simp only [List.length_append, List.length_cons, List.length_nil]
  omega
end Go.Proofs.YtgdfgppgfkkncaaGreatDoor
