/- Requests in a row; the walk of Take. -/
import Derived.Test.YtgdfgppgfkkncaaGreatDoorHtN
namespace Go.Proofs.YtgdfgppgfkkncaaGreatDoor
open Go.RowKit

/-- A request and its two rows. -/
abbrev ReqR := Req × Value × Value
def reqVal (r : ReqR) : Value := .agg #[.string ⟨r.1.method.toArray⟩, .string ⟨r.1.path.toArray⟩, .string ⟨r.1.query.toArray⟩, r.2.1, r.2.2, .bool r.1.close]
def reqCells (r : ReqR) : List Value := [.string ⟨r.1.method.toArray⟩, .string ⟨r.1.path.toArray⟩, .string ⟨r.1.query.toArray⟩, r.2.1, r.2.2, .bool r.1.close]
def reqRow (rs : List ReqR) : List Value := rs.flatMap reqCells
theorem reqRow_len (rs : List ReqR) : (reqRow rs).length = rs.length * 6 := by
  induction rs with
  | nil => rfl
  | cons d l ih => rw [List.length_cons, Nat.add_mul, ← ih]; simp [reqRow, reqCells]
theorem reqRow_app (xs ys : List ReqR) : reqRow (xs ++ ys) = reqRow xs ++ reqRow ys := by simp [reqRow]
/-- v is a slice of bytes from block B on, that reads as l: a whole block, its spare cells behind. -/
def BodV (w : World) (B : Nat) (v : Value) (l : List UInt8) : Prop :=
  (v = .slice none 0 0 ∧ l = []) ∨ ∃ g cap cur fz, v = .slice (some ⟨g, 0, none⟩) l.length cap ∧ B ≤ g ∧ w.heap[g]? = some (.cells cur 5 fz) ∧ l.length ≤ cap ∧ cap ≤ maxLen ∧ cur.size = cap ∧ (fz = (0, 0) ∨ cap ≤ fz.1) ∧ cur.toList.take l.length = u8s l
theorem BytV.bod {w : World} {B : Nat} {v : Value} {l : List UInt8} (h : BytV w B v l) : BodV w B v l := by
  rcases h.2 with ⟨rfl, h2⟩ | ⟨g, cap, cur, rfl, h1, hgg, h3, h4, h5, h6⟩
  · exact .inl ⟨rfl, List.length_eq_zero_iff.1 h2⟩
  · exact .inr ⟨g, cap, cur, (0, 0), rfl, h1, hgg, h3, h4, by omega, .inl rfl, by rw [Nat.mul_one] at h6; exact h6⟩
theorem BodV.forms {w : World} {B : Nat} {v : Value} {l : List UInt8} (h : BodV w B v l) : ∃ p cap, v = .slice p l.length cap := by
  rcases h with ⟨rfl, rfl⟩ | ⟨g, cap, cur, fz, rfl, _⟩
  · exact ⟨none, 0, rfl⟩
  · exact ⟨_, cap, rfl⟩
theorem BodV.lt {w : World} {B : Nat} {v : Value} {l : List UInt8} (h : BodV w B v l) (k : Nat) (hk : v.ownBlock = some k) : B ≤ k ∧ k < w.heap.size := by
  rcases h with ⟨rfl, rfl⟩ | ⟨g, cap, cur, fz, rfl, h1, h2, _⟩
  · cases hk
  · cases hk; exact ⟨h1, (Array.getElem?_eq_some_iff.1 h2).1⟩
theorem BodV.le {w : World} {B B' : Nat} {v : Value} {l : List UInt8} (h : BodV w B v l) (hb : B' ≤ B) : BodV w B' v l := by
  rcases h with h | ⟨g, cap, cur, fz, h0, h1, h2⟩
  · exact .inl h
  · exact .inr ⟨g, cap, cur, fz, h0, Nat.le_trans hb h1, h2⟩
theorem BodV.apart {S : Nat → Prop} {w w' : World} {B : Nat} {v : Value} {l : List UInt8} (h : BodV w B v l) (ha : Apart S w w') (hn : ∀ k, v.ownBlock = some k → ¬ S k) : BodV w' B v l := by
  rcases h with h | ⟨g, cap, cur, fz, rfl, h1, h2, h3⟩
  · exact .inl h
  · exact .inr ⟨g, cap, cur, fz, rfl, h1, (ha.block _ (Array.getElem?_eq_some_iff.1 h2).1 (hn _ rfl)).trans h2, h3⟩
theorem BodV.below {w w' : World} {B : Nat} {v : Value} {l : List UInt8} (h : BodV w B v l) (hb : Below w.heap.size w w') : BodV w' B v l := h.apart (S := fun _ => False) (.ofBelow hb) (fun _ _ h => h)
theorem BodV.one {w : World} {B : Nat} {v : Value} {l : List UInt8} (h : BodV w B v l) : v.oneCell' = true := by
  obtain ⟨p, c, rfl⟩ := h.forms; rfl
/-- Its cells, which may be written. -/
theorem BodV.cells {w : World} {B g n cap : Nat} {l : List UInt8} (h : BodV w B (.slice (some ⟨g, 0, none⟩) n cap) l) (j : Nat) (hj : j < l.length) : w.cell? ⟨g, j, none⟩ = some (.int .u8 ((l.getD j 0).toNat : Int)) ∧ w.frozen? ⟨g, j, none⟩ = false := by
  rcases h with ⟨h, _⟩ | ⟨g, cap, cur, fz, h0, h1, h2, h3, h4, h5, h6, h7⟩
  · cases h
  · cases h0
    have e := u8s_at l j hj
    rw [← h7, List.getElem?_take, if_pos hj] at e
    refine ⟨by simp [World.cell?, h2]; simpa using e, ?_⟩
    unfold World.frozen?
    rw [h2]
    rcases h6 with rfl | h6
    · simp
    · simp; omega
theorem BodV.byts {w : World} {B : Nat} {v : Value} {l : List UInt8} (h : BodV w B v l) : BytS w v l := by
  rcases h with h | ⟨g, cap, cur, fz, rfl, h1, h2, h3, h4, h5⟩
  · exact .inl h
  · refine .inr ⟨g, 0, cap, rfl, h3, by omega, (Array.getElem?_eq_some_iff.1 h2).1, fun j hj => ?_⟩
    rw [Nat.zero_add]
    exact (BodV.cells (w := w) (B := B) (cap := cap) (n := l.length) (.inr ⟨g, cap, cur, fz, rfl, h1, h2, h3, h4, h5⟩) j hj).1
theorem BodV.ne {w : World} {B B' : Nat} {e' : TypeId} {s' : Nat} {v v' : Value} {l : List UInt8} {n' : Nat} {xs' : List Value} (h : BodV w B v l) (h' : w.ownsRow B' e' s' v' n' xs') (he : 5 ≠ e') (k : Nat) (hk : v.ownBlock = some k) : v'.ownBlock ≠ some k := by
  intro hk'
  rcases h with ⟨rfl, _⟩ | ⟨g, cap, cur, fz, rfl, _, h2, _⟩
  · cases hk
  · rcases h'.2 with ⟨hn, _⟩ | ⟨g', cap', cur', rfl, _, h2', _⟩
    · rw [hn] at hk'; cases hk'
    · cases hk; cases hk'
      rw [h2] at h2'
      simp only [Option.some.injEq, Obj.cells.injEq] at h2'
      exact he h2'.2.1
/-- '[]byte(s)'. -/
theorem bodV_string (w : World) (l : List UInt8) (hl : l.length ≤ 1000000000) : ∃ cap, (convert 9 23 (.string ⟨l.toArray⟩)).run Tryz.prog w = .ok (.slice (some ⟨w.heap.size, 0, none⟩) l.length cap) (Lib.bytesWorld w 5 ⟨l.toArray⟩) ∧
    BodV (Lib.bytesWorld w 5 ⟨l.toArray⟩) w.heap.size (.slice (some ⟨w.heap.size, 0, none⟩) l.length cap) l ∧ Below w.heap.size w (Lib.bytesWorld w 5 ⟨l.toArray⟩) := by
  have hc := Lib.run_convert_string_bytes (P := Tryz.prog) w 9 23 5 ⟨l.toArray⟩ Tryz.underlying9 Tryz.underlying23 Tryz.underlying5
  have hsz : (⟨l.toArray⟩ : ByteArray).size = l.length := by simp [ByteArray.size]
  have hnew := Lib.bytesWorld_at_new w 5 ⟨l.toArray⟩
  have hcs : (Lib.bytesCells w 5 ⟨l.toArray⟩).size = grownCap w l.length 0 5 := by
    have := grownCap_ge w l.length 0 5
    unfold Lib.bytesCells
    rw [hsz]
    simp; omega
  rw [hsz] at hc
  refine ⟨_, hc, .inr ⟨_, _, _, _, rfl, Nat.le_refl _, hnew, grownCap_ge _ _ _ _, grownCap_le_maxLen w l.length 0 5 (by unfold maxLen; omega), hcs, .inr (Nat.le_of_eq hcs.symm), ?_⟩, ⟨rfl, rfl, rfl, by rw [Lib.bytesWorld_size]; omega, fun k hk => Lib.bytesWorld_at_old w _ _ k hk⟩⟩
  unfold Lib.bytesCells u8s
  simp
/-- v is a row of requests of the call's own, from block B on, their headers and bodies too. -/
structure ReqsV (w : World) (B : Nat) (v : Value) (rs : List ReqR) : Prop where
  row : w.ownsRow B 40 6 v rs.length (reqRow rs)
  hdr : ∀ r ∈ rs, HdrV w B r.2.1 r.1.headers
  bod : ∀ r ∈ rs, BodV w B r.2.2 r.1.body
theorem ReqsV.nil (w : World) (B : Nat) : ReqsV w B (.slice none 0 0) [] := ⟨World.ownsRow_nil _ _ _ _, by simp, by simp⟩
theorem ReqsV.apart {S : Nat → Prop} {w w' : World} {B : Nat} {v : Value} {rs : List ReqR} (h : ReqsV w B v rs) (ha : Apart S w w') (hS : ∀ k, B ≤ k → k < w.heap.size → ¬ S k) : ReqsV w' B v rs :=
  ⟨ownsRow_apart h.row ha (fun k hk => hS k (World.ownsRow.lt h.row k hk).1 (World.ownsRow.lt h.row k hk).2), fun r hr => ownsRow_apart (h.hdr r hr) ha (fun k hk => hS k (World.ownsRow.lt (h.hdr r hr) k hk).1 (World.ownsRow.lt (h.hdr r hr) k hk).2), fun r hr => (h.bod r hr).apart ha (fun k hk => hS k ((h.bod r hr).lt k hk).1 ((h.bod r hr).lt k hk).2)⟩
theorem ReqsV.below {w w' : World} {B : Nat} {v : Value} {rs : List ReqR} (h : ReqsV w B v rs) (hb : Below w.heap.size w w') : ReqsV w' B v rs := h.apart (S := fun _ => False) (.ofBelow hb) (fun _ _ _ h => h)
theorem ReqsV.forms {w : World} {B : Nat} {v : Value} {rs : List ReqR} (h : ReqsV w B v rs) : ∃ p cap, v = .slice p rs.length cap := by
  rcases h.row.2 with ⟨hn, h2⟩ | ⟨g', cap, cur, e, _⟩
  · exact ⟨none, 0, by rw [hn, h2]⟩
  · exact ⟨_, cap, e⟩
theorem ownsRow_ne {w : World} {B B' : Nat} {e e' : TypeId} {s s' : Nat} {v v' : Value} {n n' : Nat} {xs xs' : List Value} (h : w.ownsRow B e s v n xs) (h' : w.ownsRow B' e' s' v' n' xs') (he : e ≠ e') (k : Nat) (hk : v.ownBlock = some k) : v'.ownBlock ≠ some k := by
  intro hk'
  rcases h.2 with ⟨hn, _⟩ | ⟨g, cap, cur, rfl, _, h2, _⟩
  · rw [hn] at hk; cases hk
  · rcases h'.2 with ⟨hn, _⟩ | ⟨g', cap', cur', rfl, _, h2', _⟩
    · rw [hn] at hk'; cases hk'
    · cases hk; cases hk'
      rw [h2] at h2'
      simp only [Option.some.injEq, Obj.cells.injEq] at h2'
      exact he h2'.2.1
theorem Tryz.info40 : (Tryz.prog.info? 40).map (fun i => (i.zero, i.size, i.bytes)) = some (some (.agg #[.string .empty, .string .empty, .string .empty, .slice none 0 0, .slice none 0 0, .bool false]), 6, 104) := by kernel_rfl
/-- 'append(l, q)'. -/
theorem wpList_append_req {w : World} {ops : Array Oper} {rest : List Oper} {o : Oper} {a : Act} {Q : Exit → Act → World → Prop} (hgd : o.guard = none) (s x : Operand)
    (ho : o.op = .call { callee := .builtin .append, args := #[s, x], argTypes := #[29, 29] })
    (B : Nat) (v : Value) (rs : List ReqR) (hv : a.eval s = v) (hown : ReqsV w B v rs) (r : ReqR) (hh : HdrV w B r.2.1 r.1.headers) (hb : BodV w B r.2.2 r.1.body)
    (G : Nat) (hx : a.eval x = .slice (some ⟨G, 0, none⟩) 1 1) (hG : G = w.heap.size) (hlen : rs.length ≤ 100000000) (hbase : B ≤ w.heap.size)
    (hK : ∀ v' w', ReqsV w' B v' (rs ++ [r]) → (w.alloc (.cells #[.string ⟨r.1.method.toArray⟩, .string ⟨r.1.path.toArray⟩, .string ⟨r.1.query.toArray⟩, r.2.1, r.2.2, .bool r.1.close] 40)).grownBy w' v.ownBlock → wpList Tryz.prog ops Q rest (a.put o.dst v') w') :
    wpList Tryz.prog ops Q (o :: rest) a (w.alloc (.cells #[.string ⟨r.1.method.toArray⟩, .string ⟨r.1.path.toArray⟩, .string ⟨r.1.query.toArray⟩, r.2.1, r.2.2, .bool r.1.close] 40)) := by
  subst hG
  obtain ⟨i0, hi, hz0, hz1, hz2⟩ := info_parts Tryz.info40
  obtain ⟨q, hv0, bv0⟩ := r
  simp only at *
  obtain ⟨p1, c1, rfl⟩ := hh.forms
  obtain ⟨p2, c2, rfl⟩ := hb.forms
  have hal : ReqsV (w.alloc (.cells #[.string ⟨q.method.toArray⟩, .string ⟨q.path.toArray⟩, .string ⟨q.query.toArray⟩, .slice p1 q.headers.length c1, .slice p2 q.body.length c2, .bool q.close] 40)) B v rs := hown.below ((Below.refl _ _).alloc (Nat.le_refl _) _)
  refine wpList_append_own _ hgd s x 29 ho B 40 i0 _ 6 104 Tryz.underlying29 hi hz0 hz1 hz2 rfl (by decide) v rs.length (reqRow rs) hv hal.row ⟨w.heap.size, 0, none⟩ 1 1 (reqRow [(q, .slice p1 q.headers.length c1, .slice p2 q.body.length c2)]) hx rfl ?_ ?_ ?_ ?_ (by simp; omega) ?_
  · intro j u hj
    have hj2 := (List.getElem?_eq_some_iff.1 hj).1
    rw [reqRow_len] at hj2
    rw [addr_off rfl, World.cell?_alloc_at _ _ _ _ rfl, Nat.zero_add]
    simpa [reqRow, reqCells] using hj
  · intro u hu
    simp [reqRow, reqCells] at hu
    rcases hu with rfl | rfl | rfl | rfl | rfl | rfl <;> rfl
  · unfold maxLen; omega
  · omega
  · intro v' w' h1 h2 _
    have hap : Apart (fun k => v.ownBlock = some k) (w.alloc (.cells #[.string ⟨q.method.toArray⟩, .string ⟨q.path.toArray⟩, .string ⟨q.query.toArray⟩, .slice p1 q.headers.length c1, .slice p2 q.body.length c2, .bool q.close] 40)) w' := Apart.ofGrown h2 (fun k hk => hk)
    have hhA : HdrV (w.alloc (.cells #[.string ⟨q.method.toArray⟩, .string ⟨q.path.toArray⟩, .string ⟨q.query.toArray⟩, .slice p1 q.headers.length c1, .slice p2 q.body.length c2, .bool q.close] 40)) B (.slice p1 q.headers.length c1) q.headers := ownsRow_apart (S := fun _ => False) hh (.ofBelow ((Below.refl _ _).alloc (Nat.le_refl _) _)) (fun _ _ h => h)
    have hbA : BodV (w.alloc (.cells #[.string ⟨q.method.toArray⟩, .string ⟨q.path.toArray⟩, .string ⟨q.query.toArray⟩, .slice p1 q.headers.length c1, .slice p2 q.body.length c2, .bool q.close] 40)) B (.slice p2 q.body.length c2) q.body := hb.below ((Below.refl _ _).alloc (Nat.le_refl _) _)
    refine hK v' w' ⟨by rw [List.length_append, reqRow_app]; exact h1, fun r hr => ?_, fun r hr => ?_⟩ h2
    · rcases List.mem_append.1 hr with hr | hr
      · exact ownsRow_apart (hal.hdr r hr) hap (fun k hk => ownsRow_ne (hal.hdr r hr) hal.row (by decide) k hk)
      · rw [List.mem_singleton.1 hr]
        exact ownsRow_apart hhA hap (fun k hk => ownsRow_ne hhA hal.row (by decide) k hk)
    · rcases List.mem_append.1 hr with hr | hr
      · exact (hal.bod r hr).apart hap (fun k hk => (hal.bod r hr).ne hal.row (by decide) k hk)
      · rw [List.mem_singleton.1 hr]
        exact hbA.apart hap (fun k hk => hbA.ne hal.row (by decide) k hk)
end Go.Proofs.YtgdfgppgfkkncaaGreatDoor
