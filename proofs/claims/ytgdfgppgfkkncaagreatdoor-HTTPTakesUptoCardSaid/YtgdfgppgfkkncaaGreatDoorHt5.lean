/- What the walk of Head leans on: a row of headers, marks of loops over an iterator, a function that leaves with them. -/
import Derived.Test.YtgdfgppgfkkncaaGreatDoorHt4
import Derived.Test.YtgdfgppgfkkncaaGreatDoorHtU
namespace Go.Proofs.YtgdfgppgfkkncaaGreatDoor
open Go.RowKit

/-- A function that holds a loop over an iterator, from its body, without a fence. -/
theorem calls_marks {P : Program} {f : FuncId} {fn : Func} {c : Code} {args : Array Value} {w : World} {R : Ending → World → Prop} (hf : P.funcs[f]? = some fn) (hb : fn.body = some c)
    (h : ∀ Q0 : Exit → Act → World → Prop, (∀ a w, LeavesInM Fence.wide 5 P fn a.tmps R a.defers .returning w → Q0 .ret a w) → (∀ l a w, Q0 (.goto l) a w → False) →
      c.wp P Q0 { tmps := args ++ Array.replicate (fn.ntmps - args.size) undef, defers := [] } w) : Calls P f args w R :=
  callsIn_wide.1 (callsIn_of_wp_marks hf hb trivial (wpIn_wide.2 (h (bodyPostM Fence.wide 5 P fn R) (fun _ _ h => h) (fun _ _ _ h => h))))
/-- The mark that a loop over an iterator leaves. -/
def Mk (r : Nat) : Deferred := { target := .collected r, args := #[] }
theorem leaves_marks {P : Program} {fn : Func} {tmps : Array Value} {R : Ending → World → Prop} {n B : Nat} : ∀ (rs : List Nat) (W : World), rs.Nodup → (∀ r ∈ rs, B ≤ r ∧ W.heap[r]? = some (.deferred (some []))) → B ≤ W.heap.size →
    (∀ W', Below B W W' → CK W W' → LeavesIn Fence.wide n P fn tmps R [] .returning W') → LeavesInM Fence.wide n P fn tmps R (rs.map Mk) .returning W := by
  intro rs
  induction rs with
  | nil => intro W _ _ _ hR; exact hR W (Below.refl _ _) (CK.refl _)
  | cons r rs ih =>
    intro W hnd hrs hB hR
    obtain ⟨hb, hr⟩ := hrs r (by simp)
    have hlt := (Array.getElem?_eq_some_iff.1 hr).1
    rw [List.nodup_cons] at hnd
    have hbp : Below B W (W.putObj r (.deferred none)) := (Below.refl B W).grown (grownBy_putObj' W r _) hB (fun k e => by cases e; exact hb)
    have hcp : CK W (W.putObj r (.deferred none)) := CK.put0 W r _ _ hr rfl
    refine ⟨by simp, .inl ⟨r, W.putObj r (.deferred none), rfl, run_takeDeferred hr, ?_⟩⟩
    refine ih _ hnd.2 (fun r' hr' => ?_) (Nat.le_trans hB hbp.size) (fun W' h1 h2 => hR W' (hbp.trans h1) (hcp.trans h2))
    obtain ⟨hb', h'⟩ := hrs r' (by simp [hr'])
    exact ⟨hb', (World.putObj_heap_other (fun e => hnd.1 (by rw [← e]; exact hr'))).trans h'⟩

/-- The cells of a row of headers. -/
def hdrVals (hs : List Hdr) : List Value := hs.flatMap (fun h => [.string ⟨h.name.toArray⟩, .string ⟨h.value.toArray⟩])
theorem hdrVals_len (hs : List Hdr) : (hdrVals hs).length = hs.length * 2 := by
  induction hs with
  | nil => rfl
  | cons d l ih => rw [List.length_cons, Nat.add_mul, ← ih]; simp [hdrVals]
theorem hdrVals_app (xs ys : List Hdr) : hdrVals (xs ++ ys) = hdrVals xs ++ hdrVals ys := by simp [hdrVals]
/-- v is a row of headers of the call's own, from block B on. -/
def HdrV (w : World) (B : Nat) (v : Value) (hs : List Hdr) : Prop := w.ownsRow B 61 2 v hs.length (hdrVals hs)
theorem Tryz.info61 : (Tryz.prog.info? 61).map (fun i => (i.zero, i.size, i.bytes)) = some (some (.agg #[.string .empty, .string .empty]), 2, 32) := by kernel_rfl
/-- 'append(l, h)'. -/
theorem wpList_append_hdr {w : World} {ops : Array Oper} {rest : List Oper} {o : Oper} {a : Act} {Q : Exit → Act → World → Prop} (hgd : o.guard = none) (s x : Operand)
    (ho : o.op = .call { callee := .builtin .append, args := #[s, x], argTypes := #[38, 38] })
    (B : Nat) (v : Value) (hs : List Hdr) (hv : a.eval s = v) (hown : HdrV w B v hs) (h : Hdr)
    (hx : a.eval x = .slice (some ⟨w.heap.size, 0, none⟩) 1 1) (hlen : hs.length ≤ 1000) (hbase : B ≤ w.heap.size)
    (hK : ∀ v' w', HdrV w' B v' (hs ++ [h]) → (w.alloc (.cells #[.string ⟨h.name.toArray⟩, .string ⟨h.value.toArray⟩] 61)).grownBy w' v.ownBlock → wpList Tryz.prog ops Q rest (a.put o.dst v') w') :
    wpList Tryz.prog ops Q (o :: rest) a (w.alloc (.cells #[.string ⟨h.name.toArray⟩, .string ⟨h.value.toArray⟩] 61)) := by
  obtain ⟨i0, hi, hz0, hz1, hz2⟩ := info_parts Tryz.info61
  refine wpList_append_own _ hgd s x 38 ho B 61 i0 _ 2 32 Tryz.underlying38 hi hz0 hz1 hz2 rfl (by decide) v hs.length (hdrVals hs) hv (World.ownsRow.alloc hown _) ⟨w.heap.size, 0, none⟩ 1 1 (hdrVals [h]) hx rfl ?_ ?_ ?_ ?_ (by simp; omega) ?_
  · intro j u hj
    have hj2 : j = 0 ∨ j = 1 := by
      have := (List.getElem?_eq_some_iff.1 hj).1
      rw [hdrVals_len] at this
      simp at this; omega
    rcases hj2 with rfl | rfl
    · rw [addr_off rfl, World.cell?_alloc_at _ _ _ _ rfl]; exact hj
    · rw [addr_off rfl, World.cell?_alloc_at _ _ _ _ rfl]; exact hj
  · intro u hu
    simp [hdrVals] at hu
    rcases hu with rfl | rfl <;> rfl
  · unfold maxLen; omega
  · omega
  · intro v' w' h1 h2 _
    refine hK v' w' ?_ h2
    unfold HdrV
    rw [hdrVals_app, List.length_append]
    exact h1
theorem below_both {B : Nat} {w W : World} (h : Below B w W) (a : Addr) (v : Value) : Below B (w.setCell a v) (W.setCell a v) := by
  refine ⟨h.os, h.tape, h.output, by simpa using h.size, fun k hk => ?_⟩
  simp only [World.setCell, Array.getElem?_modify]
  rw [h.block k hk]
theorem RowAt.grown {w w' : World} {g : Nat} {l : List Value} {row : Option Nat} (h : RowAt w g l) (hg : w.grownBy w' row) (hne : some g ≠ row) : RowAt w' g l :=
  ⟨fun i v hi => hg.cell (h.cell i v hi) hne, fun i => (World.frozen?_of_block (a := ⟨g, i, none⟩) (hg.block g h.lt hne)).trans (h.free i), Nat.lt_of_lt_of_le h.lt hg.size⟩
theorem cut2_ne (a b : UInt8) (s : List UInt8) : ∀ acc, cut2 a b acc s ≠ [] := by
  obtain ⟨n, hn⟩ : ∃ n, s.length ≤ n := ⟨_, Nat.le_refl _⟩
  induction n generalizing s with
  | zero =>
    obtain rfl : s = [] := by simpa using hn
    intro acc; simp [cut2]
  | succ n ih =>
    intro acc
    cases s with
    | nil => simp [cut2]
    | cons c r =>
      cases r with
      | nil => simp [cut2]
      | cons d t =>
        rw [cut2_cons]
        split
        · simp
        · exact ih (d :: t) (by simp at hn ⊢; omega) _
theorem cut2_len (a b : UInt8) (s : List UInt8) : ∀ acc, ∀ p ∈ cut2 a b acc s, p.length ≤ acc.length + s.length := by
  obtain ⟨n, hn⟩ : ∃ n, s.length ≤ n := ⟨_, Nat.le_refl _⟩
  induction n generalizing s with
  | zero =>
    obtain rfl : s = [] := by simpa using hn
    intro acc p hp; simp [cut2] at hp; rw [hp]; simp
  | succ n ih =>
    intro acc p hp
    cases s with
    | nil => simp [cut2] at hp; rw [hp]; simp
    | cons c r =>
      cases r with
      | nil => simp [cut2] at hp; rw [hp]; simp
      | cons d t =>
        rw [cut2_cons] at hp
        split at hp
        · rcases List.mem_cons.1 hp with rfl | hp
          · simp
          · have := ih t (by simp at hn ⊢; omega) [] p hp; simp at this ⊢; omega
        · have := ih (d :: t) (by simp at hn ⊢; omega) (acc ++ [c]) p hp; simp at this ⊢; omega
theorem cut2_count (a b : UInt8) (s : List UInt8) : ∀ acc, (cut2 a b acc s).length ≤ s.length + 1 := by
  obtain ⟨n, hn⟩ : ∃ n, s.length ≤ n := ⟨_, Nat.le_refl _⟩
  induction n generalizing s with
  | zero =>
    obtain rfl : s = [] := by simpa using hn
    intro acc; simp [cut2]
  | succ n ih =>
    intro acc
    cases s with
    | nil => simp [cut2]
    | cons c r =>
      cases r with
      | nil => simp [cut2]
      | cons d t =>
        rw [cut2_cons]
        split
        · have := ih t (by simp at hn ⊢; omega) []; simp; omega
        · have := ih (d :: t) (by simp at hn ⊢; omega) (acc ++ [c]); simp at this ⊢; omega
/-- Head, behind the test of its end. -/
def headT (s : List UInt8) (l : List UInt8) (r : List (List UInt8)) : Req × Nat × Int :=
  if 16384 < s.length then (Req.zero, 0, 382) else
  if (firstS l).2 ≠ 0 then (Req.zero, 0, (firstS l).2) else
  if 100 < r.length then (Req.zero, 0, 382) else
  match headersS r with
  | none => (Req.zero, 0, 380)
  | some hs => if (countS hs).2 ≠ 0 then (Req.zero, 0, (countS hs).2) else
    (⟨(firstS l).1.1, (firstS l).1.2.1, (firstS l).1.2.2, hs, [], (valuesS hs nConn).any closesS⟩, (countS hs).1, 0)
theorem headS_yes {s : List UInt8} (h : Lib.index s ends = (s.length : Int) - 4) (h4 : 4 ≤ s.length) {l : List UInt8} {r : List (List UInt8)} (hl : cut2 13 10 [] (s.take (s.length - 4)) = l :: r) : headS s = headT s l r := by
  unfold headS headT
  rw [if_pos ⟨h, h4⟩, hl]
  rfl
/-- Between two header lines: what the call's own blocks hold. -/
structure HInv (w w5 wr : World) (g c q L : Nat) (m u qy l0 : List UInt8) (r : List (List UInt8)) (rs : List Nat) (j : Nat) (hs : List Hdr) (hv : Value) : Prop where
  hj : j ≤ r.length
  head : headersS (r.take j) = some hs
  many : hs.length = j
  row : HdrV wr w5.heap.size hv hs
  rg : RowAt wr g [.string ⟨#[]⟩, .string ⟨#[]⟩, .string ⟨#[]⟩, .slice none 0 0, .slice none 0 0, .bool false]
  rc : RowAt wr c [.int .i64 ((valuesS hs nHost).length : Int), .int .i64 ((valuesS hs nLength).length : Int), .int .i64 ((valuesS hs nCoding).length : Int), .string ⟨((valuesS hs nLength).getLastD []).toArray⟩]
  rq : RowAt wr q [.string ⟨m.toArray⟩, .string ⟨u.toArray⟩, .string ⟨qy.toArray⟩, hv, .slice none 0 0, .bool ((valuesS hs nConn).any closesS)]
  rl : RowAt wr L (strs (l0 :: r))
  bel : Below w.heap.size w wr
  size : w5.heap.size ≤ wr.heap.size
  nd : rs.Nodup
  marks : ∀ x ∈ rs, w5.heap.size ≤ x ∧ wr.heap[x]? = some (.deferred (some []))
theorem HInv.below {w w5 wr w' : World} {g c q L : Nat} {m u qy l0 : List UInt8} {r : List (List UInt8)} {rs : List Nat} {j : Nat} {hs : List Hdr} {hv : Value} (h : HInv w w5 wr g c q L m u qy l0 r rs j hs hv) (hb : Below wr.heap.size wr w') :
    HInv w w5 w' g c q L m u qy l0 r rs j hs hv :=
  ⟨h.hj, h.head, h.many, h.row.kept (grown_none hb) (by cases hq : hv.ownBlock <;> simp), h.rg.below hb, h.rc.below hb, h.rq.below hb, h.rl.below hb, h.bel.trans (hb.mono h.bel.size), Nat.le_trans h.size hb.size, h.nd,
    fun x hx => ⟨(h.marks x hx).1, (hb.block x (Array.getElem?_eq_some_iff.1 (h.marks x hx).2).1).trans (h.marks x hx).2⟩⟩
set_option maxRecDepth 100000 in
theorem range_map148 (us : Nat → Value) : (List.range 148).map us = us 0 :: us 1 :: us 2 :: us 3 :: us 4 :: us 5 :: us 6 :: us 7 :: us 8 :: us 9 :: us 10 :: us 11 :: us 12 :: us 13 :: us 14 :: us 15 :: us 16 :: us 17 :: us 18 :: us 19 :: us 20 :: us 21 :: us 22 :: us 23 :: us 24 :: us 25 :: us 26 :: us 27 :: us 28 :: us 29 :: us 30 :: us 31 :: us 32 :: us 33 :: us 34 :: us 35 :: us 36 :: us 37 :: us 38 :: us 39 :: us 40 :: us 41 :: us 42 :: us 43 :: us 44 :: us 45 :: us 46 :: us 47 :: us 48 :: us 49 :: us 50 :: us 51 :: us 52 :: us 53 :: us 54 :: us 55 :: us 56 :: us 57 :: us 58 :: us 59 :: us 60 :: us 61 :: us 62 :: us 63 :: us 64 :: us 65 :: us 66 :: us 67 :: us 68 :: us 69 :: us 70 :: us 71 :: us 72 :: us 73 :: us 74 :: us 75 :: us 76 :: us 77 :: us 78 :: us 79 :: us 80 :: us 81 :: us 82 :: us 83 :: us 84 :: us 85 :: us 86 :: us 87 :: us 88 :: us 89 :: us 90 :: us 91 :: us 92 :: us 93 :: us 94 :: us 95 :: us 96 :: us 97 :: us 98 :: us 99 :: us 100 :: us 101 :: us 102 :: us 103 :: us 104 :: us 105 :: us 106 :: us 107 :: us 108 :: us 109 :: us 110 :: us 111 :: us 112 :: us 113 :: us 114 :: us 115 :: us 116 :: us 117 :: us 118 :: us 119 :: us 120 :: us 121 :: us 122 :: us 123 :: us 124 :: us 125 :: us 126 :: us 127 :: us 128 :: us 129 :: us 130 :: us 131 :: us 132 :: us 133 :: us 134 :: us 135 :: us 136 :: us 137 :: us 138 :: us 139 :: us 140 :: us 141 :: us 142 :: us 143 :: us 144 :: us 145 :: us 146 :: us 147 :: [] := rfl
set_option maxRecDepth 100000 in
theorem frame148 (l : List Value) (h : l.length = 148) : ∃ us : Nat → Value, l = us 0 :: us 1 :: us 2 :: us 3 :: us 4 :: us 5 :: us 6 :: us 7 :: us 8 :: us 9 :: us 10 :: us 11 :: us 12 :: us 13 :: us 14 :: us 15 :: us 16 :: us 17 :: us 18 :: us 19 :: us 20 :: us 21 :: us 22 :: us 23 :: us 24 :: us 25 :: us 26 :: us 27 :: us 28 :: us 29 :: us 30 :: us 31 :: us 32 :: us 33 :: us 34 :: us 35 :: us 36 :: us 37 :: us 38 :: us 39 :: us 40 :: us 41 :: us 42 :: us 43 :: us 44 :: us 45 :: us 46 :: us 47 :: us 48 :: us 49 :: us 50 :: us 51 :: us 52 :: us 53 :: us 54 :: us 55 :: us 56 :: us 57 :: us 58 :: us 59 :: us 60 :: us 61 :: us 62 :: us 63 :: us 64 :: us 65 :: us 66 :: us 67 :: us 68 :: us 69 :: us 70 :: us 71 :: us 72 :: us 73 :: us 74 :: us 75 :: us 76 :: us 77 :: us 78 :: us 79 :: us 80 :: us 81 :: us 82 :: us 83 :: us 84 :: us 85 :: us 86 :: us 87 :: us 88 :: us 89 :: us 90 :: us 91 :: us 92 :: us 93 :: us 94 :: us 95 :: us 96 :: us 97 :: us 98 :: us 99 :: us 100 :: us 101 :: us 102 :: us 103 :: us 104 :: us 105 :: us 106 :: us 107 :: us 108 :: us 109 :: us 110 :: us 111 :: us 112 :: us 113 :: us 114 :: us 115 :: us 116 :: us 117 :: us 118 :: us 119 :: us 120 :: us 121 :: us 122 :: us 123 :: us 124 :: us 125 :: us 126 :: us 127 :: us 128 :: us 129 :: us 130 :: us 131 :: us 132 :: us 133 :: us 134 :: us 135 :: us 136 :: us 137 :: us 138 :: us 139 :: us 140 :: us 141 :: us 142 :: us 143 :: us 144 :: us 145 :: us 146 :: us 147 :: [] ∧ ∀ i, us i = l.getD i undef := by
  refine ⟨fun i => l.getD i undef, Eq.trans ?_ (range_map148 (fun i => l.getD i undef)), fun _ => rfl⟩
  apply List.ext_getElem
  · simp [h]
  · intro i h1 h2
    simp [List.getElem?_eq_getElem h1]
/-- A header is appended: the counts are the old ones yet. -/
structure HMid (w w5 wr : World) (g c q L : Nat) (m u qy l0 : List UInt8) (r : List (List UInt8)) (rs : List Nat) (j : Nat) (hs : List Hdr) (h : Hdr) (hv : Value) : Prop where
  hj : j < r.length
  head : headersS (r.take (j + 1)) = some (hs ++ [h])
  many : (hs ++ [h]).length = j + 1
  row : HdrV wr w5.heap.size hv (hs ++ [h])
  rg : RowAt wr g [.string ⟨#[]⟩, .string ⟨#[]⟩, .string ⟨#[]⟩, .slice none 0 0, .slice none 0 0, .bool false]
  rc : RowAt wr c [.int .i64 ((valuesS hs nHost).length : Int), .int .i64 ((valuesS hs nLength).length : Int), .int .i64 ((valuesS hs nCoding).length : Int), .string ⟨((valuesS hs nLength).getLastD []).toArray⟩]
  rq : RowAt wr q [.string ⟨m.toArray⟩, .string ⟨u.toArray⟩, .string ⟨qy.toArray⟩, hv, .slice none 0 0, .bool ((valuesS hs nConn).any closesS)]
  rl : RowAt wr L (strs (l0 :: r))
  bel : Below w.heap.size w wr
  size : w5.heap.size ≤ wr.heap.size
  nd : rs.Nodup
  marks : ∀ x ∈ rs, w5.heap.size ≤ x ∧ wr.heap[x]? = some (.deferred (some []))
theorem take_step (r : List (List UInt8)) (j : Nat) (h : j < r.length) : r.take (j + 1) = r.take j ++ [r.getD j []] := by
  rw [List.take_add_one, List.getElem?_eq_getElem h]; simp [List.getElem?_eq_getElem h]
theorem HInv.append {w w5 wr w' : World} {g c q L : Nat} {m u qy l0 : List UInt8} {r : List (List UInt8)} {rs : List Nat} {j : Nat} {hs : List Hdr} {hv hv2 : Value} {h : Hdr} {o : Obj} (hi : HInv w w5 wr g c q L m u qy l0 r rs j hs hv)
    (hlt : j < r.length) (hh : headerS (r.getD j []) = some h) (hrow : HdrV w' w5.heap.size hv2 (hs ++ [h])) (hg : (wr.alloc o).grownBy w' hv.ownBlock) (hb : w.heap.size ≤ w5.heap.size) (hg5 : g < w5.heap.size) (hc5 : c < w5.heap.size) (hq5 : q < w5.heap.size) (hL5 : L < w5.heap.size) (hgq : q ≠ g) (hcq : q ≠ c) (hLq : q ≠ L) (hqw : w.heap.size ≤ q) :
    HMid w w5 (w'.setCell ⟨q, 3, none⟩ hv2) g c q L m u qy l0 r rs j hs h hv2 := by
  have hne : ∀ b, b < w5.heap.size → some b ≠ hv.ownBlock := fun b hb e => by
    have := (hi.row.lt b e.symm).1
    omega
  have hal : Below w.heap.size w (wr.alloc o) := hi.bel.alloc hi.bel.size o
  have hsz : w5.heap.size ≤ w'.heap.size := Nat.le_trans (Nat.le_trans hi.size (by simp)) hg.size
  have hrq := (hi.rq.alloc o).grown hg (hne q hq5)
  refine ⟨hlt, ?_, by rw [List.length_append, hi.many]; rfl, ?_, ((hi.rg.alloc o).grown hg (hne g hg5)).far hgq _, ((hi.rc.alloc o).grown hg (hne c hc5)).far hcq _, hrq.set 3 hv2 (by simp), ((hi.rl.alloc o).grown hg (hne L hL5)).far hLq _, ?_, by simpa using hsz, hi.nd, ?_⟩
  · rw [take_step r j hlt]
    exact headersS_snoc _ _ _ _ hi.head hh
  · exact ownsRow_setCell_below hrow hq5 _
  · exact (hal.grown hg (Nat.le_trans hal.size (Nat.le_refl _)) (fun k e => Nat.le_trans hb (hi.row.lt k e).1)).setCell hqw _
  · intro x hx
    obtain ⟨h1, h2⟩ := hi.marks x hx
    refine ⟨h1, ?_⟩
    have hxl := (Array.getElem?_eq_some_iff.1 h2).1
    have h3 : (wr.alloc o).heap[x]? = some (.deferred (some [])) := (Below.heap_alloc _ _ _ hxl).trans h2
    have hxo : some x ≠ hv.ownBlock := fun e => by
      rcases hi.row.2 with ⟨hn, _⟩ | ⟨g', cap, cur, rfl, _, hgg, _⟩
      · rw [hn] at e; cases e
      · simp only [Value.ownBlock, Option.some.injEq] at e
        subst e
        rw [h2] at hgg; cases hgg
    have h4 := (hg.block x (by simp; omega) hxo).trans h3
    rw [← h4]
    exact Below.heap_setCell _ _ _ _ (by show x ≠ q; omega)
theorem RowAt.ck {w w' : World} {g : Nat} {l : List Value} (h : RowAt w g l) (hk : CK w w') : ∀ i v, l[i]? = some v → w'.cell? ⟨g, i, none⟩ = some v := fun i v hi => hk.cell (h.cell i v hi)
/-- At the function's end: its marks, and its result's row. -/
structure MK (w w5 W : World) (rs : List Nat) (l : List Value) : Prop where
  nd : rs.Nodup
  marks : ∀ x ∈ rs, w5.heap.size ≤ x ∧ W.heap[x]? = some (.deferred (some []))
  size : w5.heap.size ≤ W.heap.size
  bel : Below w.heap.size w W
  rg : RowAt W w.heap.size l
  lt : w.heap.size < w5.heap.size
theorem MK.set {w w5 W : World} {rs : List Nat} {l : List Value} (h : MK w w5 W rs l) (i : Nat) (v : Value) (hi : i < l.length) : MK w w5 (W.setCell ⟨w.heap.size, i, none⟩ v) rs (l.set i v) :=
  ⟨h.nd, fun x hx => ⟨(h.marks x hx).1, (Below.heap_setCell _ _ _ _ (by have := (h.marks x hx).1; have := h.lt; show x ≠ w.heap.size; omega)).trans (h.marks x hx).2⟩, by simpa using h.size, h.bel.setCell (Nat.le_refl _) _, h.rg.set i v hi, h.lt⟩
theorem MK.leaves {P : Program} {fn : Func} {tmps : Array Value} {R : Ending → World → Prop} {n : Nat} {w w5 W : World} {rs : List Nat} {l : List Value} (h : MK w w5 W rs l)
    (hR : ∀ W9, CK W W9 → (∀ i v, l[i]? = some v → W9.cell? ⟨w.heap.size, i, none⟩ = some v) → Below w.heap.size w W9 → LeavesIn Fence.wide n P fn tmps R [] .returning W9) : LeavesInM Fence.wide n P fn tmps R (rs.map Mk) .returning W :=
  leaves_marks rs W h.nd h.marks h.size (fun W9 h1 h2 => hR W9 h2 (h.rg.ck h2) (h.bel.trans (h1.mono (Nat.le_of_lt h.lt))))
theorem HInv.toMK {w w5 wr : World} {c q L : Nat} {m u qy l0 : List UInt8} {r : List (List UInt8)} {rs : List Nat} {j : Nat} {hs : List Hdr} {hv : Value} (h : HInv w w5 wr w.heap.size c q L m u qy l0 r rs j hs hv) (hlt : w.heap.size < w5.heap.size) :
    MK w w5 wr rs [.string ⟨#[]⟩, .string ⟨#[]⟩, .string ⟨#[]⟩, .slice none 0 0, .slice none 0 0, .bool false] := ⟨h.nd, h.marks, h.size, h.bel, h.rg, hlt⟩
theorem HdrV.ck {w w' : World} {B : Nat} {v : Value} {hs : List Hdr} (h : HdrV w B v hs) (hk : CK w w') : HdrV w' B v hs := by
  rcases h.2 with ⟨hn, h2⟩ | ⟨g', cap, cur, rfl, h1, hgg, h3⟩
  · exact ⟨h.1, .inl ⟨hn, h2⟩⟩
  · exact ⟨h.1, .inr ⟨g', cap, cur, rfl, h1, hk.block _ _ hgg rfl, h3⟩⟩
theorem HdrV.ne {w : World} {B : Nat} {v : Value} {hs : List Hdr} (h : HdrV w B v hs) {b : Nat} (hb : b < B) : some b ≠ v.ownBlock := fun e => by
  have := (h.lt b e.symm).1
  omega
/-- The blocks are the call's own, and different. -/
structure Dis (w w5 : World) (g c q L : Nat) : Prop where
  wc : w.heap.size ≤ c
  wq : w.heap.size ≤ q
  g5 : g < w5.heap.size
  c5 : c < w5.heap.size
  q5 : q < w5.heap.size
  L5 : L < w5.heap.size
  w5w : w.heap.size ≤ w5.heap.size
  cg : c ≠ g
  qg : q ≠ g
  cq : c ≠ q
  cL : c ≠ L
  qL : q ≠ L
section
variable {w w5 wr : World} {g c q L : Nat} {m u qy l0 : List UInt8} {r : List (List UInt8)} {rs : List Nat} {j : Nat} {hs : List Hdr} {h : Hdr} {hv : Value}
/-- The counts are brought up to date. -/
theorem HMid.fin (hm : HMid w w5 wr g c q L m u qy l0 r rs j hs h hv) (hd : Dis w w5 g c q L) {wr' : World}
    (hc : RowAt wr' c [.int .i64 ((valuesS (hs ++ [h]) nHost).length : Int), .int .i64 ((valuesS (hs ++ [h]) nLength).length : Int), .int .i64 ((valuesS (hs ++ [h]) nCoding).length : Int), .string ⟨((valuesS (hs ++ [h]) nLength).getLastD []).toArray⟩])
    (hq : RowAt wr' q [.string ⟨m.toArray⟩, .string ⟨u.toArray⟩, .string ⟨qy.toArray⟩, hv, .slice none 0 0, .bool ((valuesS (hs ++ [h]) nConn).any closesS)])
    (hk : ∀ b, b ≠ c → b ≠ q → wr'.heap[b]? = wr.heap[b]?) (hb : Below w.heap.size wr wr') : HInv w w5 wr' g c q L m u qy l0 r rs (j + 1) (hs ++ [h]) hv := by
  have hx : ∀ {b : Nat} {l : List Value}, RowAt wr b l → b ≠ c → b ≠ q → RowAt wr' b l := fun hr h1 h2 =>
    ⟨fun i v hi => (World.cell?_of_block (a := ⟨_, i, none⟩) (hk _ h1 h2)).trans (hr.cell i v hi), fun i => (World.frozen?_of_block (a := ⟨_, i, none⟩) (hk _ h1 h2)).trans (hr.free i), Nat.lt_of_lt_of_le hr.lt hb.size⟩
  refine ⟨hm.hj, hm.head, hm.many, ?_, hx hm.rg hd.cg.symm hd.qg.symm, hc, hq, hx hm.rl hd.cL.symm hd.qL.symm, hm.bel.trans hb, Nat.le_trans hm.size hb.size, hm.nd, fun x hx2 => ?_⟩
  · have hrow := hm.row
    rcases hrow.2 with ⟨hn, h2⟩ | ⟨g', cap, cur, e1, h1, hgg, h3⟩
    · exact ⟨hrow.1, .inl ⟨hn, h2⟩⟩
    · refine ⟨hrow.1, .inr ⟨g', cap, cur, e1, h1, (hk g' ?_ ?_).trans hgg, h3⟩⟩
      · have := hd.c5; omega
      · have := hd.q5; omega
  · obtain ⟨h1, h2⟩ := hm.marks x hx2
    refine ⟨h1, (hk x ?_ ?_).trans h2⟩
    · have := hd.c5; omega
    · have := hd.q5; omega
theorem cell_set_other (wr : World) (a : Addr) (v : Value) (b : Nat) (h : b ≠ a.block) : (wr.setCell a v).heap[b]? = wr.heap[b]? := Below.heap_setCell _ _ _ _ h
theorem HMid.host (hm : HMid w w5 wr g c q L m u qy l0 r rs j hs h hv) (hd : Dis w w5 g c q L) (hn : h.name = nHost) :
    HInv w w5 (wr.setCell ⟨c, 0, none⟩ (.int .i64 ((valuesS hs nHost).length + 1 : Int))) g c q L m u qy l0 r rs (j + 1) (hs ++ [h]) hv := by
  refine hm.fin hd ?_ ?_ (fun b h1 h2 => cell_set_other _ _ _ _ h1) ((Below.refl _ _).setCell hd.wc _)
  · have h1 := hm.rc.set 0 (.int .i64 ((valuesS hs nHost).length + 1 : Int)) (by simp)
    simp only [valuesS_snoc, hn, show (nHost == nHost) = true from by decide, show (nHost == nLength) = false from by decide, show (nHost == nCoding) = false from by decide, if_true, Bool.false_eq_true, if_false, List.append_nil, List.length_append, List.length_singleton] at h1 ⊢
    exact h1
  · have h1 := hm.rq.far (p := ⟨c, 0, none⟩) hd.cq (.int .i64 ((valuesS hs nHost).length + 1 : Int))
    simp only [valuesS_snoc, hn, show (nHost == nConn) = false from by decide, Bool.false_eq_true, if_false, List.append_nil]
    exact h1
theorem HMid.coding (hm : HMid w w5 wr g c q L m u qy l0 r rs j hs h hv) (hd : Dis w w5 g c q L) (hn : h.name = nCoding) :
    HInv w w5 (wr.setCell ⟨c, 2, none⟩ (.int .i64 ((valuesS hs nCoding).length + 1 : Int))) g c q L m u qy l0 r rs (j + 1) (hs ++ [h]) hv := by
  refine hm.fin hd ?_ ?_ (fun b h1 h2 => cell_set_other _ _ _ _ h1) ((Below.refl _ _).setCell hd.wc _)
  · have h1 := hm.rc.set 2 (.int .i64 ((valuesS hs nCoding).length + 1 : Int)) (by simp)
    simp only [valuesS_snoc, hn, show (nCoding == nHost) = false from by decide, show (nCoding == nLength) = false from by decide, show (nCoding == nCoding) = true from by decide, if_true, Bool.false_eq_true, if_false, List.append_nil, List.length_append, List.length_singleton] at h1 ⊢
    exact h1
  · have h1 := hm.rq.far (p := ⟨c, 2, none⟩) hd.cq (.int .i64 ((valuesS hs nCoding).length + 1 : Int))
    simp only [valuesS_snoc, hn, show (nCoding == nConn) = false from by decide, Bool.false_eq_true, if_false, List.append_nil]
    exact h1
theorem HMid.length (hm : HMid w w5 wr g c q L m u qy l0 r rs j hs h hv) (hd : Dis w w5 g c q L) (hn : h.name = nLength) :
    HInv w w5 ((wr.setCell ⟨c, 1, none⟩ (.int .i64 ((valuesS hs nLength).length + 1 : Int))).setCell ⟨c, 3, none⟩ (.string ⟨h.value.toArray⟩)) g c q L m u qy l0 r rs (j + 1) (hs ++ [h]) hv := by
  refine hm.fin hd ?_ ?_ (fun b h1 h2 => (cell_set_other _ _ _ _ h1).trans (cell_set_other _ _ _ _ h1)) (((Below.refl _ _).setCell hd.wc _).setCell hd.wc _)
  · have h1 := (hm.rc.set 1 (.int .i64 ((valuesS hs nLength).length + 1 : Int)) (by simp)).set 3 (.string ⟨h.value.toArray⟩) (by simp)
    simp only [valuesS_snoc, hn, show (nLength == nHost) = false from by decide, show (nLength == nCoding) = false from by decide, show (nLength == nLength) = true from by decide, if_true, Bool.false_eq_true, if_false, List.append_nil, List.length_append, List.length_singleton, List.getLastD_concat] at h1 ⊢
    exact h1
  · have h1 := (hm.rq.far (p := ⟨c, 1, none⟩) hd.cq (.int .i64 ((valuesS hs nLength).length + 1 : Int))).far (p := ⟨c, 3, none⟩) hd.cq (.string ⟨h.value.toArray⟩)
    simp only [valuesS_snoc, hn, show (nLength == nConn) = false from by decide, Bool.false_eq_true, if_false, List.append_nil]
    exact h1
theorem HMid.other (hm : HMid w w5 wr g c q L m u qy l0 r rs j hs h hv) (hd : Dis w w5 g c q L) (h1 : h.name ≠ nHost) (h2 : h.name ≠ nCoding) (h3 : h.name ≠ nLength) (h4 : h.name = nConn → closesS h.value = false) :
    HInv w w5 wr g c q L m u qy l0 r rs (j + 1) (hs ++ [h]) hv := by
  refine hm.fin hd ?_ ?_ (fun b h1 h2 => rfl) (Below.refl _ _)
  · simp only [valuesS_snoc, beq_eq_false_iff_ne.2 h1, beq_eq_false_iff_ne.2 h2, beq_eq_false_iff_ne.2 h3, Bool.false_eq_true, if_false, List.append_nil]
    exact hm.rc
  · have he : (valuesS (hs ++ [h]) nConn).any closesS = (valuesS hs nConn).any closesS := by
      rw [valuesS_snoc]
      by_cases hc : h.name = nConn
      · rw [hc, if_pos (by decide), List.any_append]; simp [h4 hc]
      · rw [beq_eq_false_iff_ne.2 hc]; simp
    rw [he]
    exact hm.rq
theorem HMid.close (hm : HMid w w5 wr g c q L m u qy l0 r rs j hs h hv) (hd : Dis w w5 g c q L) (hn : h.name = nConn) (h4 : closesS h.value = true) :
    HInv w w5 (wr.setCell ⟨q, 5, none⟩ (.bool true)) g c q L m u qy l0 r rs (j + 1) (hs ++ [h]) hv := by
  refine hm.fin hd ?_ ?_ (fun b h1 h2 => cell_set_other _ _ _ _ h2) ((Below.refl _ _).setCell hd.wq _)
  · simp only [valuesS_snoc, hn, show (nConn == nHost) = false from by decide, show (nConn == nLength) = false from by decide, show (nConn == nCoding) = false from by decide, Bool.false_eq_true, if_false, List.append_nil]
    exact hm.rc.far (p := ⟨q, 5, none⟩) hd.cq.symm _
  · have he : (valuesS (hs ++ [h]) nConn).any closesS = true := by
      rw [valuesS_snoc, hn, if_pos (by decide), List.any_append]; simp [h4]
    rw [he]
    exact hm.rq.set 5 (.bool true) (by simp)
/-- A loop over an iterator has left its mark. -/
theorem HInv.mark (hi : HInv w w5 wr g c q L m u qy l0 r rs j hs hv) {B D : Nat} (hB : ∀ x ∈ rs, x < B) (hD : B ≤ D) (h5 : w5.heap.size ≤ B) (hm : wr.heap[D]? = some (.deferred (some []))) : HInv w w5 wr g c q L m u qy l0 r (D :: rs) j hs hv :=
  ⟨hi.hj, hi.head, hi.many, hi.row, hi.rg, hi.rc, hi.rq, hi.rl, hi.bel, hi.size, List.nodup_cons.2 ⟨fun hx => by have := hB D hx; omega, hi.nd⟩, fun x hx => by
    rcases List.mem_cons.1 hx with rfl | hx
    · exact ⟨by omega, hm⟩
    · exact hi.marks x hx⟩
end
theorem HdrV.slice {w : World} {B : Nat} {v : Value} {hs : List Hdr} {d : Hdr} (h : HdrV w B v (hs ++ [d])) : ∃ g cap, v = .slice (some ⟨g, 0, none⟩) (hs.length + 1) cap := by
  unfold HdrV at h
  rw [List.length_append] at h
  rcases h.2 with ⟨hn, h2⟩ | ⟨g', cap, cur, e, _⟩
  · simp at h2
  · exact ⟨g', cap, e⟩
set_option maxRecDepth 100000 in
theorem pieces_calls (w : World) (s : List UInt8) : Calls Tryz.prog 42 #[.string ⟨s.toArray⟩] w fun e w' =>
    e = .returned (.func (.func 72) #[] #[.pointer (some ⟨w.heap.size, 0, none⟩)]) ∧ w' = w.alloc (.cells #[.string ⟨s.toArray⟩] 9) := by
  go_enter Tryz.func42, Tryz.ntmps42
  go_wp2_with fail
  exact ⟨rfl, _, by simp [results, Tryz.results42, go_sem], rfl, rfl⟩
theorem pieces_seq (n : Nat) (hn : 1 ≤ n) (Bs : Nat) (s : List UInt8) (hs : s.length ≤ 1000000000) (w0 : World) (he : Env w0) (hBs : w0.cell? ⟨Bs, 0, none⟩ = some (.string ⟨s.toArray⟩)) (hlt : Bs < w0.heap.size) :
    SeqStopsK Fence.wide n Tryz.prog 72 #[.pointer (some ⟨Bs, 0, none⟩)] (fun x : PieceT => #[.string ⟨x.1.toArray⟩]) CK (fun ys => ys = piecesT s hs) (fun pre => ∃ k, k ≤ (cut1 44 [] s).length ∧ pre = (piecesT s hs).take k) (cut1 44 [] s).length w0 :=
  fun l J Jx W hb hJa _ hY h0 => pieces1_in n hn l Bs s hs J Jx W (he.below hb) hJa hY ((hb.cell hlt).trans hBs) h0
theorem keepsOthers_of_below {W W' : World} (h : Below W.heap.size W W') : KeepsOthers W W' := KeepsOthers.of_grownBy (grown_none h) (fun j o e => by cases e)
/-- Which piece closes. -/
def closeT (x : PieceT) : Bool := smallS x.1 == nClose
theorem closes_any (s : List UInt8) (hs : s.length ≤ 1000000000) : closesS s = (piecesT s hs).any closeT := by
  unfold closesS piecesT closeT
  rw [List.any_map]
  conv => lhs; rw [← List.attach_map_subtype_val (cut1 44 [] s), List.any_map]
  rfl
theorem HMid.below {w w5 wr w' : World} {g c q L : Nat} {m u qy l0 : List UInt8} {r : List (List UInt8)} {rs : List Nat} {j : Nat} {hs : List Hdr} {h : Hdr} {hv : Value} (hm : HMid w w5 wr g c q L m u qy l0 r rs j hs h hv) (hb : Below wr.heap.size wr w') :
    HMid w w5 w' g c q L m u qy l0 r rs j hs h hv :=
  ⟨hm.hj, hm.head, hm.many, hm.row.kept (grown_none hb) (by cases hq : hv.ownBlock <;> simp), hm.rg.below hb, hm.rc.below hb, hm.rq.below hb, hm.rl.below hb, hm.bel.trans (hb.mono hm.bel.size), Nat.le_trans hm.size hb.size, hm.nd,
    fun x hx => ⟨(hm.marks x hx).1, (hb.block x (Array.getElem?_eq_some_iff.1 (hm.marks x hx).2).1).trans (hm.marks x hx).2⟩⟩
end Go.Proofs.YtgdfgppgfkkncaaGreatDoor
