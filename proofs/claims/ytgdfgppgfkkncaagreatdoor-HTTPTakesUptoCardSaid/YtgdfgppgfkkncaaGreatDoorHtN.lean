/- The walk of next: one request off what waits. Printed by gen_next.py. -/
import Derived.Test.YtgdfgppgfkkncaaGreatDoorHtF
import Derived.Shelf.Hex.More
import Derived.Lib.SlBytesConst
namespace Go.Proofs.YtgdfgppgfkkncaaGreatDoor
open Go.RowKit

/-- A request as the code holds it: its headers and its body are the call's own. -/
def ReqV (w : World) (B : Nat) (x : Value) (q : Req) : Prop :=
  ∃ hv bv, x = .agg #[.string ⟨q.method.toArray⟩, .string ⟨q.path.toArray⟩, .string ⟨q.query.toArray⟩, hv, bv, .bool q.close] ∧ HdrV w B hv q.headers ∧ BytV w B bv q.body
def Next.vals : Next → Req × Bool × Int
  | .err e => (Req.zero, false, e)
  | .more => (Req.zero, false, 0)
  | .got q _ => (q, true, 0)
def Next.rest (l : List UInt8) : Next → List UInt8
  | .got _ r => r
  | _ => l
/-- What next answers. -/
def NextOut (w : World) (C : Nat) (v : Value) (l : List UInt8) (d : Bool) (e : Ending) (w' : World) : Prop :=
  ∃ x v', e = .returned (.tuple #[x, .bool (nextS l).vals.2.1, .int .i64 (nextS l).vals.2.2]) ∧ ReqV w' w.heap.size x (nextS l).vals.1 ∧ ConnAt w' C v' ((nextS l).rest l) d ∧ Apart (fun k => k = C) w w' ∧ v'.ownBlock = v.ownBlock
theorem reqV_zero (w : World) (B : Nat) : ReqV w B (.agg #[.string ⟨#[]⟩, .string ⟨#[]⟩, .string ⟨#[]⟩, .slice none 0 0, .slice none 0 0, .bool false]) Req.zero := ⟨_, _, rfl, World.ownsRow_nil _ _ _ _, World.ownsRow_nil _ _ _ _⟩
theorem ends_ints : ([13, 10, 13, 10] : List Int) = ends.map (fun c => (c.toNat : Int)) := by decide
theorem index_ints (l : List UInt8) : Lib.index (Lib.bytesOf (l.map (fun c => (c.toNat : Int)))) (Lib.bytesOf [13, 10, 13, 10]) = Lib.index l ends := by
  rw [ends_ints, bytesOf_map, bytesOf_map]
theorem next_no {l : List UInt8} (h : Lib.index (l.take 16384) ends < 0) : nextS l = if 16384 ≤ l.length then .err 382 else .more := by
  rw [index_take] at h
  unfold nextS
  rw [if_pos]
  by_cases hc : Lib.index l ends = -1 ∨ (16384 : Int) < Lib.index l ends + 4
  · omega
  · rw [if_neg (by simpa using hc)] at h
    rcases Lib.index_spec l ends with ⟨h1, _⟩ | ⟨i, h1, _⟩
    · exact .inl h1
    · omega
theorem next_yes {l : List UInt8} {i : Nat} (h : Lib.index (l.take 16384) ends = (i : Int)) : i + 4 ≤ l.length ∧ nextS l =
    if (headS (l.take (i + 4))).2.2 ≠ 0 then .err (headS (l.take (i + 4))).2.2
    else if l.length - (i + 4) < (headS (l.take (i + 4))).2.1 then .more
    else .got { (headS (l.take (i + 4))).1 with body := (l.drop (i + 4)).take (headS (l.take (i + 4))).2.1 } (l.drop (i + 4 + (headS (l.take (i + 4))).2.1)) := by
  rw [index_take] at h
  by_cases hc : Lib.index l ends = -1 ∨ ((16384 : Nat) : Int) < Lib.index l ends + 4
  · rw [if_pos hc] at h; omega
  · rw [if_neg hc] at h
    refine ⟨index_low h, ?_⟩
    unfold nextS
    rw [if_neg (by omega), h]
    rfl
theorem cell_alloc_any (w : World) (c : Array Value) (t : TypeId) (fz : Nat × Nat) (i : Nat) : (w.alloc (.cells c t fz)).drew.cell? ⟨w.heap.size, i, none⟩ = c[i]? := by
  have h : (w.alloc (.cells c t fz)).drew.heap[w.heap.size]? = some (.cells c t fz) := by
    show (w.heap.push _)[w.heap.size]? = _
    simp
  unfold World.cell?
  rw [h]
  rfl
theorem index_wait (w : World) (he : Env w) {B : Nat} {pv : Option Addr} {cap : Nat} {l : List UInt8} (h : WaitV w B (.slice pv l.length cap) l) (mm : Nat) (hm : mm ≤ l.length) (L c2 : Nat)
    (hl : ∀ (i : Nat) v, [Value.int .u8 13, .int .u8 10, .int .u8 13, .int .u8 10][i]? = some v → w.cell? ⟨L, i, none⟩ = some v) (hlen : l.length ≤ 100000000) :
    Calls Tryz.prog 60 #[.slice pv mm cap, .slice (some ⟨L, 0, none⟩) 4 c2] w fun e w' => e = .returned (.int .i64 (Lib.index (l.take mm) ends)) ∧ Below w.heap.size w w' := by
  rcases h with ⟨h1, rfl⟩ | ⟨g, off, cap', h1, h2, h3, h4, h5, h6, _⟩
  · cases h1
    obtain rfl : mm = 0 := by simpa using hm
    refine (Tryz.bytes_Index_nil (some ⟨L, 0, none⟩) 4 c2 w (by decide) (by simp)).mono ?_
    rintro e w' ⟨rfl, rfl⟩
    exact ⟨congrArg (fun x => Ending.returned (Value.int .i64 x)) (by decide), Below.refl _ _⟩
  · cases h1
    obtain ⟨ml, hml⟩ := he.maxLen
    have h9 := Tryz.bytes_Index_at ⟨g, off, none⟩ ⟨L, 0, none⟩ mm cap 4 c2 ((l.take mm).map (fun c => (c.toNat : Int))) [13, 10, 13, 10] ml w (by simp [hm]) rfl
      (fun x hx => by obtain ⟨c, _, rfl⟩ := List.mem_map.1 hx; have := c.toNat_lt; omega) (by decide)
      (fun i hi => by rw [addr_off rfl]; rw [h6 i (by omega)]; simp [hi, List.getElem?_eq_getElem (show i < l.length by omega)])
      (fun i hi => by
        rw [addr_off rfl, Nat.zero_add]
        match i, hi with
        | 0, _ => exact hl 0 _ rfl
        | 1, _ => exact hl 1 _ rfl
        | 2, _ => exact hl 2 _ rfl
        | 3, _ => exact hl 3 _ rfl)
      (by omega) (by omega) (by decide) hml
    rw [index_ints] at h9
    refine h9.mono ?_
    rintro e w' ⟨rfl, q, rfl⟩
    exact ⟨rfl, below_drewN (Below.refl _ _) q⟩
theorem WaitV.take {w : World} {B : Nat} {pv : Option Addr} {cap : Nat} {l : List UInt8} (h : WaitV w B (.slice pv l.length cap) l) (k : Nat) (hk : k ≤ l.length) : BytS w (.slice pv k cap) (l.take k) := by
  rcases h with ⟨h1, rfl⟩ | ⟨g, off, cap', h1, h2, h3, h4, h5, h6, _⟩
  · cases h1
    obtain rfl : k = 0 := by simpa using hk
    exact .inl ⟨rfl, rfl⟩
  · cases h1
    have hl : (l.take k).length = k := by simp [hk]
    refine .inr ⟨g, off, cap, by rw [hl], by omega, by omega, h3, fun j hj => ?_⟩
    rw [hl] at hj
    rw [h6 j (by omega)]
    simp [hj]
theorem HdrV.forms {w : World} {B : Nat} {v : Value} {hs : List Hdr} (h : HdrV w B v hs) : ∃ p cap, v = .slice p hs.length cap := by
  rcases h.2 with ⟨hn, h2⟩ | ⟨g', cap, cur, e, _⟩
  · exact ⟨none, 0, by rw [hn, h2]⟩
  · exact ⟨_, cap, e⟩
theorem BytV.forms {w : World} {B : Nat} {v : Value} {l : List UInt8} (h : BytV w B v l) : ∃ p cap, v = .slice p l.length cap := by
  rcases h.2 with ⟨hn, h2⟩ | ⟨g', cap, cur, e, _⟩
  · exact ⟨none, 0, by rw [hn, h2]⟩
  · exact ⟨_, cap, e⟩
theorem Apart.tset {S : Nat → Prop} {w w' : World} (h : Apart S w w') {a : Addr} (ha : S a.block) (v : Value) : Apart S w (w'.setCell a v) := h.trans (Apart.set (S := S) w' ha v) (fun _ _ h => h)
theorem BytV.le {w : World} {B B' : Nat} {v : Value} {l : List UInt8} (h : BytV w B v l) (hb : B' ≤ B) : BytV w B' v l := Go.Joins.ownsRow_le h hb
set_option maxHeartbeats 20000000 in
set_option maxRecDepth 100000 in
theorem next_calls (w : World) (he : Env w) {C : Nat} {v : Value} {l : List UInt8} {d : Bool} (h : ConnAt w C v l d) (hlen : l.length ≤ 100000000) :
    Calls Tryz.prog 35 #[.pointer (some ⟨C, 0, none⟩)] w (NextOut w C v l d) := by
  obtain ⟨pv, cap, rfl, hcap, hp⟩ := h.wait.form
  have Hp := Lib.hid hp
  clear hp
  have hb1 : Below w.heap.size w (w.alloc (Obj.cells #[Value.string { data := #[] }, Value.string { data := #[] }, Value.string { data := #[] }, Value.slice none 0 0, Value.slice none 0 0, Value.bool false] 40)) := (Below.refl _ _).alloc (Nat.le_refl _) _
  have H0 := Lib.hid h
  have H1 := Lib.hid (h.below hb1)
  have RG1 := Lib.hid (RowAt.new w #[Value.string { data := #[] }, Value.string { data := #[] }, Value.string { data := #[] }, Value.slice none 0 0, Value.slice none 0 0, Value.bool false] 40)
  have He1 := Lib.hid (he.below hb1)
  have hbel1 := hb1
  clear hb1 he h
  obtain ⟨mm, hmm⟩ : ∃ mm, min l.length 16384 = mm := ⟨_, rfl⟩
  have hm1 : mm ≤ l.length := by omega
  have hm2 : min (l.length : Int) 16384 = (mm : Int) := by omega
  have hm3 : mm ≤ cap := by omega
  have htk : l.take mm = l.take 16384 := by
    rw [← hmm]
    by_cases h9 : l.length ≤ 16384
    · rw [Nat.min_eq_left h9, List.take_of_length_le h9, List.take_of_length_le (Nat.le_refl _)]
    · rw [Nat.min_eq_right (by omega)]
  have Htk := Lib.hid htk
  have Hmm := Lib.hid hmm
  clear htk hmm
  go_enter Tryz.func35, Tryz.ntmps35
  go_upto_region 1 with fail
  generalize w.alloc (Obj.cells #[Value.string { data := #[] }, Value.string { data := #[] }, Value.string { data := #[] }, Value.slice none 0 0, Value.slice none 0 0, Value.bool false] 40) = w1 at *
  have hS0 : (fun w' => w'.cell? ⟨C, 0, none⟩ = some (.slice pv l.length cap)) w1.drew := H1.out.row.cell 0 _ rfl
  have kc : ∀ (w : World) (C : Array Value) (n c : Nat), (convert 23 23 (.slice (some ⟨w.heap.size, 0, none⟩) n c)).run Tryz.prog (w.alloc (.cells C 5)).drew = .ok (.slice (some ⟨w.heap.size, 0, none⟩) n c) (w.alloc (.cells C 5 (C.size, C.size + 1))).drew := fun w C n c => Lib.run_convert_bytes_const (P := Tryz.prog) w.drew 23 5 C n c Tryz.underlying23 Tryz.underlying5
  refine wp_region_held_drew (S := (fun w' => w'.cell? ⟨C, 0, none⟩ = some (.slice pv l.length cap))) (by kernel_rfl) hS0 (fun hHeld0 => ?_)
  refine held_take (i := 0) (v := ?_) rfl (by kernel_rfl) (by kernel_rfl) (by kernel_rfl) (fun _ _ _ h => h) (by rfl) (fun wq hSq => ?_) hHeld0 ?_
  rotate_left
  · (try dsimp only at hSq); go_simp; try with_reducible rfl
  simp only [Act.put, List.setIfInBounds_toArray, List.set_cons_zero, List.set_cons_succ]
  refine held_take (i := 1) (v := ?_) rfl (by kernel_rfl) (by kernel_rfl) (by kernel_rfl) (fun _ _ _ h => h) (by rfl) (fun wq hSq => ?_) hHeld0 ?_
  rotate_left
  · (try dsimp only at hSq); go_simp; try with_reducible rfl
  simp only [Act.put, List.setIfInBounds_toArray, List.set_cons_zero, List.set_cons_succ]
  refine held_take (i := 2) (v := ?_) rfl (by kernel_rfl) (by kernel_rfl) (by kernel_rfl) (fun _ _ _ h => h) (by rfl) (fun wq hSq => ?_) hHeld0 ?_
  rotate_left
  · (try dsimp only at hSq); go_simp; try with_reducible rfl
  simp only [Act.put, List.setIfInBounds_toArray, List.set_cons_zero, List.set_cons_succ]
  refine held_take (i := 3) (v := ?_) rfl (by kernel_rfl) (by kernel_rfl) (by kernel_rfl) (fun _ _ _ h => h) (by rfl) (fun wq hSq => ?_) hHeld0 ?_
  rotate_left
  · (try dsimp only at hSq); go_simp; try with_reducible rfl
  simp only [Act.put, List.setIfInBounds_toArray, List.set_cons_zero, List.set_cons_succ]
  refine held_take (i := 4) (v := ?_) rfl (by kernel_rfl) (by kernel_rfl) (by kernel_rfl) (fun _ _ _ h => h) (by rfl) (fun wq hSq => ?_) hHeld0 ?_
  rotate_left
  · (try dsimp only at hSq); go_simp; try with_reducible rfl
  simp only [Act.put, List.setIfInBounds_toArray, List.set_cons_zero, List.set_cons_succ]
  refine held_take (i := 5) (v := ?_) rfl (by kernel_rfl) (by kernel_rfl) (by kernel_rfl) (fun _ _ _ h => h) (by rfl) (fun wq hSq => ?_) hHeld0 ?_
  rotate_left
  · (try dsimp only at hSq); go_simp; try with_reducible rfl
  simp only [Act.put, List.setIfInBounds_toArray, List.set_cons_zero, List.set_cons_succ]
  refine held_take (i := 6) (v := ?_) rfl (by kernel_rfl) (by kernel_rfl) (by kernel_rfl) (fun _ _ _ h => h) (by rfl) (fun wq hSq => ?_) hHeld0 ?_
  rotate_left
  · (try dsimp only at hSq); go_simp; try with_reducible rfl
  simp only [Act.put, List.setIfInBounds_toArray, List.set_cons_zero, List.set_cons_succ]
  refine held_take (i := 7) (v := ?_) rfl (by kernel_rfl) (by kernel_rfl) (by kernel_rfl) (fun _ _ _ h => h) (by rfl) (fun wq hSq => ?_) hHeld0 ?_
  rotate_left
  · (try dsimp only at hSq); go_simp; try with_reducible rfl
  simp only [Act.put, List.setIfInBounds_toArray, List.set_cons_zero, List.set_cons_succ]
  refine held_take (i := 8) (v := ?_) rfl (by kernel_rfl) (by kernel_rfl) (by kernel_rfl) (fun _ _ _ h => h) (by rfl) (fun wq hSq => ?_) hHeld0 ?_
  rotate_left
  · (try dsimp only at hSq); go_simp; try with_reducible rfl
  simp only [Act.put, List.setIfInBounds_toArray, List.set_cons_zero, List.set_cons_succ]
  refine held_take (i := 9) (v := ?_) rfl (by kernel_rfl) (by kernel_rfl) (by kernel_rfl) (fun _ _ _ h => h) (by rfl) (fun wq hSq => ?_) hHeld0 ?_
  rotate_left
  · (try dsimp only at hSq); go_simp; try with_reducible rfl
  simp only [Act.put, List.setIfInBounds_toArray, List.set_cons_zero, List.set_cons_succ]
  refine held_take (i := 10) (v := ?_) rfl (by kernel_rfl) (by kernel_rfl) (by kernel_rfl) (fun _ _ _ h => h) (by rfl) (fun wq hSq => ?_) hHeld0 ?_
  rotate_left
  · (try dsimp only at hSq); go_simp; try with_reducible rfl
  simp only [Act.put, List.setIfInBounds_toArray, List.set_cons_zero, List.set_cons_succ]
  refine held_take (i := 11) (v := ?_) rfl (by kernel_rfl) (by kernel_rfl) (by kernel_rfl) (fun _ _ _ h => h) (by rfl) (fun wq hSq => ?_) hHeld0 ?_
  rotate_left
  · (try dsimp only at hSq); go_simp; try with_reducible rfl
  simp only [Act.put, List.setIfInBounds_toArray, List.set_cons_zero, List.set_cons_succ]
  refine held_take (i := 12) (v := ?_) rfl (by kernel_rfl) (by kernel_rfl) (by kernel_rfl) (fun _ _ _ h => h) (by rfl) (fun wq hSq => ?_) hHeld0 ?_
  rotate_left
  · (try dsimp only at hSq); go_simp; try with_reducible rfl
  simp only [Act.put, List.setIfInBounds_toArray, List.set_cons_zero, List.set_cons_succ]
  refine held_step (i := 13) (by kernel_rfl) rfl (by rfl) (fun K hK => ?_)
  go_simp
  refine hK.out _ _ ((H1.out.below ((Below.refl _ _).drew.alloc (Nat.le_refl _) _)).row.cell 0 _ rfl) (fun hHeld1 => ?_)
  clear hK K hHeld0
  refine held_step (i := 14) (by kernel_rfl) rfl (by rfl) (fun K hK => ?_)
  go_simp
  have hb2 : Below w1.heap.size w1 ((w1.alloc (Obj.cells #[Value.int IntKind.u8 13, Value.int IntKind.u8 10, Value.int IntKind.u8 13, Value.int IntKind.u8 10] 5 (4, 5))).drew) := ((Below.refl _ _).alloc (Nat.le_refl _) _).drew
  have H2 := Lib.hid (H1.out.below hb2)
  have RG2 := Lib.hid (RG1.out.below hb2)
  have He2 := Lib.hid (He1.out.below hb2)
  have hbel2 := hbel1.trans (hb2.mono hbel1.size)
  have hRL : ∀ (i : Nat) v, [Value.int IntKind.u8 13, Value.int IntKind.u8 10, Value.int IntKind.u8 13, Value.int IntKind.u8 10][i]? = some v → ((w1.alloc (Obj.cells #[Value.int IntKind.u8 13, Value.int IntKind.u8 10, Value.int IntKind.u8 13, Value.int IntKind.u8 10] 5 (4, 5))).drew).cell? ⟨w1.heap.size, i, none⟩ = some v := fun i v hv => (cell_alloc_any w1 _ _ _ i).trans (by simpa using hv)
  have RL2 := Lib.hid hRL
  clear hb2 H1 RG1 He1 hRL kc
  refine hK.out _ _ (H2.out.row.cell 0 _ rfl) (fun hHeld2 => ?_)
  clear hK K hHeld1
  refine held_step (i := 15) (by kernel_rfl) rfl (by rfl) (fun K hK => ?_)
  go_simp
  generalize (w1.alloc (Obj.cells #[Value.int IntKind.u8 13, Value.int IntKind.u8 10, Value.int IntKind.u8 13, Value.int IntKind.u8 10] 5 (4, 5))).drew = w2 at *
  generalize hL2 : w1.heap.size = L2 at *
  refine (index_wait w2 He2.out H2.out.wait mm hm1 L2 4 RL2.out hlen).mono ?_
  rintro e w3 ⟨rfl, hb3⟩
  rw [Htk.out]
  have H3 := Lib.hid (H2.out.below hb3)
  have RG3 := Lib.hid (RG2.out.below hb3)
  have He3 := Lib.hid (He2.out.below hb3)
  have hbel3 := hbel2.trans (hb3.mono hbel2.size)
  clear H2 RG2 He2 hb3 RL2
  dsimp only
  refine hK.out _ _ (H3.out.row.cell 0 _ rfl) (fun hHeld3 => ?_)
  clear hK K hHeld2
  refine held_take (i := 16) (v := ?_) rfl (by kernel_rfl) (by kernel_rfl) (by kernel_rfl) (fun _ _ _ h => h) (by rfl) (fun wq hSq => ?_) hHeld3 ?_
  rotate_left
  · (try dsimp only at hSq); go_simp; try with_reducible rfl
  simp only [Act.put, List.setIfInBounds_toArray, List.set_cons_zero, List.set_cons_succ]
  refine wpAnyH_done (by kernel_rfl) ?_ _
  clear hHeld3
  clear hS0 hm2 hm3 hm1 Htk Hmm
  generalize hix : Lib.index (l.take 16384) ends = ix at *
  by_cases hneg : ix < 0
  ·
    have hno := next_no (by rw [hix]; exact hneg)
    have k0 := H3.out.row.cell 0 _ rfl
    by_cases hbig : 16384 ≤ l.length
    ·
      have HF := Lib.hid (hno.trans (if_pos hbig))
      have hb2 : (16384 : Int) ≤ l.length := by omega
      clear hno hix
      have c0 := RG3.out.cell 0 _ rfl
      have f0 := RG3.out.free 0
      have c1 := RG3.out.cell 1 _ rfl
      have f1 := RG3.out.free 1
      have c2 := RG3.out.cell 2 _ rfl
      have f2 := RG3.out.free 2
      have c3 := RG3.out.cell 3 _ rfl
      have f3 := RG3.out.free 3
      have c4 := RG3.out.cell 4 _ rfl
      have f4 := RG3.out.free 4
      have c5 := RG3.out.cell 5 _ rfl
      have f5 := RG3.out.free 5
      go_wp2_with fail
      refine bodyPost_ret (v := .tuple #[.agg #[.string ⟨#[]⟩, .string ⟨#[]⟩, .string ⟨#[]⟩, .slice none 0 0, .slice none 0 0, .bool false], .bool false, .int .i64 382]) (by simp [results, Tryz.results35, go_sem, c0, c1, c2, c3, c4, c5]) rfl ?_
      refine ⟨_, _, by rw [HF.out]; rfl, ?_, ?_, Apart.ofBelow ?_, rfl⟩
      · rw [HF.out]; exact reqV_zero _ _
      · rw [HF.out]; exact H0.out.below (by go_grown)
      · go_grown
    ·
      have HF := Lib.hid (hno.trans (if_neg hbig))
      have hb2 : ¬ (16384 : Int) ≤ l.length := by omega
      clear hno hix
      have c0 := RG3.out.cell 0 _ rfl
      have f0 := RG3.out.free 0
      have c1 := RG3.out.cell 1 _ rfl
      have f1 := RG3.out.free 1
      have c2 := RG3.out.cell 2 _ rfl
      have f2 := RG3.out.free 2
      have c3 := RG3.out.cell 3 _ rfl
      have f3 := RG3.out.free 3
      have c4 := RG3.out.cell 4 _ rfl
      have f4 := RG3.out.free 4
      have c5 := RG3.out.cell 5 _ rfl
      have f5 := RG3.out.free 5
      go_wp2_with fail
      refine bodyPost_ret (v := .tuple #[.agg #[.string ⟨#[]⟩, .string ⟨#[]⟩, .string ⟨#[]⟩, .slice none 0 0, .slice none 0 0, .bool false], .bool false, .int .i64 0]) (by simp [results, Tryz.results35, go_sem, c0, c1, c2, c3, c4, c5]) rfl ?_
      refine ⟨_, _, by rw [HF.out]; rfl, ?_, ?_, Apart.ofBelow ?_, rfl⟩
      · rw [HF.out]; exact reqV_zero _ _
      · rw [HF.out]; exact H0.out.below (by go_grown)
      · go_grown
  ·
    obtain ⟨i, rfl⟩ := Int.eq_ofNat_of_zero_le (by omega : 0 ≤ ix)
    obtain ⟨hi, hyes⟩ := next_yes hix
    have HY := Lib.hid hyes
    clear hix hyes
    have k0 := H3.out.row.cell 0 _ rfl
    have hic : i + 4 ≤ cap := by omega
    have hbs := H3.out.wait.take (i + 4) hi
    have Hbs := Lib.hid hbs
    have hneg2 : ¬ (i : Int) < 0 := by omega
    clear hbs hneg
    go_wp2_with fail
    refine (head_calls w3 He3.out _ (l.take (i + 4)) Hbs.out (by simp; omega)).mono ?_
    rintro e w4 ⟨⟨hv, hHv, rfl⟩, hb4⟩
    generalize headS (l.take (i + 4)) = hh at *
    obtain ⟨rq, n, er⟩ := hh
    simp only at hHv HY ⊢
    obtain ⟨hp, hc, rfl⟩ := hHv.forms
    have H4 := Lib.hid (H3.out.below hb4)
    have RG4 := Lib.hid (RG3.out.below hb4)
    have hbel4 := hbel3.trans (hb4.mono hbel3.size)
    have hg3 : w.heap.size < w3.heap.size := RG3.out.lt
    have HH4 := Lib.hid hHv
    clear H3 RG3 hb4 Hbs hHv He3 k0
    have hb5 : Below w4.heap.size w4 (w4.alloc (Obj.cells #[Value.string { data := rq.method.toArray }, Value.string { data := rq.path.toArray }, Value.string { data := rq.query.toArray }, Value.slice hp rq.headers.length hc, Value.slice none 0 0, Value.bool rq.close] 40)) := (Below.refl _ _).alloc (Nat.le_refl _) _
    have H5 := Lib.hid (H4.out.below hb5)
    have RG5 := Lib.hid (RG4.out.below hb5)
    have RQ5 := Lib.hid (RowAt.new w4 #[Value.string { data := rq.method.toArray }, Value.string { data := rq.path.toArray }, Value.string { data := rq.query.toArray }, Value.slice hp rq.headers.length hc, Value.slice none 0 0, Value.bool rq.close] 40)
    have hbel5 := hbel4.trans (hb5.mono hbel4.size)
    have HH5 := Lib.hid (ownsRow_apart (S := fun _ => False) HH4.out (.ofBelow hb5) (fun _ _ h => h))
    have HHlt : Hid (∀ k, (Value.slice hp rq.headers.length hc).ownBlock = some k → k < w4.heap.size) := fun k hk => (World.ownsRow.lt HH4.out k hk).2
    have hg4 : w.heap.size < w4.heap.size := RG4.out.lt
    clear H4 HH4 hb5
    go_upto_region 8 with fail
    generalize (w4.alloc (Obj.cells #[Value.string { data := rq.method.toArray }, Value.string { data := rq.path.toArray }, Value.string { data := rq.query.toArray }, Value.slice hp rq.headers.length hc, Value.slice none 0 0, Value.bool rq.close] 40)) = w5 at *
    clear RG4
    have k0 := H5.out.row.cell 0 _ rfl
    by_cases her : er = 0
    ·
      subst her
      by_cases hlt : l.length - (i + 4) < n
      ·
        have HF : Hid (nextS l = .more) := by
          show nextS l = _
          rw [HY.out, if_neg (by simp), if_pos hlt]
        have hlt2 : (l.length : Int) - (i + 4) < n := by omega
        clear HY
        have c0 := RG5.out.cell 0 _ rfl
        have f0 := RG5.out.free 0
        have c1 := RG5.out.cell 1 _ rfl
        have f1 := RG5.out.free 1
        have c2 := RG5.out.cell 2 _ rfl
        have f2 := RG5.out.free 2
        have c3 := RG5.out.cell 3 _ rfl
        have f3 := RG5.out.free 3
        have c4 := RG5.out.cell 4 _ rfl
        have f4 := RG5.out.free 4
        have c5 := RG5.out.cell 5 _ rfl
        have f5 := RG5.out.free 5
        go_wp2_with fail
        refine bodyPost_ret (v := .tuple #[.agg #[.string ⟨#[]⟩, .string ⟨#[]⟩, .string ⟨#[]⟩, .slice none 0 0, .slice none 0 0, .bool false], .bool false, .int .i64 0]) (by simp [results, Tryz.results35, go_sem, c0, c1, c2, c3, c4, c5]) rfl ?_
        refine ⟨_, _, by rw [HF.out]; rfl, ?_, ?_, Apart.ofBelow ?_, rfl⟩
        · rw [HF.out]; exact reqV_zero _ _
        · rw [HF.out]; exact H0.out.below (by go_grown)
        · go_grown
      ·
        have HF : Hid (nextS l = .got { rq with body := (l.drop (i + 4)).take n } (l.drop (i + 4 + n))) := by
          show nextS l = _
          rw [HY.out, if_neg (by simp), if_neg hlt]
        have hlt2 : ¬ (l.length : Int) - (i + 4) < n := by omega
        clear HY
        go_wp2_with fail
        refine (cutoff_calls w5 H5.out (i + 4) hi hlen).mono ?_
        rintro e w6 ⟨b6, v6, rfl, _, H6, hap6, hown6⟩
        have hCg : C < w.heap.size := H0.out.row.lt
        have hQ : w4.heap.size < w5.heap.size := RQ5.out.lt
        have RG6 := Lib.hid (RG5.out.apart hap6 (by omega))
        have RQ6 := Lib.hid (RQ5.out.apart hap6 (by omega))
        have HH6 := Lib.hid (ownsRow_apart HH5.out hap6 (fun k hk e => by have := (World.ownsRow.lt HH5.out k hk).1; omega))
        have HA6 := Lib.hid ((Apart.ofBelow (S := fun k => k = C) hbel5).trans hap6 (fun _ _ h => h))
        have hQ6 : w5.heap.size ≤ w6.heap.size := hap6.size
        have HC6 := Lib.hid H6
        have HO6 := Lib.hid hown6
        clear H6 hap6 hown6 RG5 RQ5 HH5 H5 k0
        go_wp2_with fail
        refine (cutoff_calls w6 HC6.out n (by simp; omega) (by simp; omega)).mono ?_
        rintro e w7 ⟨b7, v7, rfl, hb7, H7, hap7, hown7⟩
        obtain ⟨bd, hbd⟩ : ∃ x, (l.drop (i + 4)).take n = x := ⟨_, rfl⟩
        rw [hbd] at hb7
        rw [hbd] at HF
        obtain ⟨bp, bc, rfl⟩ := hb7.forms
        have RG7 := Lib.hid (RG6.out.apart hap7 (by omega))
        have RQ7 := Lib.hid (RQ6.out.apart hap7 (by omega))
        have HH7 := Lib.hid (ownsRow_apart HH6.out hap7 (fun k hk e => by have := (World.ownsRow.lt HH6.out k hk).1; omega))
        have HA7 := Lib.hid (HA6.out.trans hap7 (fun _ _ h => h))
        have HC7 := Lib.hid H7
        have HO7 := Lib.hid (hown7.trans HO6.out)
        have HB7 := Lib.hid hb7
        clear H7 hap7 hown7 hb7 hbd RG6 RQ6 HH6 HA6 HC6 HO6
        have c0 := RG7.out.cell 0 _ rfl
        have f0 := RG7.out.free 0
        have c1 := RG7.out.cell 1 _ rfl
        have f1 := RG7.out.free 1
        have c2 := RG7.out.cell 2 _ rfl
        have f2 := RG7.out.free 2
        have c3 := RG7.out.cell 3 _ rfl
        have f3 := RG7.out.free 3
        have c4 := RG7.out.cell 4 _ rfl
        have f4 := RG7.out.free 4
        have c5 := RG7.out.cell 5 _ rfl
        have f5 := RG7.out.free 5
        have k0 := RQ7.out.cell 0 _ rfl
        have kf0 := RQ7.out.free 0
        have k1 := RQ7.out.cell 1 _ rfl
        have kf1 := RQ7.out.free 1
        have k2 := RQ7.out.cell 2 _ rfl
        have kf2 := RQ7.out.free 2
        have k3 := RQ7.out.cell 3 _ rfl
        have kf3 := RQ7.out.free 3
        have k4 := RQ7.out.cell 4 _ rfl
        have kf4 := RQ7.out.free 4
        have k5 := RQ7.out.cell 5 _ rfl
        have kf5 := RQ7.out.free 5
        go_wp2_with fail
        refine bodyPost_ret (v := .tuple #[.agg #[.string ⟨rq.method.toArray⟩, .string ⟨rq.path.toArray⟩, .string ⟨rq.query.toArray⟩, .slice hp rq.headers.length hc, .slice bp bd.length bc, .bool rq.close], .bool true, .int .i64 0]) (by simp [results, Tryz.results35, go_sem, c0, c1, c2, c3, c4, c5]) rfl ?_
        have fin : ∀ W, Apart (fun k => k = w.heap.size ∨ k = w4.heap.size) w7 W → NextOut w C (.slice pv l.length cap) l d (.returned (.tuple #[.agg #[.string ⟨rq.method.toArray⟩, .string ⟨rq.path.toArray⟩, .string ⟨rq.query.toArray⟩, .slice hp rq.headers.length hc, .slice bp bd.length bc, .bool rq.close], .bool true, .int .i64 0])) W := by
          intro W hE
          refine ⟨_, _, by rw [HF.out]; rfl, ?_, ?_, HA7.out.trans hE (fun k hk h => by rcases h with h | h <;> omega), HO7.out⟩
          · rw [HF.out]
            refine ⟨_, _, rfl, (HdrV.le (ownsRow_apart HH7.out hE (fun k hk h => ?_)) (by omega)), (BytV.le (ownsRow_apart HB7.out hE (fun k hk h => ?_)) (by omega))⟩
            · have h1 := (World.ownsRow.lt HH7.out k hk).1
              have h2 := HHlt.out k hk
              rcases h with h | h <;> omega
            · have h1 := (World.ownsRow.lt HB7.out k hk).1
              rcases h with h | h <;> omega
          · rw [HF.out]
            refine ConnAt.apart (S := fun k => k = w.heap.size ∨ k = w4.heap.size) (l := l.drop (i + 4 + n)) (by rw [← List.drop_drop]; exact HC7.out) hE (fun k hk h => ?_)
            have h1 : k < w.heap.size := by
              rcases hk with rfl | hk
              · exact hCg
              · rw [HO7.out] at hk; exact (H0.out.wait.lt hk).2
            rcases h with h | h <;> omega
        exact fin _ (((((((Apart.refl _ w7).tset (.inr rfl) _).tset (.inl rfl) _).tset (.inl rfl) _).tset (.inl rfl) _).tset (.inl rfl) _).tset (.inl rfl) _ |>.tset (.inl rfl) _)
    ·
      have HF : Hid (nextS l = .err er) := by
        show nextS l = _
        rw [HY.out, if_pos her]
      have her2 : (er != 0) = true := by rw [bne_iff_ne]; exact her
      clear HY her
      have c0 := RG5.out.cell 0 _ rfl
      have f0 := RG5.out.free 0
      have c1 := RG5.out.cell 1 _ rfl
      have f1 := RG5.out.free 1
      have c2 := RG5.out.cell 2 _ rfl
      have f2 := RG5.out.free 2
      have c3 := RG5.out.cell 3 _ rfl
      have f3 := RG5.out.free 3
      have c4 := RG5.out.cell 4 _ rfl
      have f4 := RG5.out.free 4
      have c5 := RG5.out.cell 5 _ rfl
      have f5 := RG5.out.free 5
      go_wp2_with fail
      refine bodyPost_ret (v := .tuple #[.agg #[.string ⟨#[]⟩, .string ⟨#[]⟩, .string ⟨#[]⟩, .slice none 0 0, .slice none 0 0, .bool false], .bool false, .int .i64 er]) (by simp [results, Tryz.results35, go_sem, c0, c1, c2, c3, c4, c5]) rfl ?_
      refine ⟨_, _, by rw [HF.out]; rfl, ?_, ?_, Apart.ofBelow ?_, rfl⟩
      · rw [HF.out]; exact reqV_zero _ _
      · rw [HF.out]; exact H0.out.below (by go_grown)
      · go_grown
end Go.Proofs.YtgdfgppgfkkncaaGreatDoor
