/- Texts of this claim, joined: Jr8. -/
import Derived.Test.YtfclfaidmipjpaaGreatDoorTx02
namespace Go.Proofs.YtfclfaidmipjpaaGreatDoor
set_option maxRecDepth 100000
set_option maxHeartbeats 20000000
open Go.RowKit
def ValTo (w : World) (R : Nat) (b : List UInt8) (n d : Nat) (f : Fl) (k : Nat) (e : Ending) (w' : World) : Prop :=
 OnlyR R w w' ∧ ((valS [] k d (b.drop n) f = none ∧ ∃ m f2 r, m ≤ b.length ∧ e = .returned (jval r) ∧ JV w' (fun k => w.heap.size ≤ k) r ∧ RdAt w' R b m true f2) ∨
  ∃ (r : JR) (m : Nat) (f2 : Fl), valS [] k d (b.drop n) f = some (r.1, b.drop m, f2) ∧ m ≤ b.length ∧ n < m ∧ e = .returned (jval r) ∧ JV w' (fun k => w.heap.size ≤ k) r ∧ RdAt w' R b m false f2)
def ValAll (k : Nat) : Prop := ∀ (w : World) (R : Nat) (b : List UInt8) (n d : Nat) (f : Fl), RdAt w R b n false f → n ≤ b.length → b.length ≤ 100000000 → d + (b.length - n) < 1000000000 → 3 * (b.length - n) + 3 ≤ k →
 Calls Tryz.prog 50 #[.pointer (some ⟨R, 0, none⟩), .int .i64 (d : Int)] w (ValTo w R b n d f k)
def InTo (w : World) (R : Nat) (b : List UInt8) (n d : Nat) (obj : Bool) (f : Fl) (k : Nat) (e : Ending) (w' : World) : Prop :=
 OnlyR R w w' ∧ ((inS [] k d obj (b.drop (n + 1)) { f with deep := f.deep || decide (64 < d) } = none ∧ ∃ m f2 r, m ≤ b.length ∧ e = .returned (jval r) ∧ JV w' (fun k => w.heap.size ≤ k) r ∧ RdAt w' R b m true f2) ∨
  ∃ (r : JR) (m : Nat) (f2 : Fl), inS [] k d obj (b.drop (n + 1)) { f with deep := f.deep || decide (64 < d) } = some (r.1, b.drop m, f2) ∧ m ≤ b.length ∧ n < m ∧ e = .returned (jval r) ∧ JV w' (fun k => w.heap.size ≤ k) r ∧ RdAt w' R b m false f2)
structure InI (w wr : World) (R g5 g8 : Nat) (b : List UInt8) (obj : Bool) (m : Nat) (bad : Bool) (f : Fl) (rs : List JR) (ns : List (List UInt8)) (lv nv : Value) : Prop where
 rd : RdAt wr R b m bad f
 v : RowAt wr g5 [.int .i64 (kindI obj), .bool false, .bool false, .string ⟨#[]⟩, .int .i64 0, .string ⟨#[]⟩, lv, nv]
 res : RowAt wr g8 jz
 js : JsV wr (g8 + 1) (SepS g8 nv) lv rs
 nm : NamV wr (g8 + 1) nv ns
 on : OnlyR R w wr
 le : m ≤ b.length
 lr : rs.length ≤ b.length + 1 ∧ (bad = false → rs.length ≤ m)
 ln : ns.length ≤ b.length + 1 ∧ (bad = false → ns.length ≤ m)
theorem InI.only {w wr w' : World} {R g5 g8 : Nat} {b : List UInt8} {obj : Bool} {m : Nat} {bad : Bool} {f : Fl} {rs : List JR} {ns : List (List UInt8)} {lv nv : Value} (h : InI w wr R g5 g8 b obj m bad f rs ns lv nv) (hg : R < g5 ∧ g5 < g8) (ho : OnlyR R wr w') {m' : Nat} {bad' : Bool} {f' : Fl} (hr : RdAt w' R b m' bad' f') (hm : bad' = false → bad = false ∧ m ≤ m') (hl : m' ≤ b.length) : InI w w' R g5 g8 b obj m' bad' f' rs ns lv nv :=
 ⟨hr, h.v.apart ho (by omega), h.res.apart ho (by omega), h.js.apart ho (fun k hk e => by have := h.js.lt hk; omega) (fun k hk _ e => by have := hk.1; omega), h.nm.apart ho (fun k hk _ e => by omega), h.on.trans ho, hl, ⟨h.lr.1, fun e => Nat.le_trans (h.lr.2 (hm e).1) (hm e).2⟩, ⟨h.ln.1, fun e => Nat.le_trans (h.ln.2 (hm e).1) (hm e).2⟩⟩
theorem InI.below {w wr w' : World} {R g5 g8 : Nat} {b : List UInt8} {obj : Bool} {m : Nat} {bad : Bool} {f : Fl} {rs : List JR} {ns : List (List UInt8)} {lv nv : Value} (h : InI w wr R g5 g8 b obj m bad f rs ns lv nv) (hb : Below wr.heap.size wr w') : InI w w' R g5 g8 b obj m bad f rs ns lv nv :=
 ⟨h.rd.below hb, h.v.below hb, h.res.below hb, h.js.below hb, h.nm.below hb, h.on.trans (.ofBelow hb), h.le, h.lr, h.ln⟩
--STORE
theorem contains_snoc (l : List (List UInt8)) (x u : List UInt8) : (l ++ [x]).contains u = (l.contains u || (x == u)) := by
 rw [Bool.eq_iff_iff]
 simp only [List.contains_iff_mem, List.mem_append, List.mem_singleton, Bool.or_eq_true, beq_iff_eq]
 exact ⟨fun h => h.imp id Eq.symm, fun h => h.imp id Eq.symm⟩
def LoopS (k d : Nat) (obj : Bool) (b : List UInt8) (n1 : Nat) (ff : Fl) (j m2 : Nat) (bad : Bool) (f2 : Fl) (rs : List JR) (ns : List (List UInt8)) : Prop :=
 (bad = true ∧ inS [] k d obj (b.drop n1) ff = none) ∨ (bad = false ∧ inS [] k d obj (b.drop n1) ff = itemS [] j d obj (rs.map (·.1)) ns (b.drop m2) f2 ∧ 3 * (b.length - m2) + 4 ≤ j ∧ j < k ∧ n1 ≤ m2)
def MemTo (w wc : World) (R g5 g8 : Nat) (b : List UInt8) (obj : Bool) (m2 : Nat) (f2 : Fl) (rs : List JR) (ns : List (List UInt8)) (lv : Value) : Prop :=
 ∃ (m3 : Nat) (bad3 : Bool) (f3 : Fl) (ns3 : List (List UInt8)) (nv3 : Value), InI w wc R g5 g8 b obj m3 bad3 f3 rs ns3 lv nv3 ∧ ((bad3 = true ∧ memS [] obj ns (b.drop m2) f2 = none) ∨ (bad3 = false ∧ memS [] obj ns (b.drop m2) f2 = some (ns3, b.drop m3, f3) ∧ m2 ≤ m3))
theorem item_nil (z : List UInt8) : ∀ (k d : Nat) (obj : Bool) (ls : List J) (ns : List (List UInt8)) (f : Fl), itemS z k d obj ls ns [] f = none
 | 0, d, obj, ls, ns, f => rfl
 | k + 1, d, obj, ls, ns, f => by
  rw [itemS_succ]
  cases obj with
  | true => rfl
  | false =>
   have e : valS z k d [] f = none := by cases k <;> rfl
   show moreS z k d false ls ns (valS z k d [] f) = none
   rw [e]; rfl
theorem InI.ret {w wr : World} {R g5 g8 : Nat} {b : List UInt8} {obj : Bool} {m : Nat} {bad : Bool} {f : Fl} {rs : List JR} {ns : List (List UInt8)} {lv nv : Value} (h : InI w wr R g5 g8 b obj m bad f rs ns lv nv) (hg : R < g5 ∧ g5 < g8) (hw : w.heap.size ≤ g8) (x0 x1 x2 x3 x4 x5 x6 x7 : Value) :
  OnlyR R w (set8 wr g8 x0 x1 x2 x3 x4 x5 x6 x7) ∧ RdAt (set8 wr g8 x0 x1 x2 x3 x4 x5 x6 x7) R b m bad f ∧ JV (set8 wr g8 x0 x1 x2 x3 x4 x5 x6 x7) (fun k => w.heap.size ≤ k) (listJ obj (rs.map (·.1)) ns, lv, nv) := by
 have ha := set8_apart wr g8 x0 x1 x2 x3 x4 x5 x6 x7
 refine ⟨h.on.trans' ha (fun i hi e => by omega), h.rd.apart ha (by omega), ?_⟩
 exact ((JV.ofRows (kindI obj) (fun k hk => hk.1) h.js h.nm).apart ha (fun k hk _ e => by omega)).mono (fun k _ hk => by omega)
theorem InI.name {w wr w8 : World} {R g5 g8 : Nat} {b : List UInt8} {obj : Bool} {m : Nat} {bad : Bool} {f : Fl} {rs : List JR} {ns : List (List UInt8)} {lv nv nv2 : Value} (h : InI w wr R g5 g8 b obj m bad f rs ns lv nv) (hg : R < g5 ∧ g5 < g8) (hw : w.heap.size = g5) (u : List UInt8) (o : Obj)
  (hnv : NamV w8 (g8 + 1) nv2 (ns ++ [u])) (hgr : (wr.alloc o).grownBy w8 nv.ownBlock) (hfr : ∀ k, nv2.ownBlock = some k → nv.ownBlock = some k ∨ wr.heap.size ≤ k) (hln : ns.length ≤ b.length) (hm : bad = false → ns.length + 1 ≤ m) :
  InI w (w8.setCell ⟨g5, 7, none⟩ nv2) R g5 g8 b obj m bad f rs (ns ++ [u]) lv nv2 := by
 have ha : Apart (fun k => nv.ownBlock = some k) wr w8 := (Apart.ofBelow (S := fun k => nv.ownBlock = some k) ((Below.refl _ _).alloc (Nat.le_refl _) o)).trans (Apart.ofGrown hgr (fun k hk => hk)) (fun _ _ h => h)
 have hs : Apart (fun k => k = g5) w8 (w8.setCell ⟨g5, 7, none⟩ nv2) := Apart.set (S := fun k => k = g5) w8 rfl _
 have hlt : ∀ k, nv.ownBlock = some k → g8 + 1 ≤ k := fun k hk => (World.ownsRow.lt h.nm k hk).1
 have hj : JsV w8 (g8 + 1) (SepS g8 nv2) lv rs := by
  have h1 : JsV wr (g8 + 1) (fun k => SepS g8 nv k ∧ k < wr.heap.size) lv rs := h.js.mono (fun k hk hs => ⟨hs, hk⟩)
  refine (h1.apart ha (fun k hk e => ownsRow_ne h.js.row h.nm (by decide) k hk e) (fun k hk _ e => hk.1.2 e)).mono (fun k _ hk => ⟨hk.1.1, fun e => ?_⟩)
  rcases hfr k e with h9 | h9
  ·exact hk.1.2 h9
  ·have := hk.2; omega
 refine ⟨?_, ?_, ?_, hj.apart hs (fun k hk e => by have := hj.lt hk; omega) (fun k hk _ e => by have := hk.1; omega), hnv.apart hs (fun k hk _ e => by omega), (h.on.trans' ha (fun i hi e => by have := hlt i e; omega)).trans' hs (fun i hi e => by omega), h.le, ⟨h.lr.1, h.lr.2⟩, ⟨by rw [List.length_append, List.length_singleton]; omega, fun e => by rw [List.length_append, List.length_singleton]; exact hm e⟩⟩
 ·exact (h.rd.apart ha (fun e => by have := hlt _ e; omega)).far (p := ⟨g5, 7, none⟩) (by show g5 ≠ R; omega) _
 ·exact (h.v.apart ha (fun e => by have := hlt _ e; omega)).set 7 _ (by simp)
 ·exact (h.res.apart ha (fun e => by have := hlt _ e; omega)).far (p := ⟨g5, 7, none⟩) (by show g5 ≠ g8; omega) _
theorem InI.value {w wr w8 : World} {R g5 g8 : Nat} {b : List UInt8} {obj : Bool} {m : Nat} {bad : Bool} {f : Fl} {rs : List JR} {ns : List (List UInt8)} {lv nv lv2 : Value} (h : InI w wr R g5 g8 b obj m bad f rs ns lv nv) (hg : R < g5 ∧ g5 < g8) (hw : w.heap.size = g5) (r : JR)
  (hjv : JsV w8 (g8 + 1) (SepS g8 nv) lv2 (rs ++ [r])) (hgr : wr.grownBy w8 lv.ownBlock) (hln : rs.length ≤ b.length) (hm : bad = false → rs.length + 1 ≤ m) :
  InI w (w8.setCell ⟨g5, 6, none⟩ lv2) R g5 g8 b obj m bad f (rs ++ [r]) ns lv2 nv := by
 have ha : Apart (fun k => lv.ownBlock = some k) wr w8 := Apart.ofGrown hgr (fun k hk => hk)
 have hs : Apart (fun k => k = g5) w8 (w8.setCell ⟨g5, 6, none⟩ lv2) := Apart.set (S := fun k => k = g5) w8 rfl _
 have hlt : ∀ k, lv.ownBlock = some k → g8 + 1 ≤ k := fun k hk => (h.js.lt hk).1
 have hn : NamV w8 (g8 + 1) nv ns := ownsRow_apart h.nm ha (fun k hk e => ownsRow_ne h.nm h.js.row (by decide) k hk e)
 refine ⟨?_, ?_, ?_, hjv.apart hs (fun k hk e => by have := hjv.lt hk; omega) (fun k hk _ e => by have := hk.1; omega), hn.apart hs (fun k hk _ e => by omega), (h.on.trans' ha (fun i hi e => by have := hlt i e; omega)).trans' hs (fun i hi e => by omega), h.le, ⟨by rw [List.length_append, List.length_singleton]; omega, fun e => by rw [List.length_append, List.length_singleton]; exact hm e⟩, h.ln⟩
 ·exact (h.rd.apart ha (fun e => by have := hlt _ e; omega)).far (p := ⟨g5, 6, none⟩) (by show g5 ≠ R; omega) _
 ·exact (h.v.apart ha (fun e => by have := hlt _ e; omega)).set 6 _ (by simp)
 ·exact (h.res.apart ha (fun e => by have := hlt _ e; omega)).far (p := ⟨g5, 6, none⟩) (by show g5 ≠ g8; omega) _
def ValIn (w wc : World) (R g5 g8 : Nat) (b : List UInt8) (obj : Bool) (j0 d m3 : Nat) (f3 : Fl) (rs : List JR) (ns : List (List UInt8)) (nv : Value) : Prop :=
 ∃ (r : JR) (m4 : Nat) (bq : Bool) (fq : Fl) (lv2 : Value), InI w wc R g5 g8 b obj m4 bq fq (rs ++ [r]) ns lv2 nv ∧ ((bq = true ∧ valS [] j0 d (b.drop m3) f3 = none) ∨ (bq = false ∧ m3 < m4 ∧ valS [] j0 d (b.drop m3) f3 = some (r.1, b.drop m4, fq)))
theorem in_calls (k : Nat) (HV : ∀ j, j < k → ValAll j) (w : World) {R : Nat} {b : List UInt8} {n d : Nat} {f : Fl} (obj : Bool) (h : RdAt w R b n false f) (hn : n < b.length) (hl : b.length ≤ 100000000) (hd : d + (b.length - n) ≤ 1000000000) (hk : 3 * (b.length - n) + 2 ≤ k) :
  Calls Tryz.prog 87 #[.pointer (some ⟨R, 0, none⟩), .agg #[.int .i64 (kindI obj), .bool false, .bool false, .string ⟨#[]⟩, .int .i64 0, .string ⟨#[]⟩, .slice none 0 0, .slice none 0 0], .string ⟨[endB obj].toArray⟩, .int .i64 (d : Int)] w (InTo w R b n d obj f k) := by
 have c1 := h.cell 1 _ rfl
 have f1 := h.free 1
 have hRw : R < w.heap.size := h.lt
 have H := Lib.hid h
 have HVV := Lib.hid HV
 have Hk := Lib.hid hk
 clear h HV hk
 go_enter Tryz.func87, Tryz.ntmps87
 go_upto_region 1 with fail
 have hb1 : Below w.heap.size w ((w.alloc (Obj.cells #[Value.int IntKind.i64 (kindI obj), Value.bool false, Value.bool false, Value.string { data := #[] }, Value.int IntKind.i64 0, Value.string { data := #[] }, Value.slice none 0 0, Value.slice none 0 0] 30)).alloc (Obj.cells #[Value.int IntKind.i64 0, Value.bool false, Value.bool false, Value.string { data := #[] }, Value.int IntKind.i64 0, Value.string { data := #[] }, Value.slice none 0 0, Value.slice none 0 0] 30)) := ((Below.refl _ _).alloc (Nat.le_refl _) _).alloc (by simp) _
 have hv0 := (RowAt.new w #[Value.int IntKind.i64 (kindI obj), Value.bool false, Value.bool false, Value.string { data := #[] }, Value.int IntKind.i64 0, Value.string { data := #[] }, Value.slice none 0 0, Value.slice none 0 0] 30).alloc (Obj.cells #[Value.int IntKind.i64 0, Value.bool false, Value.bool false, Value.string { data := #[] }, Value.int IntKind.i64 0, Value.string { data := #[] }, Value.slice none 0 0, Value.slice none 0 0] 30)
 have hz0 := RowAt.new (w.alloc (Obj.cells #[Value.int IntKind.i64 (kindI obj), Value.bool false, Value.bool false, Value.string { data := #[] }, Value.int IntKind.i64 0, Value.string { data := #[] }, Value.slice none 0 0, Value.slice none 0 0] 30)) #[Value.int IntKind.i64 0, Value.bool false, Value.bool false, Value.string { data := #[] }, Value.int IntKind.i64 0, Value.string { data := #[] }, Value.slice none 0 0, Value.slice none 0 0] 30
 rw [World.size_alloc] at hz0
 have HI0 : Hid (InI w ((w.alloc (Obj.cells #[Value.int IntKind.i64 (kindI obj), Value.bool false, Value.bool false, Value.string { data := #[] }, Value.int IntKind.i64 0, Value.string { data := #[] }, Value.slice none 0 0, Value.slice none 0 0] 30)).alloc (Obj.cells #[Value.int IntKind.i64 0, Value.bool false, Value.bool false, Value.string { data := #[] }, Value.int IntKind.i64 0, Value.string { data := #[] }, Value.slice none 0 0, Value.slice none 0 0] 30)) R w.heap.size (w.heap.size + 1) b obj n false f [] [] (.slice none 0 0) (.slice none 0 0)) := Lib.hid ⟨H.out.below hb1, hv0, hz0, JsV.nil _ _ _, NamV.nil _ _, OnlyR.ofBelow hb1, by omega, ⟨Nat.zero_le _, fun _ => Nat.zero_le _⟩, ⟨Nat.zero_le _, fun _ => Nat.zero_le _⟩⟩
 obtain ⟨g8, hg8⟩ : ∃ g, w.heap.size + 1 = g := ⟨_, rfl⟩
 obtain ⟨g5, hg5⟩ : ∃ g, w.heap.size = g := ⟨_, rfl⟩
 rw [hg8] at HI0 ⊢
 rw [hg5] at HI0 ⊢
 have HG : Hid (R < g5 ∧ g5 < g8) := Lib.hid ⟨by omega, by omega⟩
 have HGW : Hid (w.heap.size ≤ g8) := Lib.hid (by omega)
 have HW5 : Hid (w.heap.size = g5) := Lib.hid hg5
 generalize ((w.alloc (Obj.cells #[Value.int IntKind.i64 (kindI obj), Value.bool false, Value.bool false, Value.string { data := #[] }, Value.int IntKind.i64 0, Value.string { data := #[] }, Value.slice none 0 0, Value.slice none 0 0] 30)).alloc (Obj.cells #[Value.int IntKind.i64 0, Value.bool false, Value.bool false, Value.string { data := #[] }, Value.int IntKind.i64 0, Value.string { data := #[] }, Value.slice none 0 0, Value.slice none 0 0] 30)) = w2 at *
 clear hb1 hv0 hz0 hg8 hg5 c1 f1 H hRw
 obtain ⟨ff, hff⟩ : ∃ g : Fl, { f with deep := f.deep || decide (64 < d) } = g := ⟨_, rfl⟩
 obtain ⟨n1, hn1⟩ : ∃ q, n + 1 = q := ⟨_, rfl⟩
 have HN1 := Lib.hid hn1
 have HFF := Lib.hid hff
 have hn1l : n1 ≤ b.length := by omega
 clear hff hn1
 have c1 := HI0.out.rd.cell 1 _ rfl
 have f1 := HI0.out.rd.free 1
 have hgo := HI0.out.rd.go n1
 have hset := (OnlyR.refl R w2).set 1 (.int .i64 (n1 : Int))
 have e1 : (n : Int) + 1 = (n1 : Int) := by have := HN1.out; omega
 rw [← e1] at hgo hset
 have HIa : Hid (InI w (w2.setCell ⟨R, 1, none⟩ (.int .i64 ((n : Int) + 1))) R g5 g8 b obj n1 false f [] [] (.slice none 0 0) (.slice none 0 0)) := Lib.hid (HI0.out.only HG.out hset hgo (fun _ => ⟨rfl, by have := HN1.out; omega⟩) hn1l)
 clear hgo hset e1
 go_upto_region 2 with fail
 generalize (w2.setCell ⟨R, 1, none⟩ (.int .i64 ((n : Int) + 1))) = w3 at *
 clear c1 f1 HI0
 go_upto_if 19 with fail
 go_cut [] from 20 to 22 (fun wc => InI w wc R g5 g8 b obj n1 false ff [] [] (.slice none 0 0) (.slice none 0 0))
 case first =>
  have c3 := HIa.out.rd.cell 3 _ rfl
  have f3 := HIa.out.rd.free 3
  by_cases h64 : 64 < d
  ·
   have hi64 : (64 : Int) < (d : Int) := by omega
   go_wp2_with fail
   go_meet
   refine HIa.out.only HG.out ((OnlyR.refl R _).set 3 _) ?_ (fun _ => ⟨rfl, Nat.le_refl _⟩) hn1l
   rw [← HFF.out, decide_eq_true h64, Bool.or_true]
   exact RowAt.set HIa.out.rd 3 _ (by simp)
  ·
   have hi64 : ¬ (64 : Int) < (d : Int) := by omega
   go_wp2_with fail
   go_meet
   have h9 := HIa.out
   rw [← HFF.out, decide_eq_false h64, Bool.or_false]
   exact h9
 case rest =>
  have HI1 := Lib.hid hcut
  clear hcut HIa
  go_wp2_with fail
  refine (blanks_calls wc HI1.out.rd hn1l (by omega)).mono ?_
  rintro e w4 ⟨m, rfl, hnm, hm, hsk, hr4, ho4⟩
  have HI2 := Lib.hid (HI1.out.only HG.out ho4 hr4 (fun _ => ⟨rfl, hnm⟩) hm)
  have HSK := Lib.hid hsk
  have HNM : Hid (n1 ≤ m) := Lib.hid hnm
  clear hr4 ho4 HI1 hsk
  go_wp2_with fail
  refine (takeR_calls w4 HI2.out.rd hm (by omega) [endB obj] (by simp)).mono ?_
  rintro e w5 ⟨rfl, hr5, ho5⟩
  obtain ⟨k1, hk1⟩ : ∃ k1, k = k1 + 1 := ⟨k - 1, by have := Hk.out; omega⟩
  cases ht : takeB b m [endB obj] with
  | true =>
   have hml : m < b.length := by
    rcases takeB_len ht with h9 | h9
    ·simp only [List.length_cons, List.length_nil] at h9; omega
    ·cases h9
   have HF : Hid (inS [] k d obj (b.drop n1) ff = some (listJ obj [] [], b.drop (m + 1), ff)) := by
    refine Lib.hid ?_
    rw [takeB_one _ hml, beq_iff_eq] at ht
    rw [hk1, inS, HSK.out, drop_at hml, ht]
    simp
   rw [ht] at hr5
   have HI3 : Hid (InI w w5 R g5 g8 b obj (m + 1) false ff [] [] (.slice none 0 0) (.slice none 0 0)) := Lib.hid (HI2.out.only HG.out ho5 hr5 (fun _ => ⟨rfl, Nat.le_succ m⟩) hml)
   clear hr5 ho5 ht hk1
   have v0 := HI3.out.v.cell 0 _ rfl
   have v1 := HI3.out.v.cell 1 _ rfl
   have v2 := HI3.out.v.cell 2 _ rfl
   have v3 := HI3.out.v.cell 3 _ rfl
   have v4 := HI3.out.v.cell 4 _ rfl
   have v5 := HI3.out.v.cell 5 _ rfl
   have v6 := HI3.out.v.cell 6 _ rfl
   have v7 := HI3.out.v.cell 7 _ rfl
   have r0 := HI3.out.res.cell 0 _ rfl
   have q0 := HI3.out.res.free 0
   have r1 := HI3.out.res.cell 1 _ rfl
   have q1 := HI3.out.res.free 1
   have r2 := HI3.out.res.cell 2 _ rfl
   have q2 := HI3.out.res.free 2
   have r3 := HI3.out.res.cell 3 _ rfl
   have q3 := HI3.out.res.free 3
   have r4 := HI3.out.res.cell 4 _ rfl
   have q4 := HI3.out.res.free 4
   have r5 := HI3.out.res.cell 5 _ rfl
   have q5 := HI3.out.res.free 5
   have r6 := HI3.out.res.cell 6 _ rfl
   have q6 := HI3.out.res.free 6
   have r7 := HI3.out.res.cell 7 _ rfl
   have q7 := HI3.out.res.free 7
   go_wp2_with fail
   obtain ⟨ho, hr, hj⟩ := HI3.out.ret HG.out HGW.out (.int .i64 (kindI obj)) (.bool false) (.bool false) (.string ⟨#[]⟩) (.int .i64 0) (.string ⟨#[]⟩) (.slice none 0 0) (.slice none 0 0)
   have hrow := set8_row HI3.out.res rfl (.int .i64 (kindI obj)) (.bool false) (.bool false) (.string ⟨#[]⟩) (.int .i64 0) (.string ⟨#[]⟩) (.slice none 0 0) (.slice none 0 0)
   have z0 := hrow.cell 0 _ rfl
   have z1 := hrow.cell 1 _ rfl
   have z2 := hrow.cell 2 _ rfl
   have z3 := hrow.cell 3 _ rfl
   have z4 := hrow.cell 4 _ rfl
   have z5 := hrow.cell 5 _ rfl
   have z6 := hrow.cell 6 _ rfl
   have z7 := hrow.cell 7 _ rfl
   change bodyPost _ _ _ _ _ (set8 w5 g8 (.int .i64 (kindI obj)) (.bool false) (.bool false) (.string ⟨#[]⟩) (.int .i64 0) (.string ⟨#[]⟩) (.slice none 0 0) (.slice none 0 0))
   generalize set8 w5 g8 (.int .i64 (kindI obj)) (.bool false) (.bool false) (.string ⟨#[]⟩) (.int .i64 0) (.string ⟨#[]⟩) (.slice none 0 0) (.slice none 0 0) = W8 at *
   refine bodyPost_ret (v := jval (listJ obj (([] : List JR).map (·.1)) ([] : List (List UInt8)), (.slice none 0 0), (.slice none 0 0))) (by simp [results, Tryz.results87, go_sem, z0, z1, z2, z3, z4, z5, z6, z7]; cases obj <;> rfl) rfl ?_
   exact ⟨ho, .inr ⟨(listJ obj [] [], _, _), m + 1, ff, by rw [HN1.out, HFF.out]; exact HF.out, hml, by have := HN1.out; have := HNM.out; omega, rfl, hj, hr⟩⟩
  | false =>
   rw [ht] at hr5
   have HU : Hid (inS [] k d obj (b.drop n1) ff = itemS [] k1 d obj [] [] (b.drop m) ff) := by
    refine Lib.hid ?_
    rw [hk1, inS, HSK.out]
    rcases Nat.lt_or_ge m b.length with h9 | h9
    ·rw [takeB_one _ h9, beq_eq_false_iff_ne] at ht
     rw [drop_at h9]
     simp only
     rw [if_neg ht]
    ·rw [List.drop_of_length_le h9, item_nil]
   have HI3 : Hid (InI w w5 R g5 g8 b obj m false ff [] [] (.slice none 0 0) (.slice none 0 0)) := Lib.hid (HI2.out.only HG.out ho5 hr5 (fun _ => ⟨rfl, Nat.le_refl m⟩) hm)
   have HK1 : Hid (3 * (b.length - m) + 4 ≤ k1 ∧ k1 < k) := Lib.hid (by have := Hk.out; have := HN1.out; have := HNM.out; omega)
   clear hr5 ho5 ht hk1 HI2 HSK
   go_wp2_with fail
   go_loopg [] (b.length - m + 1) (fun kk wr => ∃ (j m2 : Nat) (bad : Bool) (f2 : Fl) (rs : List JR) (ns : List (List UInt8)) (lv nv : Value), kk = (if bad then 0 else b.length - m2 + 1) ∧ InI w wr R g5 g8 b obj m2 bad f2 rs ns lv nv ∧ LoopS k d obj b n1 ff j m2 bad f2 rs ns)
   case atStart => exact ⟨k1, m, false, ff, [], [], _, _, rfl, HI3.out, .inr ⟨rfl, HU.out, HK1.out.1, HK1.out.2, HNM.out⟩⟩
   case round =>
    obtain ⟨j, m2, bad, f2, rs, ns, lv, nv, hkk, hI, hL⟩ := hrel
    have Hkk := Lib.hid hkk
    have HI := Lib.hid hI
    obtain ⟨pl, cl, rfl⟩ := hI.js.forms
    obtain ⟨pn, cn, rfl⟩ := hI.nm.forms
    clear hkk hI HI3 HU HK1
    have c2 := HI.out.rd.cell 2 _ rfl
    have hm2 : m2 ≤ b.length := HI.out.le
    rcases hL with ⟨rfl, hno⟩ | ⟨rfl, hu, hj1, hj2, hnm2⟩
    ·
     have HNO := Lib.hid hno
     clear hno
     have v0 := HI.out.v.cell 0 _ rfl
     have v1 := HI.out.v.cell 1 _ rfl
     have v2 := HI.out.v.cell 2 _ rfl
     have v3 := HI.out.v.cell 3 _ rfl
     have v4 := HI.out.v.cell 4 _ rfl
     have v5 := HI.out.v.cell 5 _ rfl
     have v6 := HI.out.v.cell 6 _ rfl
     have v7 := HI.out.v.cell 7 _ rfl
     have r0 := HI.out.res.cell 0 _ rfl
     have q0 := HI.out.res.free 0
     have r1 := HI.out.res.cell 1 _ rfl
     have q1 := HI.out.res.free 1
     have r2 := HI.out.res.cell 2 _ rfl
     have q2 := HI.out.res.free 2
     have r3 := HI.out.res.cell 3 _ rfl
     have q3 := HI.out.res.free 3
     have r4 := HI.out.res.cell 4 _ rfl
     have q4 := HI.out.res.free 4
     have r5 := HI.out.res.cell 5 _ rfl
     have q5 := HI.out.res.free 5
     have r6 := HI.out.res.cell 6 _ rfl
     have q6 := HI.out.res.free 6
     have r7 := HI.out.res.cell 7 _ rfl
     have q7 := HI.out.res.free 7
     go_wp2_with fail
     obtain ⟨ho, hr, hj⟩ := HI.out.ret HG.out HGW.out (.int .i64 (kindI obj)) (.bool false) (.bool false) (.string ⟨#[]⟩) (.int .i64 0) (.string ⟨#[]⟩) (.slice pl rs.length cl) (.slice pn ns.length cn)
     have hrow := set8_row HI.out.res rfl (.int .i64 (kindI obj)) (.bool false) (.bool false) (.string ⟨#[]⟩) (.int .i64 0) (.string ⟨#[]⟩) (.slice pl rs.length cl) (.slice pn ns.length cn)
     have z0 := hrow.cell 0 _ rfl
     have z1 := hrow.cell 1 _ rfl
     have z2 := hrow.cell 2 _ rfl
     have z3 := hrow.cell 3 _ rfl
     have z4 := hrow.cell 4 _ rfl
     have z5 := hrow.cell 5 _ rfl
     have z6 := hrow.cell 6 _ rfl
     have z7 := hrow.cell 7 _ rfl
     change bodyPost _ _ _ _ _ (set8 wr g8 (.int .i64 (kindI obj)) (.bool false) (.bool false) (.string ⟨#[]⟩) (.int .i64 0) (.string ⟨#[]⟩) (.slice pl rs.length cl) (.slice pn ns.length cn))
     generalize set8 wr g8 (.int .i64 (kindI obj)) (.bool false) (.bool false) (.string ⟨#[]⟩) (.int .i64 0) (.string ⟨#[]⟩) (.slice pl rs.length cl) (.slice pn ns.length cn) = W8 at *
     refine bodyPost_ret (v := jval (listJ obj (rs.map (·.1)) ns, (.slice pl rs.length cl), (.slice pn ns.length cn))) (by simp [results, Tryz.results87, go_sem, z0, z1, z2, z3, z4, z5, z6, z7]; cases obj <;> rfl) rfl ?_
     exact ⟨ho, .inl ⟨by rw [HN1.out, HFF.out]; exact HNO.out, m2, f2, _, hm2, rfl, hj, hr⟩⟩
    ·
     obtain ⟨j0, rfl⟩ : ∃ j0, j = j0 + 1 := ⟨j - 1, by omega⟩
     rw [itemS_succ] at hu
     have HU := Lib.hid hu
     have HJ : Hid (3 * (b.length - m2) + 4 ≤ j0 + 1 ∧ j0 + 1 < k) := Lib.hid ⟨hj1, hj2⟩
     have HNM2 := Lib.hid hnm2
     have v0 := HI.out.v.cell 0 _ rfl
     clear hu hj1 hj2 hnm2
     go_upto_if 36 with fail
     go_cut [9, 10] from 37 to 83 (fun s9 s10 wc => MemTo w wc R g5 g8 b obj m2 f2 rs ns (.slice pl rs.length cl))
     case first =>
      cases obj with
      | false =>
       go_wp2_with fail
       go_meet
       exact ⟨m2, false, f2, ns, _, HI.out, .inr ⟨rfl, rfl, Nat.le_refl _⟩⟩
      | true =>
       go_wp2_with fail
       refine (blanks_calls wr HI.out.rd hm2 (by omega)).mono ?_
       rintro e w6 ⟨m3, rfl, hnm3, hm3, hsk3, hr6, ho6⟩
       have HI6 := Lib.hid (HI.out.only HG.out ho6 hr6 (fun _ => ⟨rfl, hnm3⟩) hm3)
       have HSK3 := Lib.hid hsk3
       clear hr6 ho6 hsk3 v0 c2
       go_wp2_with fail
       refine (quotedR_calls w6 HI6.out.rd hm3 (by omega)).mono ?_
       rintro e w7 ⟨ho7, hq7⟩
       have hname : ∃ (u : List UInt8) (m4 : Nat) (bq : Bool) (fq : Fl), e = .returned (.string ⟨u.toArray⟩) ∧ m4 ≤ b.length ∧ RdAt w7 R b m4 bq fq ∧ ((bq = true ∧ qS [] (b.drop m3) = none) ∨ (bq = false ∧ m3 < m4 ∧ ∃ a, qS [] (b.drop m3) = some (u, b.drop m4, a) ∧ fq = { f2 with alone := f2.alone || a })) := by
        rcases hq7 with ⟨h1, m4, u, fq, h2, h3, h4⟩ | ⟨u, m4, a, h1, h2, h3, _, h4, h5⟩
        ·exact ⟨u, m4, true, fq, h3, h2, h4, .inl ⟨rfl, h1⟩⟩
        ·exact ⟨u, m4, false, _, h4, h2, h5, .inr ⟨rfl, h3, a, h1, rfl⟩⟩
       clear hq7
       obtain ⟨u, m4, bq, fq, rfl, hm4, hr7, hq⟩ := hname
       have HQ := Lib.hid hq
       have hmq : bq = false → (false : Bool) = false ∧ m3 ≤ m4 := fun e => by
        rcases hq with ⟨h9, _⟩ | ⟨_, h9, _⟩
        ·rw [h9] at e; cases e
        ·exact ⟨rfl, by omega⟩
       have HMQ := Lib.hid hmq
       have HI7 := Lib.hid (HI6.out.only HG.out ho7 hr7 hmq hm4)
       clear hq hmq ho7 hr7
       go_wp2_with fail
       have hnl : ns.length ≤ b.length + 1 := HI7.out.ln.1
       go_loopg [10] ns.length (fun kk s10 wr => ∃ i : Nat, kk = ns.length - i ∧ i ≤ ns.length ∧ s10 = .int .i64 (i : Int) ∧ InI w wr R g5 g8 b true m4 bq { fq with twice := fq.twice || (ns.take i).contains u } rs ns (.slice pl rs.length cl) (.slice pn ns.length cn))
       case atStart => exact ⟨0, rfl, Nat.zero_le _, rfl, by have h9 := HI7.out; simp only [List.take_zero, List.contains_nil, Bool.or_false]; exact h9⟩
       case round =>
        obtain ⟨i, hki, hi, rfl, hIi⟩ := hrel
        have Hki := Lib.hid hki
        have HIi := Lib.hid hIi
        have v7 := hIi.v.cell 7 _ rfl
        have c5 := hIi.rd.cell 5 _ rfl
        have f5 := hIi.rd.free 5
        clear hki hIi
        by_cases hlt : i < ns.length
        ·
         have hlt2 : (i : Int) < ns.length := by omega
         obtain ⟨gn, rfl⟩ : ∃ gn, pn = some ⟨gn, 0, none⟩ := by
          rcases HIi.out.nm.2 with ⟨_, h2⟩ | ⟨g9, c9, cu9, h9, _⟩
          ·omega
          ·simp only [Value.slice.injEq] at h9; exact ⟨g9, h9.1⟩
         have hni := World.ownsRow.cellAt HIi.out.nm i (by omega)
         obtain ⟨x, hx⟩ : ∃ x, ns[i]? = some x := ⟨_, List.getElem?_eq_getElem hlt⟩
         have hxt : (txts ns)[i]? = some (.string ⟨x.toArray⟩) := by unfold txts; rw [List.getElem?_map, hx]; rfl
         rw [hxt] at hni
         have HT : Hid ((ns.take (i + 1)).contains u = ((ns.take i).contains u || (x == u))) := Lib.hid (by rw [List.take_add_one, hx]; exact contains_snoc _ _ _)
         have hcap : (ns.length : Int) ≤ cn := by
          rcases HIi.out.nm.2 with ⟨h1, _⟩ | ⟨g9, c9, cu9, h9, _, _, h8, _⟩
          ·cases h1
          ·simp only [Value.slice.injEq] at h9; rw [h9.2.2]; omega
         clear hx hxt
         generalize (ns.take i).contains u = tw at *
         cases hb : (fq.twice || tw) with
         | true =>
          rw [hb] at c5
          have HB := Lib.hid hb
          clear hb
          go_wp2_with fail
          go_roundg (ns.length - (i + 1))
          case measure => have := Hki.out; omega
          case rel =>
           refine ⟨i + 1, rfl, by omega, by go_num, ?_⟩
           rw [HT.out, ← Bool.or_assoc, HB.out, Bool.true_or]
           have h9 := HIi.out
           rw [HB.out] at h9
           exact h9.only HG.out ((OnlyR.refl R _).set 5 _) (RowAt.set h9.rd 5 _ (by simp)) (fun e => ⟨e, Nat.le_refl _⟩) h9.le
         | false =>
          rw [hb] at c5
          have HB := Lib.hid hb
          clear hb
          cases hxu : (x == u) with
          | true =>
           have HXU := Lib.hid hxu
           go_wp2_with fail
           go_roundg (ns.length - (i + 1))
           case measure => have := Hki.out; omega
           case rel =>
            refine ⟨i + 1, rfl, by omega, by go_num, ?_⟩
            rw [HT.out, ← Bool.or_assoc, HB.out, HXU.out, Bool.false_or]
            have h9 := HIi.out
            exact h9.only HG.out ((OnlyR.refl R _).set 5 _) (RowAt.set h9.rd 5 _ (by simp)) (fun e => ⟨e, Nat.le_refl _⟩) h9.le
          | false =>
           have HXU := Lib.hid hxu
           go_wp2_with fail
           go_roundg (ns.length - (i + 1))
           case measure => have := Hki.out; omega
           case rel =>
            refine ⟨i + 1, rfl, by omega, by go_num, ?_⟩
            rw [HT.out, ← Bool.or_assoc, HB.out, HXU.out, Bool.false_or]
            have h9 := HIi.out
            exact h9.only HG.out ((OnlyR.refl R _).set 5 _) (RowAt.set h9.rd 5 _ (by simp)) (fun e => ⟨e, Nat.le_refl _⟩) h9.le
        ·
         obtain rfl : i = ns.length := by omega
         have hlt2 : ¬ (ns.length : Int) < ns.length := by omega
         rw [List.take_length] at HIi
         have hbase : g8 + 1 ≤ wr.heap.size := HIi.out.res.lt
         go_wp2_with (at_builtin; go_must (refine wpList_append_name rfl _ _ rfl (g8 + 1) _ ns rfl HIi.out.nm u _ rfl rfl ?hlen hbase ?_))
         case hlen => omega
         intro nv2 w8 hnv hgr hfr
         obtain ⟨pn2, cn2, rfl⟩ := hnv.forms
         have hnlb : ns.length ≤ m2 := HI.out.ln.2 rfl
         have hms : bq = false → ns.length + 1 ≤ m4 := fun e => by
          rcases HQ.out with ⟨h8, _⟩ | ⟨_, h8, _⟩
          ·rw [h8] at e; cases e
          ·omega
         have HI8 := Lib.hid (HIi.out.name HG.out HW5.out u _ hnv hgr hfr (by omega) hms)
         rw [show (ns ++ [u]).length = ns.length + 1 from by simp] at HI8
         have hvst : Apart (fun k => (Value.slice pn ns.length cn).ownBlock = some k) wr w8 := (Apart.ofBelow (S := fun k => (Value.slice pn ns.length cn).ownBlock = some k) ((Below.refl _ _).alloc (Nat.le_refl _) _)).trans (Apart.ofGrown hgr (fun k hk => hk)) (fun _ _ h => h)
         have hv8 := HIi.out.v.apart hvst (fun e => by have := (World.ownsRow.lt HIi.out.nm g5 e).1; have := HG.out; omega)
         have v7b := hv8.cell 7 _ rfl
         have f7b := hv8.free 7
         clear hnv hgr hfr hvst hv8 v7 c5 f5 hms hbase
         go_wp2_with fail
         refine (blanks_calls _ HI8.out.rd hm4 (by omega)).mono ?_
         rintro e w10 ⟨m5, rfl, hnm5, hm5, hsk5, hr10, ho10⟩
         have HI10 := Lib.hid (HI8.out.only HG.out ho10 hr10 (fun e => ⟨e, hnm5⟩) hm5)
         have HSK5 := Lib.hid hsk5
         clear hr10 ho10 hsk5 v7b f7b
         have HMO := Lib.hid (mem_obj [] ns (b.drop m2) f2)
         rw [HSK3.out] at HMO
         have c2 := HI10.out.rd.cell 2 _ rfl
         have f2c := HI10.out.rd.free 2
         cases bq with
         | true =>
          have HNO : Hid (memS [] true ns (b.drop m2) f2 = none) := by
           refine Lib.hid ?_
           rcases HQ.out with ⟨_, h8⟩ | ⟨h8, _⟩
           ·rw [HMO.out, h8]
           ·cases h8
          clear HMO HQ
          go_wp2_with fail
          go_meet
          exact ⟨m5, true, _, _, _, HI10.out.only HG.out ((OnlyR.refl R _).set 2 _) (HI10.out.rd.setBad true) (fun e => by cases e) hm5, .inl ⟨rfl, HNO.out⟩⟩
         | false =>
          obtain ⟨a, hqs, rfl⟩ : ∃ a, qS [] (b.drop m3) = some (u, b.drop m4, a) ∧ fq = { f2 with alone := f2.alone || a } := by
           rcases HQ.out with ⟨h8, _⟩ | ⟨_, _, a, h8, h9⟩
           ·cases h8
           ·exact ⟨a, h8, h9⟩
          have hm34 : m3 < m4 := by
           rcases HQ.out with ⟨h8, _⟩ | ⟨_, h8, _⟩
           ·cases h8
           ·exact h8
          rw [hqs] at HMO
          simp only at HMO
          rw [HSK5.out] at HMO
          clear hqs HQ
          go_wp2_with fail
          refine (takeR_calls w10 HI10.out.rd hm5 (by omega) [58] (by decide)).mono ?_
          rintro e w11 ⟨rfl, hr11, ho11⟩
          cases ht : takeB b m5 [58] with
          | true =>
           have hml : m5 < b.length := by
            rcases takeB_len ht with h9 | h9
            ·simp only [List.length_cons, List.length_nil] at h9; omega
            ·cases h9
           have HMS : Hid (memS [] true ns (b.drop m2) f2 = some (ns ++ [u], b.drop (m5 + 1), { f2 with alone := f2.alone || a, twice := f2.twice || ns.contains u })) := by
            refine Lib.hid ?_
            rw [takeB_one _ hml, beq_iff_eq] at ht
            rw [HMO.out, drop_at hml, ht]
            rfl
           rw [ht] at hr11
           have HI11 := Lib.hid (HI10.out.only HG.out ho11 hr11 (fun _ => ⟨rfl, Nat.le_succ m5⟩) hml)
           have c2 := HI11.out.rd.cell 2 _ rfl
           have f2d := HI11.out.rd.free 2
           clear hr11 ho11 ht HMO
           go_wp2_with fail
           go_meet
           exact ⟨m5 + 1, false, _, _, _, HI11.out.only HG.out ((OnlyR.refl R _).set 2 _) (HI11.out.rd.setBad false) (fun _ => ⟨rfl, Nat.le_refl _⟩) hml, .inr ⟨rfl, HMS.out, by omega⟩⟩
          | false =>
           have HMS : Hid (memS [] true ns (b.drop m2) f2 = none) := by
            refine Lib.hid ?_
            rw [HMO.out]
            rcases Nat.lt_or_ge m5 b.length with h9 | h9
            ·rw [takeB_one _ h9, beq_eq_false_iff_ne] at ht
             rw [drop_at h9]
             simp only
             rw [if_neg ht]
            ·rw [List.drop_of_length_le h9]
           rw [ht] at hr11
           have HI11 := Lib.hid (HI10.out.only HG.out ho11 hr11 (fun _ => ⟨rfl, Nat.le_refl m5⟩) hm5)
           have c2 := HI11.out.rd.cell 2 _ rfl
           have f2d := HI11.out.rd.free 2
           clear hr11 ho11 ht HMO
           go_wp2_with fail
           go_meet
           exact ⟨m5, true, _, _, _, HI11.out.only HG.out ((OnlyR.refl R _).set 2 _) (HI11.out.rd.setBad true) (fun e => by cases e) hm5, .inl ⟨rfl, HMS.out⟩⟩
     case rest =>
      obtain ⟨m3, bad3, f3, ns3, nv3, hI3, hM⟩ := hcut
      have HI3 := Lib.hid hI3
      obtain ⟨pn3, cn3, rfl⟩ := hI3.nm.forms
      have hm3 : m3 ≤ b.length := hI3.le
      clear hI3 v0 c2
      have c2 := HI3.out.rd.cell 2 _ rfl
      rcases hM with ⟨rfl, hno⟩ | ⟨rfl, hms, hm23⟩
      ·
       have HNO : Hid (inS [] k d obj (b.drop n1) ff = none) := Lib.hid (by rw [HU.out, hno])
       clear hno HU
       have v0 := HI3.out.v.cell 0 _ rfl
       have v1 := HI3.out.v.cell 1 _ rfl
       have v2 := HI3.out.v.cell 2 _ rfl
       have v3 := HI3.out.v.cell 3 _ rfl
       have v4 := HI3.out.v.cell 4 _ rfl
       have v5 := HI3.out.v.cell 5 _ rfl
       have v6 := HI3.out.v.cell 6 _ rfl
       have v7 := HI3.out.v.cell 7 _ rfl
       have r0 := HI3.out.res.cell 0 _ rfl
       have q0 := HI3.out.res.free 0
       have r1 := HI3.out.res.cell 1 _ rfl
       have q1 := HI3.out.res.free 1
       have r2 := HI3.out.res.cell 2 _ rfl
       have q2 := HI3.out.res.free 2
       have r3 := HI3.out.res.cell 3 _ rfl
       have q3 := HI3.out.res.free 3
       have r4 := HI3.out.res.cell 4 _ rfl
       have q4 := HI3.out.res.free 4
       have r5 := HI3.out.res.cell 5 _ rfl
       have q5 := HI3.out.res.free 5
       have r6 := HI3.out.res.cell 6 _ rfl
       have q6 := HI3.out.res.free 6
       have r7 := HI3.out.res.cell 7 _ rfl
       have q7 := HI3.out.res.free 7
       go_wp2_with fail
       obtain ⟨ho, hr, hj⟩ := HI3.out.ret HG.out HGW.out (.int .i64 (kindI obj)) (.bool false) (.bool false) (.string ⟨#[]⟩) (.int .i64 0) (.string ⟨#[]⟩) (.slice pl rs.length cl) (.slice pn3 ns3.length cn3)
       have hrow := set8_row HI3.out.res rfl (.int .i64 (kindI obj)) (.bool false) (.bool false) (.string ⟨#[]⟩) (.int .i64 0) (.string ⟨#[]⟩) (.slice pl rs.length cl) (.slice pn3 ns3.length cn3)
       have z0 := hrow.cell 0 _ rfl
       have z1 := hrow.cell 1 _ rfl
       have z2 := hrow.cell 2 _ rfl
       have z3 := hrow.cell 3 _ rfl
       have z4 := hrow.cell 4 _ rfl
       have z5 := hrow.cell 5 _ rfl
       have z6 := hrow.cell 6 _ rfl
       have z7 := hrow.cell 7 _ rfl
       change bodyPost _ _ _ _ _ (set8 wc g8 (.int .i64 (kindI obj)) (.bool false) (.bool false) (.string ⟨#[]⟩) (.int .i64 0) (.string ⟨#[]⟩) (.slice pl rs.length cl) (.slice pn3 ns3.length cn3))
       generalize set8 wc g8 (.int .i64 (kindI obj)) (.bool false) (.bool false) (.string ⟨#[]⟩) (.int .i64 0) (.string ⟨#[]⟩) (.slice pl rs.length cl) (.slice pn3 ns3.length cn3) = W8 at *
       refine bodyPost_ret (v := jval (listJ obj (rs.map (·.1)) ns3, (.slice pl rs.length cl), (.slice pn3 ns3.length cn3))) (by simp [results, Tryz.results87, go_sem, z0, z1, z2, z3, z4, z5, z6, z7]; cases obj <;> rfl) rfl ?_
       exact ⟨ho, .inl ⟨by rw [HN1.out, HFF.out]; exact HNO.out, m3, f3, _, hm3, rfl, hj, hr⟩⟩
      ·
       have HU2 : Hid (inS [] k d obj (b.drop n1) ff = moreS [] j0 d obj (rs.map (·.1)) ns3 (valS [] j0 d (b.drop m3) f3)) := Lib.hid (by rw [HU.out, hms])
       clear hms HU
       go_upto_region 20 with fail
       go_cut [] from 89 to 96 (fun wc => ValIn w wc R g5 g8 b obj j0 d m3 f3 rs ns3 (.slice pn3 ns3.length cn3))
       case first =>
        have HIW := Lib.hid (HI3.out.below (Below.refl _ _).drew)
        clear c2
        refine wp_region_held_drew (S := (fun _ => True)) (by kernel_rfl) trivial (fun hHeld0 => ?_)
        generalize wc.drew = wd at *
        refine held_tk 0 ?_ (fun wq hSq => ?_) hHeld0 ?_
        rotate_left
        ·(try dsimp only at hSq); go_simp; try with_reducible rfl
        simp only [Act.put, sbA, sbB, sbC]
        refine held_tk 2 ?_ (fun wq hSq => ?_) hHeld0 ?_
        rotate_left
        ·(try dsimp only at hSq); go_simp; try with_reducible rfl
        simp only [Act.put, sbA, sbB, sbC]
        refine held_tk 3 ?_ (fun wq hSq => ?_) hHeld0 ?_
        rotate_left
        ·(try dsimp only at hSq); go_simp; try with_reducible rfl
        simp only [Act.put, sbA, sbB, sbC]
        have v6 := HIW.out.v.cell 6 _ rfl
        refine held_two (i := 1) (j := 4) (by kernel_rfl) rfl rfl (by rfl) (by rfl) (fun K hK => ?_) (fun K hK => ?_)
        ·
         go_simp
         clear v6
         refine hK.out _ _ trivial (fun hHeld1 => ?_)
         clear hK K hHeld0
         refine held_step (i := 4) (by kernel_rfl) rfl (by rfl) (fun K hK => ?_)
         go_simp
         refine (HVV.out j0 (by have := HJ.out; omega) wd R b m3 d f3 HIW.out.rd hm3 hl (by have := HNM2.out; have := HN1.out; omega) (by have := HJ.out; omega)).mono ?_
         rintro e9 w1 ⟨ho1, hv1⟩
         have hres : ∃ (r : JR) (m4 : Nat) (bq : Bool) (fq : Fl), e9 = .returned (jval r) ∧ m4 ≤ b.length ∧ RdAt w1 R b m4 bq fq ∧ JV w1 (fun k => wd.heap.size ≤ k) r ∧ ((bq = true ∧ valS [] j0 d (b.drop m3) f3 = none) ∨ (bq = false ∧ m3 < m4 ∧ valS [] j0 d (b.drop m3) f3 = some (r.1, b.drop m4, fq))) := by
          rcases hv1 with ⟨h1, m4, fq, r, h2, h3, h4, h5⟩ | ⟨r, m4, fq, h1, h2, h3, h4, h5, h6⟩
          ·exact ⟨r, m4, true, fq, h3, h2, h5, h4, .inl ⟨rfl, h1⟩⟩
          ·exact ⟨r, m4, false, fq, h4, h2, h6, h5, .inr ⟨rfl, h3, h1⟩⟩
         clear hv1
         obtain ⟨r, m4, bq, fq, rfl, hm4, hr1, hj1, hq1⟩ := hres
         have HQV := Lib.hid hq1
         have hmq1 : bq = false → (false : Bool) = false ∧ m3 ≤ m4 := fun e => by
          rcases hq1 with ⟨h9, _⟩ | ⟨_, h9, _⟩
          ·rw [h9] at e; cases e
          ·exact ⟨rfl, by omega⟩
         have HI1 := Lib.hid (HIW.out.only HG.out ho1 hr1 hmq1 hm4)
         have HSZ := Lib.hid (show g8 + 1 ≤ wd.heap.size from HIW.out.res.lt)
         have HLV : Hid (∀ k, (Value.slice pl rs.length cl).ownBlock = some k → k < wd.heap.size) := Lib.hid (fun k hk => (HIW.out.js.lt hk).2)
         have HNV : Hid (∀ k, (Value.slice pn3 ns3.length cn3).ownBlock = some k → k < wd.heap.size) := Lib.hid (fun k hk => (World.ownsRow.lt HIW.out.nm k hk).2)
         have HJV := Lib.hid hj1
         obtain ⟨⟨kd, bb, ⟨ng, dg, ex⟩, tx, l2, ns2⟩, lv2, nv2⟩ := r
         obtain ⟨p1, c1, p2, c2e, e1, e2⟩ := HJV.out.slices
         simp only at e1 e2
         subst e1 e2
         simp only [jval, J.kind, J.b, J.n, J.t]
         clear hq1 hmq1 ho1 hr1 hj1
         refine hK.out _ _ trivial (fun hHeld2 => ?_)
         clear hK K hHeld1
         refine held_step (i := 5) (by kernel_rfl) rfl (by rfl) (fun K hK => ?_)
         go_simp
         have hb2 : Below w1.heap.size w1 (w1.alloc (Obj.cells #[Value.int IntKind.i64 kd, Value.bool bb, Value.bool ng, Value.string { data := dg.toArray }, Value.int IntKind.i64 ex, Value.string { data := tx.toArray }, .slice p1 (J.mk kd bb ⟨ng, dg, ex⟩ tx l2 ns2).l.length c1, .slice p2 (J.mk kd bb ⟨ng, dg, ex⟩ tx l2 ns2).ns.length c2e] 30)) := (Below.refl _ _).alloc (Nat.le_refl _) _
         have HI2 := Lib.hid (HI1.out.below hb2)
         have HJ2 := Lib.hid (HJV.out.bel hb2)
         have HC2 := Lib.hid (RowAt.new w1 #[Value.int IntKind.i64 kd, Value.bool bb, Value.bool ng, Value.string { data := dg.toArray }, Value.int IntKind.i64 ex, Value.string { data := tx.toArray }, .slice p1 (J.mk kd bb ⟨ng, dg, ex⟩ tx l2 ns2).l.length c1, .slice p2 (J.mk kd bb ⟨ng, dg, ex⟩ tx l2 ns2).ns.length c2e] 30)
         obtain ⟨gc, hgc⟩ : ∃ g, w1.heap.size = g := ⟨_, rfl⟩
         rw [hgc] at HC2 ⊢
         generalize (w1.alloc (Obj.cells #[Value.int IntKind.i64 kd, Value.bool bb, Value.bool ng, Value.string { data := dg.toArray }, Value.int IntKind.i64 ex, Value.string { data := tx.toArray }, .slice p1 (J.mk kd bb ⟨ng, dg, ex⟩ tx l2 ns2).l.length c1, .slice p2 (J.mk kd bb ⟨ng, dg, ex⟩ tx l2 ns2).ns.length c2e] 30)) = w2 at *
         clear hb2 hgc
         refine hK.out _ _ trivial (fun hHeld3 => ?_)
         clear hK K hHeld2
         refine held_step (i := 6) (by kernel_rfl) rfl (by rfl) (fun K hK => ?_)
         refine oper_append_json _ _ rfl (g8 + 1) (SepS g8 (.slice pn3 ns3.length cn3)) _ rs rfl HI2.out.js (.mk kd bb ⟨ng, dg, ex⟩ tx l2 ns2, .slice p1 _ c1, .slice p2 _ c2e) (HJ2.out.mono (fun k _ hk => ⟨⟨Nat.le_trans HSZ.out hk, fun e => by have := HNV.out k e; omega⟩, fun e => by have := HLV.out k e; omega⟩)) gc 1 rfl ?hcs ?hlen ?hbs (fun v3 w3 h1 h2 h3 => ?_)
         case hcs =>
          intro i hi
          match i, hi with
          | 0, _ => exact HC2.out.cell 0 _ rfl
          | 1, _ => exact HC2.out.cell 1 _ rfl
          | 2, _ => exact HC2.out.cell 2 _ rfl
          | 3, _ => exact HC2.out.cell 3 _ rfl
          | 4, _ => exact HC2.out.cell 4 _ rfl
          | 5, _ => exact HC2.out.cell 5 _ rfl
          | 6, _ => exact HC2.out.cell 6 _ rfl
          | 7, _ => exact HC2.out.cell 7 _ rfl
         case hlen => have := HI2.out.lr.1; omega
         case hbs => exact HI2.out.res.lt
         obtain ⟨pv, cv, rfl⟩ := h1.forms
         rw [List.length_append, List.length_singleton] at h1
         have HJS := Lib.hid h1
         have HGR := Lib.hid h2
         clear h1 h2 h3
         simp only [Act.put, sbA, sbB, sbC]
         refine hK.out _ _ trivial (fun hHeld4 => ?_)
         clear hK K hHeld3
         refine held_tk 7 ?_ (fun wq hSq => ?_) hHeld4 ?_
         rotate_left
         ·(try dsimp only at hSq); go_simp; try with_reducible rfl
         simp only [Act.put, sbA, sbB, sbC]
         have hvr := HI2.out.v.apart (Apart.ofGrown (S := fun k => (Value.slice pl rs.length cl).ownBlock = some k) HGR.out (fun k hk => hk)) (fun e => by have := (HI2.out.js.lt e).1; have := HG.out; omega)
         have z6 := hvr.cell 6 _ rfl
         have y6 := hvr.free 6
         clear hvr
         refine held_step (i := 8) (by kernel_rfl) rfl (by rfl) (fun K hK => ?_)
         go_simp
         clear z6 y6
         refine hK.out _ _ trivial (fun hHeld5 => ?_)
         clear hK K hHeld4
         refine wpAnyH_done (by kernel_rfl) ?_ _
         clear hHeld5
         go_wp2_with fail
         go_meet
         have hrs : rs.length ≤ m2 := HI.out.lr.2 rfl
         have hms : bq = false → rs.length + 1 ≤ m4 := fun e => by
          rcases HQV.out with ⟨h8, _⟩ | ⟨_, h8, _⟩
          ·rw [h8] at e; cases e
          ·omega
         exact ⟨_, m4, bq, fq, _, HI2.out.value HG.out HW5.out _ HJS.out HGR.out (by omega) hms, HQV.out⟩
        ·
         go_simp
         refine (HVV.out j0 (by have := HJ.out; omega) wd R b m3 d f3 HIW.out.rd hm3 hl (by have := HNM2.out; have := HN1.out; omega) (by have := HJ.out; omega)).mono ?_
         rintro e9 w4 ⟨ho4, hv4⟩
         have hres : ∃ (r : JR) (m4 : Nat) (bq : Bool) (fq : Fl), e9 = .returned (jval r) ∧ m4 ≤ b.length ∧ RdAt w4 R b m4 bq fq ∧ JV w4 (fun k => wd.heap.size ≤ k) r ∧ ((bq = true ∧ valS [] j0 d (b.drop m3) f3 = none) ∨ (bq = false ∧ m3 < m4 ∧ valS [] j0 d (b.drop m3) f3 = some (r.1, b.drop m4, fq))) := by
          rcases hv4 with ⟨h1, m4, fq, r, h2, h3, h4, h5⟩ | ⟨r, m4, fq, h1, h2, h3, h4, h5, h6⟩
          ·exact ⟨r, m4, true, fq, h3, h2, h5, h4, .inl ⟨rfl, h1⟩⟩
          ·exact ⟨r, m4, false, fq, h4, h2, h6, h5, .inr ⟨rfl, h3, h1⟩⟩
         clear hv4
         obtain ⟨r, m4, bq, fq, rfl, hm4, hr4, hj4, hq4⟩ := hres
         have HQV := Lib.hid hq4
         have hmq4 : bq = false → (false : Bool) = false ∧ m3 ≤ m4 := fun e => by
          rcases hq4 with ⟨h9, _⟩ | ⟨_, h9, _⟩
          ·rw [h9] at e; cases e
          ·exact ⟨rfl, by omega⟩
         have HI4 := Lib.hid (HIW.out.only HG.out ho4 hr4 hmq4 hm4)
         have HSZ := Lib.hid (show g8 + 1 ≤ wd.heap.size from HIW.out.res.lt)
         have HLV : Hid (∀ k, (Value.slice pl rs.length cl).ownBlock = some k → k < wd.heap.size) := Lib.hid (fun k hk => (HIW.out.js.lt hk).2)
         have HNV : Hid (∀ k, (Value.slice pn3 ns3.length cn3).ownBlock = some k → k < wd.heap.size) := Lib.hid (fun k hk => (World.ownsRow.lt HIW.out.nm k hk).2)
         have HJV := Lib.hid hj4
         obtain ⟨⟨kd, bb, ⟨ng, dg, ex⟩, tx, l2, ns2⟩, lv2, nv2⟩ := r
         obtain ⟨p1, c1, p2, c2e, e1, e2⟩ := HJV.out.slices
         simp only at e1 e2
         subst e1 e2
         simp only [jval, J.kind, J.b, J.n, J.t]
         clear hq4 hmq4 ho4 hr4 hj4
         refine hK.out _ _ trivial (fun hHeld1 => ?_)
         clear hK K hHeld0
         have v6 := HI4.out.v.cell 6 _ rfl
         refine held_two (i := 1) (j := 5) (by kernel_rfl) rfl rfl (by rfl) (by rfl) (fun K hK => ?_) (fun K hK => ?_)
         ·
          go_simp
          clear v6
          refine hK.out _ _ trivial (fun hHeld2 => ?_)
          clear hK K hHeld1
          refine held_step (i := 5) (by kernel_rfl) rfl (by rfl) (fun K hK => ?_)
          go_simp
          have hb5 : Below w4.heap.size w4 (w4.alloc (Obj.cells #[Value.int IntKind.i64 kd, Value.bool bb, Value.bool ng, Value.string { data := dg.toArray }, Value.int IntKind.i64 ex, Value.string { data := tx.toArray }, .slice p1 (J.mk kd bb ⟨ng, dg, ex⟩ tx l2 ns2).l.length c1, .slice p2 (J.mk kd bb ⟨ng, dg, ex⟩ tx l2 ns2).ns.length c2e] 30)) := (Below.refl _ _).alloc (Nat.le_refl _) _
          have HI5 := Lib.hid (HI4.out.below hb5)
          have HJ5 := Lib.hid (HJV.out.bel hb5)
          have HC5 := Lib.hid (RowAt.new w4 #[Value.int IntKind.i64 kd, Value.bool bb, Value.bool ng, Value.string { data := dg.toArray }, Value.int IntKind.i64 ex, Value.string { data := tx.toArray }, .slice p1 (J.mk kd bb ⟨ng, dg, ex⟩ tx l2 ns2).l.length c1, .slice p2 (J.mk kd bb ⟨ng, dg, ex⟩ tx l2 ns2).ns.length c2e] 30)
          obtain ⟨gc, hgc⟩ : ∃ g, w4.heap.size = g := ⟨_, rfl⟩
          rw [hgc] at HC5 ⊢
          generalize (w4.alloc (Obj.cells #[Value.int IntKind.i64 kd, Value.bool bb, Value.bool ng, Value.string { data := dg.toArray }, Value.int IntKind.i64 ex, Value.string { data := tx.toArray }, .slice p1 (J.mk kd bb ⟨ng, dg, ex⟩ tx l2 ns2).l.length c1, .slice p2 (J.mk kd bb ⟨ng, dg, ex⟩ tx l2 ns2).ns.length c2e] 30)) = w5 at *
          clear hb5 hgc
          refine hK.out _ _ trivial (fun hHeld3 => ?_)
          clear hK K hHeld2
          refine held_step (i := 6) (by kernel_rfl) rfl (by rfl) (fun K hK => ?_)
          refine oper_append_json _ _ rfl (g8 + 1) (SepS g8 (.slice pn3 ns3.length cn3)) _ rs rfl HI5.out.js (.mk kd bb ⟨ng, dg, ex⟩ tx l2 ns2, .slice p1 _ c1, .slice p2 _ c2e) (HJ5.out.mono (fun k _ hk => ⟨⟨Nat.le_trans HSZ.out hk, fun e => by have := HNV.out k e; omega⟩, fun e => by have := HLV.out k e; omega⟩)) gc 1 rfl ?hcs ?hlen ?hbs (fun v6 w6 h1 h2 h3 => ?_)
          case hcs =>
           intro i hi
           match i, hi with
           | 0, _ => exact HC5.out.cell 0 _ rfl
           | 1, _ => exact HC5.out.cell 1 _ rfl
           | 2, _ => exact HC5.out.cell 2 _ rfl
           | 3, _ => exact HC5.out.cell 3 _ rfl
           | 4, _ => exact HC5.out.cell 4 _ rfl
           | 5, _ => exact HC5.out.cell 5 _ rfl
           | 6, _ => exact HC5.out.cell 6 _ rfl
           | 7, _ => exact HC5.out.cell 7 _ rfl
          case hlen => have := HI5.out.lr.1; omega
          case hbs => exact HI5.out.res.lt
          obtain ⟨pv, cv, rfl⟩ := h1.forms
          rw [List.length_append, List.length_singleton] at h1
          have HJS := Lib.hid h1
          have HGR := Lib.hid h2
          clear h1 h2 h3
          simp only [Act.put, sbA, sbB, sbC]
          refine hK.out _ _ trivial (fun hHeld4 => ?_)
          clear hK K hHeld3
          refine held_tk 7 ?_ (fun wq hSq => ?_) hHeld4 ?_
          rotate_left
          ·(try dsimp only at hSq); go_simp; try with_reducible rfl
          simp only [Act.put, sbA, sbB, sbC]
          have hvr := HI5.out.v.apart (Apart.ofGrown (S := fun k => (Value.slice pl rs.length cl).ownBlock = some k) HGR.out (fun k hk => hk)) (fun e => by have := (HI5.out.js.lt e).1; have := HG.out; omega)
          have z6 := hvr.cell 6 _ rfl
          have y6 := hvr.free 6
          clear hvr
          refine held_step (i := 8) (by kernel_rfl) rfl (by rfl) (fun K hK => ?_)
          go_simp
          clear z6 y6
          refine hK.out _ _ trivial (fun hHeld5 => ?_)
          clear hK K hHeld4
          refine wpAnyH_done (by kernel_rfl) ?_ _
          clear hHeld5
          go_wp2_with fail
          go_meet
          have hrs : rs.length ≤ m2 := HI.out.lr.2 rfl
          have hms : bq = false → rs.length + 1 ≤ m4 := fun e => by
           rcases HQV.out with ⟨h8, _⟩ | ⟨_, h8, _⟩
           ·rw [h8] at e; cases e
           ·omega
          exact ⟨_, m4, bq, fq, _, HI5.out.value HG.out HW5.out _ HJS.out HGR.out (by omega) hms, HQV.out⟩
         ·
          go_simp
          have hb7 : Below w4.heap.size w4 (w4.alloc (Obj.cells #[Value.int IntKind.i64 kd, Value.bool bb, Value.bool ng, Value.string { data := dg.toArray }, Value.int IntKind.i64 ex, Value.string { data := tx.toArray }, .slice p1 (J.mk kd bb ⟨ng, dg, ex⟩ tx l2 ns2).l.length c1, .slice p2 (J.mk kd bb ⟨ng, dg, ex⟩ tx l2 ns2).ns.length c2e] 30)) := (Below.refl _ _).alloc (Nat.le_refl _) _
          have HI7 := Lib.hid (HI4.out.below hb7)
          have HJ7 := Lib.hid (HJV.out.bel hb7)
          have HC7 := Lib.hid (RowAt.new w4 #[Value.int IntKind.i64 kd, Value.bool bb, Value.bool ng, Value.string { data := dg.toArray }, Value.int IntKind.i64 ex, Value.string { data := tx.toArray }, .slice p1 (J.mk kd bb ⟨ng, dg, ex⟩ tx l2 ns2).l.length c1, .slice p2 (J.mk kd bb ⟨ng, dg, ex⟩ tx l2 ns2).ns.length c2e] 30)
          obtain ⟨gc, hgc⟩ : ∃ g, w4.heap.size = g := ⟨_, rfl⟩
          rw [hgc] at HC7 ⊢
          generalize (w4.alloc (Obj.cells #[Value.int IntKind.i64 kd, Value.bool bb, Value.bool ng, Value.string { data := dg.toArray }, Value.int IntKind.i64 ex, Value.string { data := tx.toArray }, .slice p1 (J.mk kd bb ⟨ng, dg, ex⟩ tx l2 ns2).l.length c1, .slice p2 (J.mk kd bb ⟨ng, dg, ex⟩ tx l2 ns2).ns.length c2e] 30)) = w7 at *
          clear hb7 hgc
          refine hK.out _ _ trivial (fun hHeld2 => ?_)
          clear hK K hHeld1
          have v6 := HI7.out.v.cell 6 _ rfl
          refine held_step (i := 1) (by kernel_rfl) rfl (by rfl) (fun K hK => ?_)
          go_simp
          clear v6
          refine hK.out _ _ trivial (fun hHeld3 => ?_)
          clear hK K hHeld2
          refine held_step (i := 6) (by kernel_rfl) rfl (by rfl) (fun K hK => ?_)
          refine oper_append_json _ _ rfl (g8 + 1) (SepS g8 (.slice pn3 ns3.length cn3)) _ rs rfl HI7.out.js (.mk kd bb ⟨ng, dg, ex⟩ tx l2 ns2, .slice p1 _ c1, .slice p2 _ c2e) (HJ7.out.mono (fun k _ hk => ⟨⟨Nat.le_trans HSZ.out hk, fun e => by have := HNV.out k e; omega⟩, fun e => by have := HLV.out k e; omega⟩)) gc 1 rfl ?hcs ?hlen ?hbs (fun v8 w8 h1 h2 h3 => ?_)
          case hcs =>
           intro i hi
           match i, hi with
           | 0, _ => exact HC7.out.cell 0 _ rfl
           | 1, _ => exact HC7.out.cell 1 _ rfl
           | 2, _ => exact HC7.out.cell 2 _ rfl
           | 3, _ => exact HC7.out.cell 3 _ rfl
           | 4, _ => exact HC7.out.cell 4 _ rfl
           | 5, _ => exact HC7.out.cell 5 _ rfl
           | 6, _ => exact HC7.out.cell 6 _ rfl
           | 7, _ => exact HC7.out.cell 7 _ rfl
          case hlen => have := HI7.out.lr.1; omega
          case hbs => exact HI7.out.res.lt
          obtain ⟨pv, cv, rfl⟩ := h1.forms
          rw [List.length_append, List.length_singleton] at h1
          have HJS := Lib.hid h1
          have HGR := Lib.hid h2
          clear h1 h2 h3
          simp only [Act.put, sbA, sbB, sbC]
          refine hK.out _ _ trivial (fun hHeld4 => ?_)
          clear hK K hHeld3
          refine held_tk 7 ?_ (fun wq hSq => ?_) hHeld4 ?_
          rotate_left
          ·(try dsimp only at hSq); go_simp; try with_reducible rfl
          simp only [Act.put, sbA, sbB, sbC]
          have hvr := HI7.out.v.apart (Apart.ofGrown (S := fun k => (Value.slice pl rs.length cl).ownBlock = some k) HGR.out (fun k hk => hk)) (fun e => by have := (HI7.out.js.lt e).1; have := HG.out; omega)
          have z6 := hvr.cell 6 _ rfl
          have y6 := hvr.free 6
          clear hvr
          refine held_step (i := 8) (by kernel_rfl) rfl (by rfl) (fun K hK => ?_)
          go_simp
          clear z6 y6
          refine hK.out _ _ trivial (fun hHeld5 => ?_)
          clear hK K hHeld4
          refine wpAnyH_done (by kernel_rfl) ?_ _
          clear hHeld5
          go_wp2_with fail
          go_meet
          have hrs : rs.length ≤ m2 := HI.out.lr.2 rfl
          have hms : bq = false → rs.length + 1 ≤ m4 := fun e => by
           rcases HQV.out with ⟨h8, _⟩ | ⟨_, h8, _⟩
           ·rw [h8] at e; cases e
           ·omega
          exact ⟨_, m4, bq, fq, _, HI7.out.value HG.out HW5.out _ HJS.out HGR.out (by omega) hms, HQV.out⟩
       case rest =>
        obtain ⟨r, m4, bq, fq, lv4, hI4, hV⟩ := hcut
        have HI4 := Lib.hid hI4
        obtain ⟨pl4, cl4, rfl⟩ := hI4.js.forms
        rw [List.length_append, List.length_singleton] at HI4
        have hm4 : m4 ≤ b.length := hI4.le
        have HV4 := Lib.hid hV
        clear hI4 hV c2
        go_wp2_with fail
        refine (blanks_calls _ HI4.out.rd hm4 (by omega)).mono ?_
        rintro e w10 ⟨m5, rfl, hnm5, hm5, hsk5, hr10, ho10⟩
        have HI10 := Lib.hid (HI4.out.only HG.out ho10 hr10 (fun e => ⟨e, hnm5⟩) hm5)
        have HSK5 := Lib.hid hsk5
        clear hr10 ho10 hsk5 HI4
        go_wp2_with fail
        refine (takeR_calls w10 HI10.out.rd hm5 (by omega) [endB obj] (by simp)).mono ?_
        rintro e w11 ⟨rfl, hr11, ho11⟩
        have hdec : (bq = true ∧ inS [] k d obj (b.drop n1) ff = none) ∨ (bq = false ∧ m3 < m4 ∧ inS [] k d obj (b.drop n1) ff = match b.drop m5 with
          | [] => none
          | c :: t => if c = endB obj then some (listJ obj (rs.map (·.1) ++ [r.1]) ns3, t, fq) else if c = 44 then itemS [] j0 d obj (rs.map (·.1) ++ [r.1]) ns3 t fq else none) := by
         rcases HV4.out with ⟨h1, h2⟩ | ⟨h1, h2, h3⟩
         ·exact .inl ⟨h1, by rw [HU2.out, h2]; rfl⟩
         ·exact .inr ⟨h1, h2, by rw [HU2.out, h3]; simp only [moreS]; rw [HSK5.out]; rfl⟩
        clear HV4 HU2
        cases ht : takeB b m5 [endB obj] with
        | true =>
         have hml : m5 < b.length := by
          rcases takeB_len ht with h9 | h9
          ·simp only [List.length_cons, List.length_nil] at h9; omega
          ·cases h9
         have hfin : (bq = true ∧ inS [] k d obj (b.drop n1) ff = none) ∨ (bq = false ∧ m3 < m4 ∧ inS [] k d obj (b.drop n1) ff = some (listJ obj ((rs ++ [r]).map (·.1)) ns3, b.drop (m5 + 1), fq)) := by
          rcases hdec with h1 | ⟨h1, h2, h3⟩
          ·exact .inl h1
          ·refine .inr ⟨h1, h2, ?_⟩
           rw [takeB_one _ hml, beq_iff_eq] at ht
           rw [h3, drop_at hml, ht]
           simp
         have HFIN := Lib.hid hfin
         rw [ht] at hr11
         have HI11 : Hid (InI w w11 R g5 g8 b obj (m5 + 1) bq fq (rs ++ [r]) ns3 (.slice pl4 (rs.length + 1) cl4) (.slice pn3 ns3.length cn3)) := Lib.hid (HI10.out.only HG.out ho11 hr11 (fun e => ⟨e, Nat.le_succ m5⟩) hml)
         clear hr11 ho11 ht hdec hfin
         have v0 := HI11.out.v.cell 0 _ rfl
         have v1 := HI11.out.v.cell 1 _ rfl
         have v2 := HI11.out.v.cell 2 _ rfl
         have v3 := HI11.out.v.cell 3 _ rfl
         have v4 := HI11.out.v.cell 4 _ rfl
         have v5 := HI11.out.v.cell 5 _ rfl
         have v6 := HI11.out.v.cell 6 _ rfl
         have v7 := HI11.out.v.cell 7 _ rfl
         have r0 := HI11.out.res.cell 0 _ rfl
         have q0 := HI11.out.res.free 0
         have r1 := HI11.out.res.cell 1 _ rfl
         have q1 := HI11.out.res.free 1
         have r2 := HI11.out.res.cell 2 _ rfl
         have q2 := HI11.out.res.free 2
         have r3 := HI11.out.res.cell 3 _ rfl
         have q3 := HI11.out.res.free 3
         have r4 := HI11.out.res.cell 4 _ rfl
         have q4 := HI11.out.res.free 4
         have r5 := HI11.out.res.cell 5 _ rfl
         have q5 := HI11.out.res.free 5
         have r6 := HI11.out.res.cell 6 _ rfl
         have q6 := HI11.out.res.free 6
         have r7 := HI11.out.res.cell 7 _ rfl
         have q7 := HI11.out.res.free 7
         go_wp2_with fail
         obtain ⟨ho, hr, hj⟩ := HI11.out.ret HG.out HGW.out (.int .i64 (kindI obj)) (.bool false) (.bool false) (.string ⟨#[]⟩) (.int .i64 0) (.string ⟨#[]⟩) (.slice pl4 (rs.length + 1) cl4) (.slice pn3 ns3.length cn3)
         have hrow := set8_row HI11.out.res rfl (.int .i64 (kindI obj)) (.bool false) (.bool false) (.string ⟨#[]⟩) (.int .i64 0) (.string ⟨#[]⟩) (.slice pl4 (rs.length + 1) cl4) (.slice pn3 ns3.length cn3)
         have z0 := hrow.cell 0 _ rfl
         have z1 := hrow.cell 1 _ rfl
         have z2 := hrow.cell 2 _ rfl
         have z3 := hrow.cell 3 _ rfl
         have z4 := hrow.cell 4 _ rfl
         have z5 := hrow.cell 5 _ rfl
         have z6 := hrow.cell 6 _ rfl
         have z7 := hrow.cell 7 _ rfl
         change bodyPost _ _ _ _ _ (set8 w11 g8 (.int .i64 (kindI obj)) (.bool false) (.bool false) (.string ⟨#[]⟩) (.int .i64 0) (.string ⟨#[]⟩) (.slice pl4 (rs.length + 1) cl4) (.slice pn3 ns3.length cn3))
         generalize set8 w11 g8 (.int .i64 (kindI obj)) (.bool false) (.bool false) (.string ⟨#[]⟩) (.int .i64 0) (.string ⟨#[]⟩) (.slice pl4 (rs.length + 1) cl4) (.slice pn3 ns3.length cn3) = W8 at *
         refine bodyPost_ret (v := jval (listJ obj ((rs ++ [r]).map (·.1)) ns3, (.slice pl4 (rs.length + 1) cl4), (.slice pn3 ns3.length cn3))) (by simp [results, Tryz.results87, go_sem, z0, z1, z2, z3, z4, z5, z6, z7]; cases obj <;> rfl) rfl ?_
         rcases HFIN.out with ⟨rfl, h1⟩ | ⟨rfl, h1, h2⟩
         ·exact ⟨ho, .inl ⟨by rw [HN1.out, HFF.out]; exact h1, m5 + 1, fq, _, hml, rfl, hj, hr⟩⟩
         ·exact ⟨ho, .inr ⟨_, m5 + 1, fq, by rw [HN1.out, HFF.out]; exact h2, hml, by have := HN1.out; have := HNM2.out; omega, rfl, hj, hr⟩⟩
        | false =>
         rw [ht] at hr11
         have HI11 : Hid (InI w w11 R g5 g8 b obj m5 bq fq (rs ++ [r]) ns3 (.slice pl4 (rs.length + 1) cl4) (.slice pn3 ns3.length cn3)) := Lib.hid (HI10.out.only HG.out ho11 hr11 (fun e => ⟨e, Nat.le_refl m5⟩) hm5)
         clear hr11 ho11 HI10
         have c2 := HI11.out.rd.cell 2 _ rfl
         have f2c := HI11.out.rd.free 2
         rcases hdec with ⟨rfl, hno⟩ | ⟨rfl, hm34, hnx⟩
         ·
          have HNO := Lib.hid hno
          clear hno ht
          go_wp2_with fail
          go_roundg 0
          case measure => have := Hkk.out; simp at this; omega
          case rel => exact ⟨j0, m5, true, fq, _, _, _, _, rfl, HI11.out.only HG.out ((OnlyR.refl R _).set 2 _) (HI11.out.rd.setBad true) (fun e => by cases e) hm5, .inl ⟨rfl, HNO.out⟩⟩
         ·
          have HNX : Hid (inS [] k d obj (b.drop n1) ff = match b.drop m5 with
            | [] => none
            | c :: t => if c = 44 then itemS [] j0 d obj (rs.map (·.1) ++ [r.1]) ns3 t fq else none) := by
           refine Lib.hid ?_
           rw [hnx]
           rcases Nat.lt_or_ge m5 b.length with h9 | h9
           ·rw [takeB_one _ h9, beq_eq_false_iff_ne] at ht
            rw [drop_at h9]
            simp only
            rw [if_neg ht]
           ·rw [List.drop_of_length_le h9]
          clear hnx ht
          go_wp2_with fail
          refine (takeR_calls w11 HI11.out.rd hm5 (by omega) [44] (by decide)).mono ?_
          rintro e w12 ⟨rfl, hr12, ho12⟩
          cases ht2 : takeB b m5 [44] with
          | true =>
           have hml : m5 < b.length := by
            rcases takeB_len ht2 with h9 | h9
            ·simp only [List.length_cons, List.length_nil] at h9; omega
            ·cases h9
           have HNY : Hid (inS [] k d obj (b.drop n1) ff = itemS [] j0 d obj ((rs ++ [r]).map (·.1)) ns3 (b.drop (m5 + 1)) fq) := by
            refine Lib.hid ?_
            rw [takeB_one _ hml, beq_iff_eq] at ht2
            rw [HNX.out, drop_at hml, ht2]
            simp
           rw [ht2] at hr12
           have HI12 : Hid (InI w w12 R g5 g8 b obj (m5 + 1) false fq (rs ++ [r]) ns3 (.slice pl4 (rs.length + 1) cl4) (.slice pn3 ns3.length cn3)) := Lib.hid (HI11.out.only HG.out ho12 hr12 (fun e => ⟨e, Nat.le_succ m5⟩) hml)
           have c2 := HI12.out.rd.cell 2 _ rfl
           have f2d := HI12.out.rd.free 2
           clear hr12 ho12 ht2 HNX
           go_wp2_with fail
           go_roundg (b.length - (m5 + 1) + 1)
           case measure => have := Hkk.out; simp at this; omega
           case rel => exact ⟨j0, m5 + 1, false, fq, _, _, _, _, rfl, HI12.out.only HG.out ((OnlyR.refl R _).set 2 _) (HI12.out.rd.setBad false) (fun _ => ⟨rfl, Nat.le_refl _⟩) hml, .inr ⟨rfl, HNY.out, by have := HJ.out; omega, by have := HJ.out; omega, by have := HNM2.out; omega⟩⟩
          | false =>
           have HNO : Hid (inS [] k d obj (b.drop n1) ff = none) := by
            refine Lib.hid ?_
            rw [HNX.out]
            rcases Nat.lt_or_ge m5 b.length with h9 | h9
            ·rw [takeB_one _ h9, beq_eq_false_iff_ne] at ht2
             rw [drop_at h9]
             simp only
             rw [if_neg ht2]
            ·rw [List.drop_of_length_le h9]
           rw [ht2] at hr12
           have HI12 : Hid (InI w w12 R g5 g8 b obj m5 false fq (rs ++ [r]) ns3 (.slice pl4 (rs.length + 1) cl4) (.slice pn3 ns3.length cn3)) := Lib.hid (HI11.out.only HG.out ho12 hr12 (fun e => ⟨e, Nat.le_refl m5⟩) hm5)
           have c2 := HI12.out.rd.cell 2 _ rfl
           have f2d := HI12.out.rd.free 2
           clear hr12 ho12 ht2 HNX
           go_wp2_with fail
           go_roundg 0
           case measure => have := Hkk.out; simp at this; omega
           case rel => exact ⟨j0, m5, true, fq, _, _, _, _, rfl, HI12.out.only HG.out ((OnlyR.refl R _).set 2 _) (HI12.out.rd.setBad true) (fun e => by cases e) hm5, .inl ⟨rfl, HNO.out⟩⟩
end Go.Proofs.YtfclfaidmipjpaaGreatDoor
